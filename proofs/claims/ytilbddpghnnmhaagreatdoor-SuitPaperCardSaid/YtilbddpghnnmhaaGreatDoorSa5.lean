/- Functions, as sketches. -/
import Derived.Test.YtilbddpghnnmhaaGreatDoorSa4
namespace Go.Proofs.YtilbddpghnnmhaaGreatDoor
noncomputable section
open Go Go.Av
set_option linter.unusedSimpArgs false
set_option linter.unusedVariables false
set_option maxHeartbeats 1000000
set_option maxRecDepth 100000
def gw (f:jh) (day:Int):Sk (kS) :=
 .r 1 ((ju f day).c) fun x1 =>
 .r 2 (.o [.nrmm (mkM dB)]) fun _ =>
 .bind true (fun _=>True)
 (.loop (default:Sum (kS) ((List (Int × Bool)))) (fun i3=>i3.1≤x1.acts.length) (fun i3=>x1.acts.length - i3.1) ((0,([]:List (Int × Bool))):Nat × (List (Int × Bool)))
 (fun (i3:Nat × (List (Int × Bool)))=>⟨[(22,iv ((i3.1:Nat):Int))],[(17,mpM dB i3.2)]⟩) fun i3 =>
 .bnd 20 0 x1.acts.length <|
 .br (decide (((i3.1:Nat):Int) < ((x1.acts.length:Nat):Int)))
 (.r 5 (.p (ixP ((i3.1:Nat):Int) x1.acts.length)) fun _ =>
 .br (((x1.acts.getD i3.1 default).kind) == 7)
 (.r 7 (.andl (.t (Jy dB i3.2)) (.o [.nrmm (znU dB i3.2 ((x1.acts.getD i3.1 default).at_) true)])) fun _ =>
 .r 8 .z fun _ =>
 .wi 22 (w64 (((i3.1:Nat):Int)+1)) ((i3.1+1:Nat):Int) <|
 .fin (.inr (i3.1+1,gt i3.2 ((x1.acts.getD i3.1 default).at_) true)))
 (.r 8 .z fun _ =>
 .wi 22 (w64 (((i3.1:Nat):Int)+1)) ((i3.1+1:Nat):Int) <|
 .fin (.inr (i3.1+1,i3.2))))
 (.fin (.inl (.inr i3.2))))
 (fun (b2:(List (Int × Bool)))=>⟨[],[(17,mpM dB b2)]⟩) fun b2 =>
 .bind true (fun b4=>b4.length≤0+x1.signs.length)
 (.loop (default:Sum (kS) ((List Int))) (fun i5=>i5.1≤x1.signs.length∧i5.2.length≤0+i5.1) (fun i5=>x1.signs.length - i5.1) ((0,[]):Nat × (List Int))
 (fun (i5:Nat × (List Int))=>⟨[(37,iv ((i5.1:Nat):Int))],[(100002,jz 3 1 jC i5.2),(5,.box (f.cells.map .d++x1.cells.map .d++[iv day,ow 100002 i5.2]))]⟩) fun i5 =>
 .bnd 35 0 x1.signs.length <|
 .br (decide (((i5.1:Nat):Int) < ((x1.signs.length:Nat):Int)))
 (.r 11 (.p (ixP ((i5.1:Nat):Int) x1.signs.length)) fun _ =>
 .r 12 (.wh (((x1.signs.getD i5.1 default).kind) == 2) true (.andl (.t (Jy dB b2)) (.o [.cast 48 (zlM dB b2 ((i5.1:Nat):Int) false)]))) fun _ =>
 .br ((((x1.signs.getD i5.1 default).kind) == 2)&&(!(km b2 ((i5.1:Nat):Int) false)))
 (.r 13 (.andl (.o [.nrm (qk kA [(x1.signs.getD i5.1 default).part])]) (.andl (.o [.nrm (gy kA i5.2 [(x1.signs.getD i5.1 default).part])]) (.andl (.t (kA.ones [(x1.signs.getD i5.1 default).part])) (.p (szP i5.2.length [(x1.signs.getD i5.1 default).part].length 8))))) fun _ =>
 .r 14 .z fun _ =>
 .wi 37 (w64 (((i5.1:Nat):Int)+1)) ((i5.1+1:Nat):Int) <|
 .fin (.inr (i5.1+1,i5.2++[(x1.signs.getD i5.1 default).part])))
 (.r 14 .z fun _ =>
 .wi 37 (w64 (((i5.1:Nat):Int)+1)) ((i5.1+1:Nat):Int) <|
 .fin (.inr (i5.1+1,i5.2))))
 (.fin (.inl (.inr i5.2))))
 (fun (b4:(List Int))=>⟨[],[(100001,jz 3 1 jC b4),(5,.box (f.cells.map .d++x1.cells.map .d++[iv day,ow 100001 b4]))]⟩) fun b4 =>
 .r 15 ((Zh 100001 b4).c) fun x6 =>
 .wn 100001 b4.length x6.length <|
 .r 16 ((Jm 100001 64 x6).c) fun x7 =>
 .br (((x7.length:Nat):Int) == 0)
 (.r 18 (.o [.nrm (qk kA [0])]) fun _ =>
 .fin ({ all:=f,now:=x1,day:=day,lead:=[0] }:kS))
 (.fin ({ all:=f,now:=x1,day:=day,lead:=x7 }:kS))
def jY (f:jh) (day:Int):kS:=(gw f day).val
theorem zk9 (f:jh) (day:Int):(gw f day).pst (fun (x:kS)=>x.all=f∧x.now=ji f day∧x.day=day∧x.lead.length≠0∧x.lead.length≤1+f.signs.length):=by
  unfold gw
  try simp only [ju,Jm,Zh,zey.c,WY.c,jh.Small,jg.Small]
  exact okP

theorem YX (f:jh) (day:Int):(fun (x:kS)=>x.all=f∧x.now=ji f day∧x.day=day∧x.lead.length≠0∧x.lead.length≤1+f.signs.length) (jY f day):=have h:=Sk.pval _ (zk9 f day); h
theorem zmb (f:jh) (day:Int) (h_f_Small:f.Small):(gw f day).obs (fun _=>True):=by
  simp only [jh.Small,jg.Small] at h_f_Small
  unfold gw
  try simp only [ju,Jm,Zh,zey.c,WY.c,jh.Small,jg.Small]
  exact okD

def Bk (f:jh) (day:Int):Ctr (kS):=kk tok mixed Tryz.func143 [av f.cells,iv day] (fun x=>av x.cells) false (gw f day) (jY f day) (fun (h:(f.Small))=>zmb f day h) (fun (x:kS)=>x.all=f∧x.now=ji f day∧x.day=day∧x.lead.length≠0∧x.lead.length≤1+f.signs.length) (YX f day)
structure jq where
  known:Bool
  n:Int
  deriving Inhabited
def jq.cells (c:jq):List D:=[dB c.known,dI c.n]
def jq.E:Enc jq:=⟨jq.cells,2,fun _=>rfl,fun _=>rfl⟩
structure Said where
  cell:jq
  order:Int
  path:List Int
  err:Int
  deriving Inhabited
def Said.cells (c:Said):List D:=c.cell.cells++[dI c.order,slD jC c.path,dI c.err]
def Said.E:Enc Said:=⟨Said.cells,5,fun _=>rfl,fun _=>rfl⟩
structure ke where
  file:jh
  sign:Int
  holder:Int
  defence:Int
  due:Int
  day:Int
  deriving Inhabited
def ke.cells (c:ke):List D:=c.file.cells++[dI c.sign,dI c.holder,dI c.defence,dI c.due,dI c.day]
def ke.E:Enc ke:=⟨ke.cells,24,fun _=>rfl,fun _=>rfl⟩
def gj (a:kC) (v:ke):Sk (Bool) :=
 .fin (decide (a.at_≤v.sign))
def jZ (a:kC) (v:ke):Bool:=(gj a v).val
theorem Yb (a:kC) (v:ke):jZ a v=(decide (a.at_≤v.sign)):=rfl
theorem za5 (a:kC) (v:ke):(gj a v).obs (fun _=>True):=by
  unfold gj
  exact okE

def QA (a:kC) (v:ke):Ctr (Bool):=kk tok mixed Tryz.func168 [av a.cells,.ref v.cells] (fun x=>bv x) true (gj a v) (jZ a v) (fun (_:True)=>za5 a v)
def kR (s:List kC) (v:ke):Sk (Int) :=
 .bind true (fun b1=>∀ q,q < s.length→jZ (s.getD q default) v=false)
 (.loop (default:Sum (Int) (Unit)) (fun i2=>∀ q,q < i2→jZ (s.getD q default) v=false) (fun i2=>s.length - i2) (0:Nat)
 (fun (i2:Nat)=>⟨[(8,iv ((i2:Nat):Int))],[]⟩) fun i2 =>
 .bnd 0 0 s.length <|
 .br (decide (((i2:Nat):Int) < ((s.length:Nat):Int)))
 (.r 4 (.andl (.p (ixP ((i2:Nat):Int) s.length)) ((QA (s.getD i2 default) v).c)) fun x3 =>
 .br x3
 (.fin (.inl (.inl ((i2:Nat):Int))))
 (.r 6 .z fun _ =>
 .wi 8 (w64 (((i2:Nat):Int)+1)) ((i2+1:Nat):Int) <|
 .fin (.inr (i2+1))))
 (.fin (.inl (.inr ()))))
 (fun (_:Unit)=>⟨[],[]⟩) fun _ =>
 .fin (-1)
def ZK (s:List kC) (v:ke):Int:=(kR s v).val
theorem YN (s:List kC) (v:ke):(kR s v).pst (fun (x:Int)=>(x = -1∧∀ q,q < s.length→jZ (s.getD q default) v=false)∨(0≤x∧x < s.length∧jZ (s.getD x.toNat default) v=true∧∀ q,(q:Nat) < x.toNat→jZ (s.getD q default) v=false)):=by
  unfold kR
  try simp only [QA,Yb]
  exact okQ

theorem UV (s:List kC) (v:ke):(fun (x:Int)=>(x = -1∧∀ q,q < s.length→jZ (s.getD q default) v=false)∨(0≤x∧x < s.length∧jZ (s.getD x.toNat default) v=true∧∀ q,(q:Nat) < x.toNat→jZ (s.getD q default) v=false)) (ZK s v):=have h:=Sk.pval _ (YN s v); h
theorem Gl (s:List kC) (v:ke):(kR s v).obs (fun _=>True):=by
  unfold kR
  try simp only [QA,Yb]
  exact okG

def yc (s:List kC) (v:ke):Ctr (Int):=kk tok mixed Tryz.func203 [lv kC.cells s,.fn 168 [.ref v.cells]] (fun x=>iv x) true (kR s v) (ZK s v) (fun (_:True)=>Gl s v) (fun (x:Int)=>(x = -1∧∀ q,q < s.length→jZ (s.getD q default) v=false)∨(0≤x∧x < s.length∧jZ (s.getD x.toNat default) v=true∧∀ q,(q:Nat) < x.toNat→jZ (s.getD q default) v=false)) (UV s v)
def ku (s:List kC) (v:ke):Sk (Bool) :=
 .r 1 ((yc s v).c) fun x1 =>
 .fin (decide (x1≥0))
def Kx (s:List kC) (v:ke):Bool:=(ku s v).val
theorem VM (s:List kC) (v:ke):(ku s v).pst (fun (x:Bool)=>(x=true↔∃ q,q < s.length∧jZ (s.getD q default) v=true)):=by
  unfold ku
  try simp only [yc]
  exact okP

theorem Va (s:List kC) (v:ke):(fun (x:Bool)=>(x=true↔∃ q,q < s.length∧jZ (s.getD q default) v=true)) (Kx s v):=have h:=Sk.pval _ (VM s v); h
theorem UD (s:List kC) (v:ke):(ku s v).obs (fun _=>True):=by
  unfold ku
  try simp only [yc]
  exact okE

def vr (s:List kC) (v:ke):Ctr (Bool):=kk tok mixed Tryz.func167 [lv kC.cells s,.fn 168 [.ref v.cells]] (fun x=>bv x) true (ku s v) (Kx s v) (fun (_:True)=>UD s v) (fun (x:Bool)=>(x=true↔∃ q,q < s.length∧jZ (s.getD q default) v=true)) (Va s v)
def Jn (r:jg) (city:Int):Sk (Int) :=
 .r 1 ((kb city ((r.cities.length:Nat):Int)).c) fun x1 =>
 .br (!x1)
 (.fin (-1))
 (.r 3 (.p (ixP city r.cities.length)) fun _ =>
 .fin ((r.cities.getD city.toNat default).order))
def zij (r:jg) (city:Int):Int:=(Jn r city).val
theorem zce (r:jg) (city:Int):(Jn r city).obs (fun _=>True):=by
  unfold Jn
  try simp only [kb,vM]
  exact okG

def kp (r:jg) (city:Int):Ctr (Int):=kk tok mixed Tryz.func133 [av r.cells,iv city] (fun x=>iv x) true (Jn r city) (zij r city) (fun (_:True)=>zce r city)
def JS (is_:Bool):Sk (jq) :=
 .br is_
 (.fin ({ known:=true,n:=1 }:jq))
 (.fin ({ known:=true,n:=0 }:jq))
def zkD (is_:Bool):jq:=(JS is_).val
theorem zdz (is_:Bool):(JS is_).obs (fun _=>True):=by
  unfold JS
  exact okE

def gD (is_:Bool):Ctr (jq):=kk tok mixed Tryz.func71 [bv is_] (fun x=>av x.cells) true (JS is_) (zkD is_) (fun (_:True)=>zdz is_)
def KR (f:jh) (kind:Int) (at_:Int):Sk (jq) :=
 .bind true (fun _=>True)
 (.loop (default:Sum (jq) (Unit)) (fun i2=>i2≤f.facts.length) (fun i2=>f.facts.length - i2) (0:Nat)
 (fun (i2:Nat)=>⟨[(12,iv ((i2:Nat):Int))],[]⟩) fun i2 =>
 .bnd 10 0 f.facts.length <|
 .br (decide (((i2:Nat):Int) < ((f.facts.length:Nat):Int)))
 (.r 3 (.p (ixP ((i2:Nat):Int) f.facts.length)) fun _ =>
 .br ((((f.facts.getD i2 default).kind) == kind)&&(((f.facts.getD i2 default).at_) == at_))
 (.r 5 ((gD (((f.facts.getD i2 default).n) != 0)).c) fun x3 =>
 .fin (.inl (.inl x3)))
 (.r 6 .z fun _ =>
 .wi 12 (w64 (((i2:Nat):Int)+1)) ((i2+1:Nat):Int) <|
 .fin (.inr (i2+1))))
 (.fin (.inl (.inr ()))))
 (fun (_:Unit)=>⟨[],[]⟩) fun _ =>
 .fin ({ known:=false,n:=0 }:jq)
def zmG (f:jh) (kind:Int) (at_:Int):jq:=(KR f kind at_).val
theorem zgb (f:jh) (kind:Int) (at_:Int):(KR f kind at_).obs (fun _=>True):=by
  unfold KR
  try simp only [gD]
  exact okD

def kd (f:jh) (kind:Int) (at_:Int):Ctr (jq):=kk tok mixed Tryz.func48 [av f.cells,iv kind,iv at_] (fun x=>av x.cells) true (KR f kind at_) (zmG f kind at_) (fun (_:True)=>zgb f kind at_)
def uN (r:jg) (c_:ke):Sk ((List jq)) :=
 .r 3 (.dep ((ql c_.sign ((c_.file.signs.length:Nat):Int)).c) fun x1=>.wh (((!x1)||(decide (c_.holder < (-1))))||(decide ((ki c_.holder 0)≥((c_.file.signs.length:Nat):Int)))) false (.wh (c_.due != (-1)) true ((ql c_.due 100001).c))) fun p25 =>
 .br ((((!p25.1)||(decide (c_.holder < (-1))))||(decide ((ki c_.holder 0)≥((c_.file.signs.length:Nat):Int))))||((c_.due != (-1))&&(!p25.2)))
 (.fin [])
 (.r 5 (.p (ixP c_.sign c_.file.signs.length)) fun _ =>
 .r 6 ((ql ((c_.file.signs.getD c_.sign.toNat default).day) 100001).c) fun x3 =>
 .br (!x3)
 (.fin [])
 (.bind false (fun _=>True)
 (.br (c_.due != (-1))
 (.fin (.inr (w64 (((c_.file.signs.getD c_.sign.toNat default).day) - c_.due))))
 (.fin (.inr 0)))
 (fun (b4:Int)=>⟨[(9,iv b4)],[]⟩) fun b4 =>
 .r 11 (.andl (.o [.nrm (mkC jq.E 20 ({ known:=false,n:=0 }:jq))]) (.p (mkP (20:Int) 16))) fun _ =>
 .r 12 (.andl (.o [.nrmm zsT]) (.andl (.o [.nrmm (zsH dI 0 c_.file.bill.sum)]) (.andl (.o [.nrmm (zcO dI [0] [c_.file.bill.sum] rfl 1 c_.file.bill.parts)]) (.andl (.o [.nrmm (zcO dI [0,1] [c_.file.bill.sum,c_.file.bill.parts] rfl 2 c_.file.bill.tenor.kind)]) (.andl (.o [.nrmm (zcO dI [0,1,2] [c_.file.bill.sum,c_.file.bill.parts,c_.file.bill.tenor.kind] rfl 3 c_.file.bill.rate)]) (.andl (.o [.nrmm (zcO dI [0,1,2,3] [c_.file.bill.sum,c_.file.bill.parts,c_.file.bill.tenor.kind,c_.file.bill.rate] rfl 4 ((c_.file.signs.getD c_.sign.toNat default).kind))]) (.andl (.o [.nrmm (zcO dI [0,1,2,3,4] [c_.file.bill.sum,c_.file.bill.parts,c_.file.bill.tenor.kind,c_.file.bill.rate,(c_.file.signs.getD c_.sign.toNat default).kind] rfl 5 c_.defence)]) (.o [.nrmm (zcO dI [0,1,2,3,4,5] [c_.file.bill.sum,c_.file.bill.parts,c_.file.bill.tenor.kind,c_.file.bill.rate,(c_.file.signs.getD c_.sign.toNat default).kind,c_.defence] rfl 6 b4)])))))))) fun _ =>
 .bind true (fun b5=>b5.length=20)
 (.mr 7 (fun g6=>g6.length=20) (List.replicate 20 ({ known:=false,n:=0 }:jq):(List jq))
 (fun g6 s8=>⟨[(10,ow 100002 g6)],[(100002,jz 95 2 jq.cells g6),(90,.it 74 7 s8)]⟩)
 (fun g9=>⟨[(10,ow 100002 g9)],[(100002,jz 95 2 jq.cells g9)]⟩)
 (fun g6 i7 =>
 .brt <|
 .r 14 (.p (i7 < 7)) fun _ =>
 .r 15 (.andl (.p (ixP (([0,1,2,3,4,5,6]:List Int).getD i7 0) g6.length)) (.andl (.o [.nrm (VI jq.E g6 ((([0,1,2,3,4,5,6]:List Int).getD i7 0).toNat) ({ known:=true,n:=([c_.file.bill.sum,c_.file.bill.parts,c_.file.bill.tenor.kind,c_.file.bill.rate,(c_.file.signs.getD c_.sign.toNat default).kind,c_.defence,b4]:List Int).getD i7 default }:jq))]) (.p ((([0,1,2,3,4,5,6]:List Int).getD i7 0).toNat < g6.length)))) fun _ =>
 .wn 100002 g6.length (g6.set ((([0,1,2,3,4,5,6]:List Int).getD i7 0).toNat) ({ known:=true,n:=([c_.file.bill.sum,c_.file.bill.parts,c_.file.bill.tenor.kind,c_.file.bill.rate,(c_.file.signs.getD c_.sign.toNat default).kind,c_.defence,b4]:List Int).getD i7 default }:jq)).length <|
 .fin (g6.set ((([0,1,2,3,4,5,6]:List Int).getD i7 0).toNat) ({ known:=true,n:=([c_.file.bill.sum,c_.file.bill.parts,c_.file.bill.tenor.kind,c_.file.bill.rate,(c_.file.signs.getD c_.sign.toNat default).kind,c_.defence,b4]:List Int).getD i7 default }:jq))) fun g9 =>
 .brf <|
 .fin (.inr g9))
 (fun (b5:(List jq))=>⟨[(90,.any),(10,ow 100001 b5)],[(100001,jz 95 2 jq.cells b5)]⟩) fun b5 =>
 .r 16 ((vr c_.file.alters c_).c) fun x10 =>
 .r 17 (.dep ((kp r c_.file.bill.city).c) fun _=>(kp r c_.file.bill.pay).c) fun p24 =>
 .r 18 (.andl (.o [.nrmm zsT]) (.andl (.o [.nrmm (zsH dB 7 ((qg .i64 c_.file.bill.flags 1) != 0))]) (.andl (.o [.nrmm (zcO dB [7] [(qg .i64 c_.file.bill.flags 1) != 0] rfl 8 (c_.file.bill.payee == (-1)))]) (.andl (.o [.nrmm (zcO dB [7,8] [(qg .i64 c_.file.bill.flags 1) != 0,c_.file.bill.payee == (-1)] rfl 9 ((qg .i64 c_.file.bill.flags 4) != 0))]) (.andl (.o [.nrmm (zcO dB [7,8,9] [(qg .i64 c_.file.bill.flags 1) != 0,c_.file.bill.payee == (-1),(qg .i64 c_.file.bill.flags 4) != 0] rfl 10 ((qg .i64 c_.file.bill.flags 2) != 0))]) (.andl (.o [.nrmm (zcO dB [7,8,9,10] [(qg .i64 c_.file.bill.flags 1) != 0,c_.file.bill.payee == (-1),(qg .i64 c_.file.bill.flags 4) != 0,(qg .i64 c_.file.bill.flags 2) != 0] rfl 11 (p24.1 != p24.2))]) (.andl (.o [.nrmm (zcO dB [7,8,9,10,11] [(qg .i64 c_.file.bill.flags 1) != 0,c_.file.bill.payee == (-1),(qg .i64 c_.file.bill.flags 4) != 0,(qg .i64 c_.file.bill.flags 2) != 0,p24.1 != p24.2] rfl 12 x10)]) (.andl (.o [.nrmm (zcO dB [7,8,9,10,11,12] [(qg .i64 c_.file.bill.flags 1) != 0,c_.file.bill.payee == (-1),(qg .i64 c_.file.bill.flags 4) != 0,(qg .i64 c_.file.bill.flags 2) != 0,p24.1 != p24.2,x10] rfl 13 ((qg .i64 ((c_.file.signs.getD c_.sign.toNat default).flags) 1) != 0))]) (.o [.nrmm (zcO dB [7,8,9,10,11,12,13] [(qg .i64 c_.file.bill.flags 1) != 0,c_.file.bill.payee == (-1),(qg .i64 c_.file.bill.flags 4) != 0,(qg .i64 c_.file.bill.flags 2) != 0,p24.1 != p24.2,x10,(qg .i64 ((c_.file.signs.getD c_.sign.toNat default).flags) 1) != 0] rfl 14 (decide (b4 > 0)))]))))))))) fun _ =>
 .bind true (fun b13=>b13.length=20)
 (.mr 8 (fun g14=>g14.length=20) (b5:(List jq))
 (fun g14 s16=>⟨[(10,ow 100005 g14)],[(100005,jz 95 2 jq.cells g14),(139,.it 114 8 s16)]⟩)
 (fun g18=>⟨[(10,ow 100005 g18)],[(100005,jz 95 2 jq.cells g18)]⟩)
 (fun g14 i15 =>
 .brt <|
 .r 20 (.p (i15 < 8)) fun _ =>
 .r 21 (.depr ((gD (([(qg .i64 c_.file.bill.flags 1) != 0,c_.file.bill.payee == (-1),(qg .i64 c_.file.bill.flags 4) != 0,(qg .i64 c_.file.bill.flags 2) != 0,p24.1 != p24.2,x10,(qg .i64 ((c_.file.signs.getD c_.sign.toNat default).flags) 1) != 0,decide (b4 > 0)]:List Bool).getD i15 default)).c) fun x17=>.andl (.p (ixP (([7,8,9,10,11,12,13,14]:List Int).getD i15 0) g14.length)) (.andl (.o [.nrm (VI jq.E g14 ((([7,8,9,10,11,12,13,14]:List Int).getD i15 0).toNat) x17)]) (.p ((([7,8,9,10,11,12,13,14]:List Int).getD i15 0).toNat < g14.length)))) fun x17 =>
 .wn 100005 g14.length (g14.set ((([7,8,9,10,11,12,13,14]:List Int).getD i15 0).toNat) x17).length <|
 .fin (g14.set ((([7,8,9,10,11,12,13,14]:List Int).getD i15 0).toNat) x17)) fun g18 =>
 .brf <|
 .fin (.inr g18))
 (fun (b13:(List jq))=>⟨[(139,.any),(10,ow 100004 b13)],[(100004,jz 95 2 jq.cells b13)]⟩) fun b13 =>
 .r 22 (.depr ((kd c_.file 0 c_.sign).c) fun x19=>.andl (.p (ixP (15:Int) b13.length)) (.andl (.o [.nrm (VI jq.E b13 15 x19)]) (.p (15 < b13.length)))) fun x19 =>
 .wn 100004 b13.length (b13.set 15 x19).length <|
 .r 23 (.depr ((kd c_.file 1 c_.sign).c) fun x20=>.andl (.p (ixP (16:Int) ((b13.set 15 x19).length))) (.andl (.o [.nrm (VI jq.E (b13.set 15 x19) 16 x20)]) (.p (16 < (b13.set 15 x19).length)))) fun x20 =>
 .wn 100004 (b13.set 15 x19).length ((b13.set 15 x19).set 16 x20).length <|
 .r 24 (.depr ((kd c_.file 2 c_.sign).c) fun x21=>.andl (.p (ixP (17:Int) (((b13.set 15 x19).set 16 x20).length))) (.andl (.o [.nrm (VI jq.E ((b13.set 15 x19).set 16 x20) 17 x21)]) (.p (17 < ((b13.set 15 x19).set 16 x20).length)))) fun x21 =>
 .wn 100004 ((b13.set 15 x19).set 16 x20).length (((b13.set 15 x19).set 16 x20).set 17 x21).length <|
 .r 25 (.depr ((kd c_.file 3 (ki c_.holder 0)).c) fun x22=>.andl (.p (ixP (18:Int) ((((b13.set 15 x19).set 16 x20).set 17 x21).length))) (.andl (.o [.nrm (VI jq.E (((b13.set 15 x19).set 16 x20).set 17 x21) 18 x22)]) (.p (18 < (((b13.set 15 x19).set 16 x20).set 17 x21).length)))) fun x22 =>
 .wn 100004 (((b13.set 15 x19).set 16 x20).set 17 x21).length ((((b13.set 15 x19).set 16 x20).set 17 x21).set 18 x22).length <|
 .r 26 (.depr ((kd c_.file 4 (ki c_.holder 0)).c) fun x23=>.andl (.p (ixP (19:Int) (((((b13.set 15 x19).set 16 x20).set 17 x21).set 18 x22).length))) (.andl (.o [.nrm (VI jq.E ((((b13.set 15 x19).set 16 x20).set 17 x21).set 18 x22) 19 x23)]) (.p (19 < ((((b13.set 15 x19).set 16 x20).set 17 x21).set 18 x22).length)))) fun x23 =>
 .wn 100004 ((((b13.set 15 x19).set 16 x20).set 17 x21).set 18 x22).length (((((b13.set 15 x19).set 16 x20).set 17 x21).set 18 x22).set 19 x23).length <|
 .fin (((((b13.set 15 x19).set 16 x20).set 17 x21).set 18 x22).set 19 x23)))
def XQ (r:jg) (c_:ke):(List jq):=(uN r c_).val
theorem zrD:(∀ i,i < 7→0≤([0,1,2,3,4,5,6]:List Int).getD i 0∧([0,1,2,3,4,5,6]:List Int).getD i 0 < 20)∧∀ i,i < 7→∀ j,j < 7→i≠j→(([0,1,2,3,4,5,6]:List Int).getD j 0).toNat≠(([0,1,2,3,4,5,6]:List Int).getD i 0).toNat:=by decide
theorem zrK:(∀ i,i < 8→0≤([7,8,9,10,11,12,13,14]:List Int).getD i 0∧([7,8,9,10,11,12,13,14]:List Int).getD i 0 < 20)∧∀ i,i < 8→∀ j,j < 8→i≠j→(([7,8,9,10,11,12,13,14]:List Int).getD j 0).toNat≠(([7,8,9,10,11,12,13,14]:List Int).getD i 0).toNat:=by decide
theorem zd9 (r:jg) (c_:ke):(uN r c_).pst (fun (x:(List jq))=>x=[]∨(x.length=20∧0≤c_.sign∧c_.sign < c_.file.signs.length)):=by
  refine Sk.pst_of _ ?_
  unfold uN
  simp only [Sk.pstq,Sk.isLoop,reduceCtorEq,ON,kk,kp,kd,gD,ql,vr,uv,forall_eq,maxLen]
  all_goals (repeat' first | assumption | (apply And.intro) | (intro h))
  all_goals first | trivial | assumption | omega | ((try simp only [LN] at *) <;> first | omega | (refine (jj ?_ ?_).trans ?_ <;> omega) | (simp (disch:=omega) only [jj] at *; omega) | (grind) | (simp_all; done) | (simp_all; omega))

theorem zcy (r:jg) (c_:ke):(fun (x:(List jq))=>x=[]∨(x.length=20∧0≤c_.sign∧c_.sign < c_.file.signs.length)) (XQ r c_):=have h:=Sk.pval _ (zd9 r c_); h
theorem zgC (r:jg) (c_:ke):(uN r c_).obs (fun _=>True):=by
  refine Sk.obs_of _ ?_
  unfold uN
  simp only [Sk.obq,Sk.isLoop,reduceCtorEq,ON,kk,Sk.pst,kp,kd,gD,ql,vr,uv,forall_eq,maxLen]
  all_goals (repeat' first | (apply And.intro) | (intro h))
  all_goals first | trivial | assumption | omega | (have:=zrD.1 _ ‹_ < 7›; (try simp only [LN] at *) <;> omega) | (have:=zrK.1 _ ‹_ < 8›; (try simp only [LN] at *) <;> omega) | exact List.set_comm _ _ (zrD.2 _ ‹_› _ ‹_› ‹_›) | exact List.set_comm _ _ (zrK.2 _ ‹_› _ ‹_› ‹_›) | ((try simp only [LN] at *) <;> omega)

def YP (r:jg) (c_:ke):Ctr ((List jq)):=kk tok mixed Tryz.func136 [av r.cells,av c_.cells] (fun x=>lv jq.cells x) false (uN r c_) (XQ r c_) (fun (_:True)=>zgC r c_) (fun (x:(List jq))=>x=[]∨(x.length=20∧0≤c_.sign∧c_.sign < c_.file.signs.length)) (zcy r c_)
def VW (r:jg) (c_:ke):Sk (ke × (List jq)) :=
 .r 1 ((ju c_.file c_.day).c) fun x1 =>
 .r 2 ((YP r ({ file:=x1,sign:=c_.sign,holder:=c_.holder,defence:=c_.defence,due:=c_.due,day:=c_.day }:ke)).c) fun x2 =>
 .fin (({ file:=x1,sign:=c_.sign,holder:=c_.holder,defence:=c_.defence,due:=c_.due,day:=c_.day }:ke),x2)
def znB (r:jg) (c_:ke):ke × (List jq):=(VW r c_).val
theorem znX (r:jg) (c_:ke):(VW r c_).pst (fun (x:ke × (List jq))=>x.2=[]∨(x.2.length=20∧0≤x.1.sign∧x.1.sign < x.1.file.signs.length)):=by
  unfold VW
  try simp only [ju,YP,jh.Small,jg.Small]
  exact okP

theorem zl4 (r:jg) (c_:ke):(fun (x:ke × (List jq))=>x.2=[]∨(x.2.length=20∧0≤x.1.sign∧x.1.sign < x.1.file.signs.length)) (znB r c_):=have h:=Sk.pval _ (znX r c_); h
theorem zpb (r:jg) (c_:ke) (hf:c_.file.Small):(VW r c_).obs (fun _=>True):=by
  simp only [jh.Small,jg.Small] at hf
  unfold VW
  try simp only [ju,YP,jh.Small,jg.Small]
  exact okD

def zfH (r:jg) (c_:ke):Ctr (ke × (List jq)):=kk tok mixed Tryz.func108 [av r.cells,av c_.cells] (fun x=>.tup [av x.1.cells,lv jq.cells x.2]) false (VW r c_) (znB r c_) (fun (h:(c_.file.Small))=>zpb r c_ h) (fun (x:ke × (List jq))=>x.2=[]∨(x.2.length=20∧0≤x.1.sign∧x.1.sign < x.1.file.signs.length)) (zl4 r c_)
theorem ze4 {n:Nat} {g:Nat→Int} (h:∀ q,q < n→q≠0→g (q - 1)≤g q) (i:Nat):∀ k,i+k < n→g i≤g (i+k)
  | 0,_=>Int.le_refl _
  | k+1,hk=>Int.le_trans (ze4 h i k (by omega)) (h (i+(k+1)) hk (by omega))
theorem zoG {α:Type} [Inhabited α] (p:α→Bool):∀ (l:List α) (i:Nat),i < l.length→(∀ q,q≤i→p (l.getD q default)=true)→i < (l.takeWhile p).length
  | [],i,h,_=>absurd h (by simp)
  | x :: r,i,h,hp=>by
    have h0:p x=true:=hp 0 (by omega)
    rw [List.takeWhile_cons,h0,if_pos rfl,List.length_cons]
    cases i with
    | zero=>omega
    | succ i=>have:=zoG p r i (by simpa using h) (fun q hq=>by have:=hp (q+1) (by omega); simpa using this); omega
theorem jX.mono {r:jg} {f:jh} (h:jX r f) {i j:Nat} (hij:i≤j) (hj:j < f.signs.length):(f.signs.getD i default).day≤(f.signs.getD j default).day:=by
  have:=ze4 (n:=f.signs.length) (g:=fun q=>(f.signs.getD q default).day) (fun q hq h0=>(h.2.2.1 q hq).2.1 h0) i (j - i) (by omega)
  rwa [show i+(j - i)=j by omega] at this
theorem jX.at_in {r:jg} {f:jh} (h:jX r f) {d y:Int} (h0:0≤y) (h1:y < f.signs.length) (h2:(f.signs.getD y.toNat default).day≤d):y < (ji f d).signs.length:=by
  have:y.toNat < (ji f d).signs.length:=by
    rw [Qc]
    refine zoG _ _ _ (by omega) (fun q hq=>decide_eq_true ?_)
    have:=h.mono hq (by omega)
    omega
  omega
theorem zlX (f:jh) (d:Int):(ji f d).bill=f.bill:=by rw [Qc]
theorem zal (f:jh) (d:Int) (i:Nat) (h:i < (ji f d).signs.length):(ji f d).signs.getD i default=f.signs.getD i default:=by
  rw [Qc] at h ⊢
  exact (HS _ _ _ h).1
theorem Ql (f:jh) (d:Int):(ji f d).signs.length≤f.signs.length:=by
  rw [Qc]
  exact (List.takeWhile_sublist _).length_le
theorem zop {f:jh} (h:f.SumOK) (d:Int):(ji f d).SumOK:=by
  obtain ⟨h1,h2,h3,h4⟩:=h
  have h2:=(Gn (P:=fun x:kC=>JH x.sum)).1 h2
  have h3:=(Gn (P:=fun x:qt=>JH x.sum)).1 h3
  have h4:=(Gn (P:=fun x:jI=>JH x.sum)).1 h4
  unfold jh.SumOK
  rw [Qc]
  exact ⟨h1,(Gn (P:=fun x:kC=>JH x.sum)).2 fun x hx=>h2 x (List.mem_filter.1 hx).1,(Gn (P:=fun x:qt=>JH x.sum)).2 fun x hx=>h3 x ((List.takeWhile_sublist _).subset hx),(Gn (P:=fun x:jI=>JH x.sum)).2 fun x hx=>h4 x ((List.takeWhile_sublist _).subset hx)⟩
theorem jX.at_sums {r:jg} {f:jh} (h:jX r f) (d:Int):(ji f d).SumOK:=zop h.sums d
theorem XR {f:jh} (h:f.Small) (d:Int):(ji f d).Small:=by
  have h1:=Um f d
  unfold jh.Small at h ⊢
  dsimp only at h1
  omega
theorem jX.at_base {r:jg} {f:jh} (h:jX r f) (d:Int):∀ i,i < (ji f d).signs.length→(((ji f d).signs.getD i default).kind=3∨((ji f d).signs.getD i default).kind=4)→0≤((ji f d).signs.getD i default).for_∧((ji f d).signs.getD i default).for_ < (i:Int):=by
  intro i hi
  rw [zal f d i hi]
  have:=Ql f d
  exact (h.2.2.1 i (by omega)).2.2.2.2.2.2.2.2
theorem jX.at_who {r:jg} {f:jh} (h:jX r f) (d:Int) {y:Int} (h0:0≤y) (h1:y < (ji f d).signs.length):0≤((ji f d).signs.getD y.toNat default).who∧((ji f d).signs.getD y.toNat default).who < (r.firms.length:Int):=by
  rw [zal f d y.toNat (by omega)]
  have:=Ql f d
  exact (h.2.2.1 y.toNat (by omega)).1
def Zu (ask:Int):Sk (Int × Bool) :=
 .br ((decide (ask < 0))||(decide (ask≥22)))
 (.fin (0,false))
 (.r 3 (.andl (.o [.nrm (qk kA [6,7,10,12,13,14,15,16,20,21])]) ((jr [6,7,10,12,13,14,15,16,20,21] ask).c)) fun x1 =>
 .br x1
 (.fin (0,true))
 (.fin (1,true)))
def znO (ask:Int):Int × Bool:=(Zu ask).val
theorem ziA (ask:Int):(Zu ask).obs (fun _=>True):=by
  unfold Zu
  try simp only [jr]
  exact okE

def yq (ask:Int):Ctr (Int × Bool):=kk tok mixed Tryz.func109 [iv ask] (fun x=>.tup [iv x.1,bv x.2]) true (Zu ask) (znO ask) (fun (_:True)=>ziA ask)
def Zd (r:jg) (forum:Int) (c_:ke):Sk ((List Int)) :=
 .r 1 (.p (ixP c_.sign c_.file.signs.length)) fun _ =>
 .br ((((decide (((c_.file.signs.getD c_.sign.toNat default).who) < 0))||(decide (((c_.file.signs.getD c_.sign.toNat default).who)≥((r.firms.length:Nat):Int))))||(decide (forum < 0)))||(decide (forum≥((r.orders.length:Nat):Int))))
 (.fin [])
 (.r 4 (.andl (.o [.nrm (mkC kA 5 0)]) (.p (mkP (5:Int) 8))) fun _ =>
 .r 5 (.andl (.p (ixP (0:Int) ((List.replicate 5 (0:Int)).length))) (.andl (.o [.nrm (VI kA (List.replicate 5 (0:Int)) 0 forum)]) (.p (0 < (List.replicate 5 (0:Int)).length)))) fun _ =>
 .wn 42 (List.replicate 5 (0:Int)).length ((List.replicate 5 (0:Int)).set 0 forum).length <|
 .r 6 (.depr ((kp r ((c_.file.signs.getD c_.sign.toNat default).city)).c) fun x1=>.andl (.p (ixP (1:Int) (((List.replicate 5 (0:Int)).set 0 forum).length))) (.andl (.o [.nrm (VI kA ((List.replicate 5 (0:Int)).set 0 forum) 1 x1)]) (.p (1 < ((List.replicate 5 (0:Int)).set 0 forum).length)))) fun x1 =>
 .wn 42 ((List.replicate 5 (0:Int)).set 0 forum).length (((List.replicate 5 (0:Int)).set 0 forum).set 1 x1).length <|
 .r 7 (.depr ((kp r c_.file.bill.pay).c) fun x2=>.andl (.p (ixP (2:Int) ((((List.replicate 5 (0:Int)).set 0 forum).set 1 x1).length))) (.andl (.o [.nrm (VI kA (((List.replicate 5 (0:Int)).set 0 forum).set 1 x1) 2 x2)]) (.p (2 < (((List.replicate 5 (0:Int)).set 0 forum).set 1 x1).length)))) fun x2 =>
 .wn 42 (((List.replicate 5 (0:Int)).set 0 forum).set 1 x1).length ((((List.replicate 5 (0:Int)).set 0 forum).set 1 x1).set 2 x2).length <|
 .r 8 (.depr ((kp r c_.file.bill.city).c) fun x3=>.andl (.p (ixP (3:Int) (((((List.replicate 5 (0:Int)).set 0 forum).set 1 x1).set 2 x2).length))) (.andl (.o [.nrm (VI kA ((((List.replicate 5 (0:Int)).set 0 forum).set 1 x1).set 2 x2) 3 x3)]) (.p (3 < ((((List.replicate 5 (0:Int)).set 0 forum).set 1 x1).set 2 x2).length)))) fun x3 =>
 .wn 42 ((((List.replicate 5 (0:Int)).set 0 forum).set 1 x1).set 2 x2).length (((((List.replicate 5 (0:Int)).set 0 forum).set 1 x1).set 2 x2).set 3 x3).length <|
 .r 9 (.andl (.p (ixP ((c_.file.signs.getD c_.sign.toNat default).who) r.firms.length)) (.depr ((kp r ((r.firms.getD (((c_.file.signs.getD c_.sign.toNat default).who).toNat) default).city)).c) fun x4=>.andl (.p (ixP (4:Int) ((((((List.replicate 5 (0:Int)).set 0 forum).set 1 x1).set 2 x2).set 3 x3).length))) (.andl (.o [.nrm (VI kA (((((List.replicate 5 (0:Int)).set 0 forum).set 1 x1).set 2 x2).set 3 x3) 4 x4)]) (.p (4 < (((((List.replicate 5 (0:Int)).set 0 forum).set 1 x1).set 2 x2).set 3 x3).length))))) fun x4 =>
 .wn 42 (((((List.replicate 5 (0:Int)).set 0 forum).set 1 x1).set 2 x2).set 3 x3).length ((((((List.replicate 5 (0:Int)).set 0 forum).set 1 x1).set 2 x2).set 3 x3).set 4 x4).length <|
 .r 10 ((jr ((((((List.replicate 5 (0:Int)).set 0 forum).set 1 x1).set 2 x2).set 3 x3).set 4 x4) (-1)).c) fun x5 =>
 .br x5
 (.fin [])
 (.fin ((((((List.replicate 5 (0:Int)).set 0 forum).set 1 x1).set 2 x2).set 3 x3).set 4 x4)))
def znT (r:jg) (forum:Int) (c_:ke):(List Int):=(Zd r forum c_).val
theorem ziE (r:jg) (forum:Int) (c_:ke) (hs:0≤c_.sign∧c_.sign < c_.file.signs.length):(Zd r forum c_).obs (fun _=>True):=by
  unfold Zd
  try simp only [kp,jr]
  exact okD

def Wf (r:jg) (forum:Int) (c_:ke):Ctr ((List Int)):=kk tok mixed Tryz.func110 [av r.cells,iv forum,av c_.cells] (fun x=>.d (bif x.isEmpty then .v (.slice none 0 0) else slD jC x)) false (Zd r forum c_) (znT r forum c_) (fun (h:(0≤c_.sign∧c_.sign < c_.file.signs.length))=>ziE r forum c_ h)
def um (o:Int) (v:Int):Sk (Bool) :=
 .fin ((decide (o < 0))||(decide (o≥v)))
def jQ (o:Int) (v:Int):Bool:=(um o v).val
theorem JB (o:Int) (v:Int):jQ o v=((decide (o < 0))||(decide (o≥v))):=rfl
theorem FV (o:Int) (v:Int):(um o v).obs (fun _=>True):=by
  unfold um
  exact okE

def Ko (o:Int) (v:Int):Ctr (Bool):=kk tok mixed Tryz.func170 [iv o,.ref [dI v]] (fun x=>bv x) true (um o v) (jQ o v) (fun (_:True)=>FV o v)
def kM (s:List Int) (v:Int):Sk (Int) :=
 .bind true (fun b1=>∀ q,q < s.length→jQ (s.getD q default) v=false)
 (.loop (default:Sum (Int) (Unit)) (fun i2=>∀ q,q < i2→jQ (s.getD q default) v=false) (fun i2=>s.length - i2) (0:Nat)
 (fun (i2:Nat)=>⟨[(8,iv ((i2:Nat):Int))],[]⟩) fun i2 =>
 .bnd 0 0 s.length <|
 .br (decide (((i2:Nat):Int) < ((s.length:Nat):Int)))
 (.r 4 (.andl (.p (ixP ((i2:Nat):Int) s.length)) ((Ko (s.getD i2 default) v).c)) fun x3 =>
 .br x3
 (.fin (.inl (.inl ((i2:Nat):Int))))
 (.r 6 .z fun _ =>
 .wi 8 (w64 (((i2:Nat):Int)+1)) ((i2+1:Nat):Int) <|
 .fin (.inr (i2+1))))
 (.fin (.inl (.inr ()))))
 (fun (_:Unit)=>⟨[],[]⟩) fun _ =>
 .fin (-1)
def ZE (s:List Int) (v:Int):Int:=(kM s v).val
theorem YY (s:List Int) (v:Int):(kM s v).pst (fun (x:Int)=>(x = -1∧∀ q,q < s.length→jQ (s.getD q default) v=false)∨(0≤x∧x < s.length∧jQ (s.getD x.toNat default) v=true∧∀ q,(q:Nat) < x.toNat→jQ (s.getD q default) v=false)):=by
  unfold kM
  try simp only [Ko,JB]
  exact okQ

theorem UN (s:List Int) (v:Int):(fun (x:Int)=>(x = -1∧∀ q,q < s.length→jQ (s.getD q default) v=false)∨(0≤x∧x < s.length∧jQ (s.getD x.toNat default) v=true∧∀ q,(q:Nat) < x.toNat→jQ (s.getD q default) v=false)) (ZE s v):=have h:=Sk.pval _ (YY s v); h
theorem GE (s:List Int) (v:Int):(kM s v).obs (fun _=>True):=by
  unfold kM
  try simp only [Ko,JB]
  exact okG

def yb (s:List Int) (v:Int):Ctr (Int):=kk tok mixed Tryz.func204 [lv jC s,.fn 170 [.ref [dI v]]] (fun x=>iv x) true (kM s v) (ZE s v) (fun (_:True)=>GE s v) (fun (x:Int)=>(x = -1∧∀ q,q < s.length→jQ (s.getD q default) v=false)∨(0≤x∧x < s.length∧jQ (s.getD x.toNat default) v=true∧∀ q,(q:Nat) < x.toNat→jQ (s.getD q default) v=false)) (UN s v)
def kz (s:List Int) (v:Int):Sk (Bool) :=
 .r 1 ((yb s v).c) fun x1 =>
 .fin (decide (x1≥0))
def Ku (s:List Int) (v:Int):Bool:=(kz s v).val
theorem Vx (s:List Int) (v:Int):(kz s v).pst (fun (x:Bool)=>(x=true↔∃ q,q < s.length∧jQ (s.getD q default) v=true)):=by
  unfold kz
  try simp only [yb]
  exact okP

theorem ZX (s:List Int) (v:Int):(fun (x:Bool)=>(x=true↔∃ q,q < s.length∧jQ (s.getD q default) v=true)) (Ku s v):=have h:=Sk.pval _ (Vx s v); h
theorem Un (s:List Int) (v:Int):(kz s v).obs (fun _=>True):=by
  unfold kz
  try simp only [yb]
  exact okE

def qR (s:List Int) (v:Int):Ctr (Bool):=kk tok mixed Tryz.func169 [lv jC s,.fn 170 [.ref [dI v]]] (fun x=>bv x) true (kz s v) (Ku s v) (fun (_:True)=>Un s v) (fun (x:Bool)=>(x=true↔∃ q,q < s.length∧jQ (s.getD q default) v=true)) (ZX s v)
def zd (r:jg) (order:Int) (ask:Int) (places:List Int):Sk (Bool) :=
 .br (((((decide (order < 0))||(decide (order≥((r.orders.length:Nat):Int))))||(decide (ask < 0)))||(decide (ask≥22)))||(((places.length:Nat):Int) != 5))
 (.fin false)
 (.r 4 ((qR places ((r.orders.length:Nat):Int)).c) fun x1 =>
 .fin (!x1))
def zM (r:jg) (order:Int) (ask:Int) (places:List Int):Bool:=(zd r order ask places).val
theorem zaC (r:jg) (order:Int) (ask:Int) (places:List Int):(zd r order ask places).pst (fun (x:Bool)=>x=true→0≤order∧order < r.orders.length∧places.length=5∧∀ i,i < 5→0≤places.getD i default∧places.getD i default < r.orders.length):=by
  refine Sk.pst_of _ ?_
  unfold zd
  simp only [Sk.pstq,Sk.isLoop,reduceCtorEq,ON,kk,qR,maxLen]
  all_goals (repeat' first | (apply And.intro) | (intro h))
  all_goals first | trivial | (simp at *; done) | (simp only [LN] at *; omega) | (simp only [LN] at *; grind [JB])

theorem Bs (r:jg) (order:Int) (ask:Int) (places:List Int):(fun (x:Bool)=>x=true→0≤order∧order < r.orders.length∧places.length=5∧∀ i,i < 5→0≤places.getD i default∧places.getD i default < r.orders.length) (zM r order ask places):=have h:=Sk.pval _ (zaC r order ask places); h
theorem zbO (r:jg) (order:Int) (ask:Int) (places:List Int):(zd r order ask places).obs (fun _=>True):=by
  unfold zd
  try simp only [qR]
  exact okE

def vH (r:jg) (order:Int) (ask:Int) (places:List Int):Ctr (Bool):=kk tok mixed Tryz.func137 [av r.cells,iv order,iv ask,lv jC places] (fun x=>bv x) true (zd r order ask places) (zM r order ask places) (fun (_:True)=>zbO r order ask places) (fun (x:Bool)=>x=true→0≤order∧order < r.orders.length∧places.length=5∧∀ i,i < 5→0≤places.getD i default∧places.getD i default < r.orders.length) (Bs r order ask places)
def zn (r:jg) (order:Int) (ask:Int) (places:List Int):Sk (Int × Bool) :=
 .r 1 ((vH r order ask places).c) fun x1 =>
 .br (!x1)
 (.fin ((-1),false))
 (.r 3 (.p (ixP order r.orders.length)) fun _ =>
 .bind true (fun _=>True)
 (.loop (default:Sum (Int × Bool) (Unit)) (fun i3=>i3≤((r.orders.getD order.toNat default).choices).length) (fun i3=>((r.orders.getD order.toNat default).choices).length - i3) (0:Nat)
 (fun (i3:Nat)=>⟨[(25,iv ((i3:Nat):Int))],[]⟩) fun i3 =>
 .bnd 23 0 (((r.orders.getD order.toNat default).choices).length) <|
 .br (decide (((i3:Nat):Int) < ((((r.orders.getD order.toNat default).choices).length:Nat):Int)))
 (.r 5 (.p (ixP ((i3:Nat):Int) (((r.orders.getD order.toNat default).choices).length))) fun _ =>
 .br ((((((r.orders.getD order.toNat default).choices).getD i3 default).ask) == ask)&&(((((r.orders.getD order.toNat default).choices).getD i3 default).by_) != 0))
 (.r 7 (.p (ixP ((((r.orders.getD order.toNat default).choices).getD i3 default).by_) places.length)) fun _ =>
 .fin (.inl (.inl (places.getD (((((r.orders.getD order.toNat default).choices).getD i3 default).by_).toNat) default,(((r.orders.getD order.toNat default).choices).getD i3 default).whole))))
 (.r 8 .z fun _ =>
 .wi 25 (w64 (((i3:Nat):Int)+1)) ((i3+1:Nat):Int) <|
 .fin (.inr (i3+1))))
 (.fin (.inl (.inr ()))))
 (fun (_:Unit)=>⟨[],[]⟩) fun _ =>
 .fin (order,false))
def Hn (r:jg) (order:Int) (ask:Int) (places:List Int):Int × Bool:=(zn r order ask places).val
theorem zju {l:List Int} {n:Nat} (h0:0 < n) (h:∀ i,i < 5→0≤l.getD i default∧l.getD i default < n) (hl:l.length=5) (k:Nat):0≤l.getD k default∧l.getD k default < n:=by
  by_cases c:k < 5
  · exact h k c
  · have:l.getD k default=0:=by simp [List.getD,List.getElem?_eq_none (by omega:l.length≤k)]
    rw [this]; omega
theorem Vo {r:jg} {a b ask:Int} {places:List Int} (h:zM r a ask places=true) (hb:0≤b∧b < r.orders.length):zM r b ask places=true:=by
  simp only [zM,zd,Sk.val,Ctr.c,kk,qR] at h ⊢
  revert h
  simp only [Bool.cond_eq_ite]
  split
  · intro h; cases h
  · rename_i h1
    intro h
    rw [if_neg]
    · exact h
    · simp only [Bool.or_eq_true,decide_eq_true_eq,not_or] at h1 ⊢
      exact ⟨⟨⟨⟨by omega,by omega⟩,h1.1.1.2⟩,h1.1.2⟩,h1.2⟩
theorem BB (r:jg) (order:Int) (ask:Int) (places:List Int):(zn r order ask places).pst (fun (x:Int × Bool)=>zM r order ask places=true→0≤x.1∧x.1 < r.orders.length):=by
  refine Sk.pst_of _ ?_
  unfold zn
  simp only [Sk.pstq,Sk.isLoop,reduceCtorEq,ON,kk,vH,jg.ByOK,maxLen]
  all_goals (repeat' first | (apply And.intro) | (intro h))
  all_goals first | trivial | omega | (simp only [LN] at *; first | omega | (exact (zju (n:=r.orders.length) (by grind) (by grind) (by grind) _).1) | (exact (zju (n:=r.orders.length) (by grind) (by grind) (by grind) _).2) | grind)

theorem FT (r:jg) (order:Int) (ask:Int) (places:List Int):(fun (x:Int × Bool)=>zM r order ask places=true→0≤x.1∧x.1 < r.orders.length) (Hn r order ask places):=have h:=Sk.pval _ (BB r order ask places); h
theorem zag (r:jg) (order:Int) (ask:Int) (places:List Int) (hb:r.ByOK):(zn r order ask places).obs (fun _=>True):=by
  simp only [jg.ByOK] at hb
  unfold zn
  try simp only [vH,jg.ByOK]
  exact okD

def QT (r:jg) (order:Int) (ask:Int) (places:List Int):Ctr (Int × Bool):=kk tok mixed Tryz.func138 [av r.cells,iv order,iv ask,lv jC places] (fun x=>.tup [iv x.1,bv x.2]) true (zn r order ask places) (Hn r order ask places) (fun (h:(r.ByOK))=>zag r order ask places h) (fun (x:Int × Bool)=>zM r order ask places=true→0≤x.1∧x.1 < r.orders.length) (FT r order ask places)
def Qk (n:Nat) (l:List Int):Prop:=l.length≠0∧l.Nodup∧∀ x,x∈l→0≤x∧x < n
theorem Qk.le {n:Nat} {l:List Int} (h:Qk n l):l.length≤n:=by
  have h1:=List.Nodup.length_le_of_subset (l₁:=l) (l₂:=(List.range n).map Int.ofNat) h.2.1 (fun x hx=>by
    have:=h.2.2 x hx
    exact List.mem_map.2 ⟨x.toNat,List.mem_range.2 (by omega),by simp; omega⟩)
  simpa using h1
theorem Qk.get {n:Nat} {l:List Int} (h:Qk n l) (k:Nat):0≤l.getD k default∧l.getD k default < n:=by
  by_cases hk:k < l.length
  · have e:l.getD k default=l[k]:=by simp [List.getD,hk]
    rw [e]
    exact h.2.2 _ (List.getElem_mem hk)
  · have e:l.getD k default=0:=by simp [List.getD,List.getElem?_eq_none (by omega:l.length≤k)]
    have:=h.le
    have:=h.1
    rw [e]
    omega
theorem Qk.snoc' {n:Nat} {l:List Int} (h:Qk n l) {x:Int} (hx:0≤x∧x < n):∀ y,y∈l++[x]→0≤y∧y < n:=fun y hy=>by
  rcases List.mem_append.1 hy with h1 | h1
  · exact h.2.2 y h1
  · simp only [List.mem_singleton] at h1; subst h1; exact hx
theorem Qk.snoc {n:Nat} {l:List Int} (h:Qk n l) {x:Int} (hx:0≤x∧x < n) (hn:¬ ∃ q,q < l.length∧(l.getD q default == x)=true):Qk n (l++[x]):=by
  refine ⟨by simp,?_,h.snoc' hx⟩
  refine List.nodup_append.2 ⟨h.2.1,by simp,fun a ha b hb e=>?_⟩
  simp only [List.mem_singleton] at hb
  subst hb; subst e
  obtain ⟨q,hq,e⟩:=List.getElem_of_mem ha
  exact hn ⟨q,hq,by simp [List.getD,hq,e]⟩
theorem Qk.one {n:Nat} {x:Int} (hx:0≤x∧x < n):Qk n [x]:=⟨by simp,by simp,fun y hy=>by simp only [List.mem_singleton] at hy; subst hy; exact hx⟩
def vu (r:jg) (forum:Int) (ask:Int) (places:List Int):Sk ((List Int) × Int) :=
 .r 1 (.depr ((vH r forum ask places).c) fun x1=>.wh (!x1) false (.p (ixP (0:Int) places.length))) fun x1 =>
 .br ((!x1)||((places.getD 0 default) != forum))
 (.fin ([],1))
 (.r 3 (.o [.nrm (qk kA [forum])]) fun _ =>
 .loop (default:(List Int) × Int) (fun i2=>Qk r.orders.length i2) (fun i2=>r.orders.length+1 - i2.length) ([forum]:(List Int))
 (fun (i2:(List Int))=>⟨[(10,ow 100001 i2)],[(100001,jz 3 1 jC i2)]⟩) fun i2 =>
 .r 4 (.andl (.p (ixP (w64 (((i2.length:Nat):Int) - 1)) i2.length)) (.p ((w64 (((i2.length:Nat):Int) - 1)).toNat < i2.length))) fun _ =>
 .r 5 ((QT r (i2.getD ((w64 (((i2.length:Nat):Int) - 1)).toNat) default) ask places).c) fun x3 =>
 .br (x3.1 == (i2.getD ((w64 (((i2.length:Nat):Int) - 1)).toNat) default))
 (.fin (.inl (i2,0)))
 (.r 8 ((jr i2 x3.1).c) fun x4 =>
 .r 9 (.andl (.o [.nrm (qk kA [x3.1])]) (.andl (.o [.nrm (gy kA i2 [x3.1])]) (.andl (.t (kA.ones [x3.1])) (.p (szP i2.length [x3.1].length 8))))) fun _ =>
 .r 10 (.wh (!x3.2) false (.wh x4 true (.p (ixP x3.1 r.orders.length)))) fun _ =>
 .br ((!x3.2)||(x4&&((r.orders.getD x3.1.toNat default).accepts)))
 (.fin (.inl (i2++[x3.1],0)))
 (.br x4
 (.fin (.inl (i2++[x3.1],12)))
 (.fin (.inr (i2++[x3.1]))))))
def zaQ (r:jg) (forum:Int) (ask:Int) (places:List Int):(List Int) × Int:=(vu r forum ask places).val
theorem zb6 (r:jg) (forum:Int) (ask:Int) (places:List Int):(vu r forum ask places).pst (fun (x:(List Int) × Int)=>x.2=0→x.1.length≠0∧(∀ y,y∈x.1→0≤y∧y < r.orders.length)∧x.1.length≤r.orders.length+1):=by
  refine Sk.pst_of _ ?_
  unfold vu
  simp only [Sk.pstq,Sk.isLoop,reduceCtorEq,ON,kk,QT,vH,jr,jh.Small,jg.Small,jg.ByOK,maxLen]
  intro x hx hp
  refine ⟨fun _ h=>by omega,fun hc _=>?_⟩
  have hx1:x=true:=by simp at hc; exact hc.1
  obtain ⟨h1,h2,h3,h4⟩:=hp hx1
  refine ⟨Qk.one ⟨h1,h2⟩,fun i hi _ y hy hy2=>?_⟩
  have hy3:=hy2 (Vo (hx ▸ hx1) (hi.get _))
  have hle:=hi.le
  refine ⟨fun _=>⟨hi.1,hi.2.2,by omega⟩,fun _ z hz hz2 _ _=>⟨fun _=>⟨by simp,hi.snoc' hy3,by simp; omega⟩,fun _=>⟨fun _ h=>by omega,fun hz3=>?_⟩⟩⟩
  have hs:=hi.snoc hy3 (by rw [← hz2,hz3]; simp)
  have:=hs.le
  simp only [List.length_append,List.length_cons,List.length_nil] at this ⊢
  exact ⟨hs,by omega⟩

theorem zas (r:jg) (forum:Int) (ask:Int) (places:List Int):(fun (x:(List Int) × Int)=>x.2=0→x.1.length≠0∧(∀ y,y∈x.1→0≤y∧y < r.orders.length)∧x.1.length≤r.orders.length+1) (zaQ r forum ask places):=have h:=Sk.pval _ (zb6 r forum ask places); h
theorem zdv (r:jg) (forum:Int) (ask:Int) (places:List Int) (hb:r.ByOK) (hr:r.Small):(vu r forum ask places).obs (fun _=>True):=by
  simp only [jh.Small,jg.Small,jg.ByOK] at hb
  simp only [jh.Small,jg.Small,jg.ByOK] at hr
  refine Sk.obs_of _ ?_
  unfold vu
  simp only [Sk.obq,Sk.isLoop,reduceCtorEq,ON,kk,QT,vH,jr,jh.Small,jg.Small,jg.ByOK,maxLen]
  refine ⟨fun x hx hp hx1=>?_,fun x hx hp hc _=>?_⟩
  · have:=hp (by simpa using hx1); omega
  have hx1:x=true:=by simp at hc; exact hc.1
  obtain ⟨h1,h2,h3,h4⟩:=hp hx1
  refine ⟨Qk.one ⟨h1,h2⟩,fun i hi=>?_⟩
  have hle:=hi.le
  have hne:=hi.1
  have hw:w64 ((i.length:Int) - 1)=(i.length:Int) - 1:=jj (by omega) (by omega)
  rw [hw]
  refine ⟨⟨⟨by omega,by omega⟩,by omega⟩,fun _=>⟨hb,fun y hy hy2 hne2 z hz hz2=>?_⟩⟩
  have hy3:=hy2 (Vo (hx ▸ hx1) (hi.get _))
  refine ⟨⟨by simp only [List.length_cons,List.length_nil]; omega,by simp only [List.length_cons,List.length_nil]; omega⟩,fun _=>⟨fun _ _=>hy3,fun _ _ hz3=>?_⟩⟩
  have hs:=hi.snoc hy3 (by rw [← hz2,hz3]; simp)
  have:=hs.le
  simp only [List.length_append,List.length_cons,List.length_nil] at this ⊢
  exact ⟨hs,by omega⟩

def Ux (r:jg) (forum:Int) (ask:Int) (places:List Int):Ctr ((List Int) × Int):=kk tok mixed Tryz.func111 [av r.cells,iv forum,iv ask,lv jC places] (fun x=>.tup [lv jC x.1,iv x.2]) false (vu r forum ask places) (zaQ r forum ask places) (fun (h:(r.ByOK)∧(r.Small))=>zdv r forum ask places h.1 h.2) (fun (x:(List Int) × Int)=>x.2=0→x.1.length≠0∧(∀ y,y∈x.1→0≤y∧y < r.orders.length)∧x.1.length≤r.orders.length+1) (zas r forum ask places)
theorem zoN {n:Nat} {l:List Int} (h1:l.length≠0) (h2:∀ y,y∈l→0≤y∧y < (n:Int)) (k:Nat):0≤l.getD k default∧l.getD k default < n:=by
  by_cases hk:k < l.length
  · have e:l.getD k default=l[k]:=by simp [List.getD,hk]
    rw [e]
    exact h2 _ (List.getElem_mem hk)
  · have e:l.getD k default=0:=by simp [List.getD,List.getElem?_eq_none (by omega:l.length≤k)]
    have h3:=h2 l[0] (List.getElem_mem (by omega))
    rw [e]
    omega
def KE (r:jg) (forum:Int) (question:Int) (c_:ke):Sk (Said × (List jq)) :=
 .r 2 ((zfH r c_).c) fun x1 =>
 .br (((x1.2.length:Nat):Int) == 0)
 (.fin (({ cell:=({ known:=false,n:=0 }:jq),order:=(-1),path:=[],err:=1 }:Said),[]))
 (.r 5 ((yq question).c) fun x2 =>
 .br (!x2.2)
 (.fin (({ cell:=({ known:=false,n:=0 }:jq),order:=(-1),path:=[],err:=1 }:Said),[]))
 (.r 8 ((Wf r forum x1.1).c) fun x3 =>
 .cas 14 x3.isEmpty nv (lv jC x3)
 (.brt <|
 .fin (({ cell:=({ known:=false,n:=0 }:jq),order:=(-1),path:=[],err:=1 }:Said),[]))
 (.r 9 (.p (x3.length≠0)) fun _ =>
 .brf <|
 .r 11 ((Ux r forum question x3).c) fun x4 =>
 .br (x4.2 == 0)
 (.r 13 (.p (ixP (w64 (((x4.1.length:Nat):Int) - 1)) x4.1.length)) fun _ =>
 .fin (({ cell:=({ known:=false,n:=0 }:jq),order:=x4.1.getD ((w64 (((x4.1.length:Nat):Int) - 1)).toNat) default,path:=x4.1,err:=x4.2 }:Said),x1.2))
 (.fin (({ cell:=({ known:=false,n:=0 }:jq),order:=(-1),path:=x4.1,err:=x4.2 }:Said),x1.2)))))
def zmE (r:jg) (forum:Int) (question:Int) (c_:ke):Said × (List jq):=(KE r forum question c_).val
theorem zkb (r:jg) (forum:Int) (question:Int) (c_:ke):(KE r forum question c_).pst (fun (x:Said × (List jq))=>x.1.order = -1∨(0≤x.1.order∧x.1.order < r.orders.length∧x.2.length=20)):=by
  refine Sk.pst_of _ ?_
  unfold KE
  simp only [Sk.pstq,Sk.isLoop,reduceCtorEq,ON,kk,zfH,Wf,Ux,yq,jh.Small,jg.Small,jg.ByOK,maxLen]
  intro x hx hp
  refine ⟨fun _=>.inl trivial,fun hc x1 _=>⟨fun _=>.inl trivial,fun _ x2 _=>⟨fun _=>.inl trivial,fun _ _ x4 _ hl=>⟨fun h0 _=>.inr ?_,fun _=>.inl trivial⟩⟩⟩⟩
  obtain ⟨h1,h2,h3⟩:=hl (by simpa using h0)
  have h20:x.2.length=20:=by
    rcases hp with h | h
    · rw [h] at hc; simp at hc
    · exact h.1
  exact ⟨(zoN h1 h2 _).1,(zoN h1 h2 _).2,h20⟩

theorem ziz (r:jg) (forum:Int) (question:Int) (c_:ke):(fun (x:Said × (List jq))=>x.1.order = -1∨(0≤x.1.order∧x.1.order < r.orders.length∧x.2.length=20)) (zmE r forum question c_):=have h:=Sk.pval _ (zkb r forum question c_); h
theorem zmM (r:jg) (forum:Int) (question:Int) (c_:ke) (hf:c_.file.Small) (hb:r.ByOK) (hr:r.Small):(KE r forum question c_).obs (fun _=>True):=by
  simp only [jh.Small,jg.Small,jg.ByOK] at hf
  simp only [jh.Small,jg.Small,jg.ByOK] at hb
  simp only [jh.Small,jg.Small,jg.ByOK] at hr
  refine Sk.obs_of _ ?_
  unfold KE
  simp only [Sk.obq,Sk.isLoop,reduceCtorEq,ON,kk,zfH,Wf,Ux,yq,jh.Small,jg.Small,jg.ByOK,maxLen]
  refine ⟨hf,fun x hx hp hc x1 _ _=>?_⟩
  have hp':x.2.length=20∧0≤x.1.sign∧x.1.sign < x.1.file.signs.length:=by
    rcases hp with h | h
    · rw [h] at hc; simp at hc
    · exact h
  refine ⟨hp'.2,fun x2 _ he=>⟨fun h=>by simp [List.length_eq_zero_iff.1 h] at he,fun _=>⟨⟨hb,hr⟩,fun x4 _ hl h0=>?_⟩⟩⟩
  obtain ⟨h1,h2,h3⟩:=hl (by simpa using h0)
  rw [jj (by omega) (by omega)]
  omega

def zhi (r:jg) (forum:Int) (question:Int) (c_:ke):Ctr (Said × (List jq)):=kk tok mixed Tryz.func76 [av r.cells,iv forum,iv question,av c_.cells] (fun x=>.tup [av x.1.cells,lv jq.cells x.2]) false (KE r forum question c_) (zmE r forum question c_) (fun (h:(c_.file.Small)∧(r.ByOK)∧(r.Small))=>zmM r forum question c_ h.1 h.2.1 h.2.2) (fun (x:Said × (List jq))=>x.1.order = -1∨(0≤x.1.order∧x.1.order < r.orders.length∧x.2.length=20)) (ziz r forum question c_)
def Jp (r:Kq) (v:Int):Sk (Bool) :=
 .fin (r.ask == v)
def kG (r:Kq) (v:Int):Bool:=(Jp r v).val
theorem Gk (r:Kq) (v:Int):kG r v=(r.ask == v):=rfl
theorem zbF (r:Kq) (v:Int):(Jp r v).obs (fun _=>True):=by
  unfold Jp
  exact okE

def Vb (r:Kq) (v:Int):Ctr (Bool):=kk tok mixed Tryz.func140 [av r.cells,.ref [dI v]] (fun x=>bv x) true (Jp r v) (kG r v) (fun (_:True)=>zbF r v)
def kO (s:List Kq) (v:Int):Sk (Int) :=
 .bind true (fun b1=>∀ q,q < s.length→kG (s.getD q default) v=false)
 (.loop (default:Sum (Int) (Unit)) (fun i2=>∀ q,q < i2→kG (s.getD q default) v=false) (fun i2=>s.length - i2) (0:Nat)
 (fun (i2:Nat)=>⟨[(8,iv ((i2:Nat):Int))],[]⟩) fun i2 =>
 .bnd 0 0 s.length <|
 .br (decide (((i2:Nat):Int) < ((s.length:Nat):Int)))
 (.r 4 (.andl (.p (ixP ((i2:Nat):Int) s.length)) ((Vb (s.getD i2 default) v).c)) fun x3 =>
 .br x3
 (.fin (.inl (.inl ((i2:Nat):Int))))
 (.r 6 .z fun _ =>
 .wi 8 (w64 (((i2:Nat):Int)+1)) ((i2+1:Nat):Int) <|
 .fin (.inr (i2+1))))
 (.fin (.inl (.inr ()))))
 (fun (_:Unit)=>⟨[],[]⟩) fun _ =>
 .fin (-1)
def ZC (s:List Kq) (v:Int):Int:=(kO s v).val
theorem Gf (s:List Kq) (v:Int):(kO s v).pst (fun (x:Int)=>(x = -1∧∀ q,q < s.length→kG (s.getD q default) v=false)∨(0≤x∧x < s.length∧kG (s.getD x.toNat default) v=true∧∀ q,(q:Nat) < x.toNat→kG (s.getD q default) v=false)):=by
  unfold kO
  try simp only [Vb,Gk]
  exact okQ

theorem UR (s:List Kq) (v:Int):(fun (x:Int)=>(x = -1∧∀ q,q < s.length→kG (s.getD q default) v=false)∨(0≤x∧x < s.length∧kG (s.getD x.toNat default) v=true∧∀ q,(q:Nat) < x.toNat→kG (s.getD q default) v=false)) (ZC s v):=have h:=Sk.pval _ (Gf s v); h
theorem Wd (s:List Kq) (v:Int):(kO s v).obs (fun _=>True):=by
  unfold kO
  try simp only [Vb,Gk]
  exact okG

def KW (s:List Kq) (v:Int):Ctr (Int):=kk tok mixed Tryz.func139 [lv Kq.cells s,.fn 140 [.ref [dI v]]] (fun x=>iv x) true (kO s v) (ZC s v) (fun (_:True)=>Wd s v) (fun (x:Int)=>(x = -1∧∀ q,q < s.length→kG (s.getD q default) v=false)∨(0≤x∧x < s.length∧kG (s.getD x.toNat default) v=true∧∀ q,(q:Nat) < x.toNat→kG (s.getD q default) v=false)) (UR s v)
def ZV (rv:jm→Int→Int) (rp:jm→Int→Prop) (rf:∀ (t:jm) (level:Int),rp t level→FnA Tryz.prog 171 [av t.cells,iv level] [] (iv (rv t level)) []) (t:jm) (level:Int):Ctr (Int):=⟨Tryz.prog,171,[av t.cells,iv level],fun x=>iv x,true,rv t level,rp t level,rf t level,fun _=>True,trivial⟩
def qn (rv:jm→Int→Int) (rp:jm→Int→Prop) (rf:∀ (t:jm) (level:Int),rp t level→FnA Tryz.prog 171 [av t.cells,iv level] [] (iv (rv t level)) []) (t:jm) (level:Int):Sk (Int) :=
 .br (decide (level > 8))
 (.fin 61)
 (.bind true (fun b1=>∀ B:Int,1≤B→B≤1000000→(∀ q,q < t.args.length→1≤rv (t.args.getD q default) (w64 (level+1))∧rv (t.args.getD q default) (w64 (level+1))≤B)→(1:Int)≤b1∧b1≤60+B∧(b1≤60→t.args.length≤60∧∀ q,q < t.args.length→rv (t.args.getD q default) (w64 (level+1))≤60))
 (.loop (default:Sum (Int) (Int)) (fun i2=>i2.2≤t.args.length∧(∀ B:Int,1≤B→B≤1000000→(∀ q,q < t.args.length→1≤rv (t.args.getD q default) (w64 (level+1))∧rv (t.args.getD q default) (w64 (level+1))≤B)→(1+(i2.2:Int))≤i2.1∧i2.1≤60∧∀ q,q < i2.2→rv (t.args.getD q default) (w64 (level+1))≤60)) (fun i2=>t.args.length - i2.2) ((1,0):Int × Nat)
 (fun (i2:Int × Nat)=>⟨[(5,iv i2.1),(13,iv ((i2.2:Nat):Int))],[]⟩) fun i2 =>
 .bnd 11 0 t.args.length <|
 .br (decide (((i2.2:Nat):Int) < ((t.args.length:Nat):Int)))
 (.r 6 (.andl (.p (ixP ((i2.2:Nat):Int) t.args.length)) (.o [.cast 15 (zq8 (jm.unroll (t.args.getD i2.2 default)))])) fun _ =>
 .r 7 ((ZV rv rp rf (t.args.getD i2.2 default) (w64 (level+1))).c) fun x3 =>
 .br (decide ((w64 (i2.1+x3)) > 60))
 (.fin (.inl (.inr (w64 (i2.1+x3)))))
 (.r 9 .z fun _ =>
 .wi 13 (w64 (((i2.2:Nat):Int)+1)) ((i2.2+1:Nat):Int) <|
 .fin (.inr (w64 (i2.1+x3),i2.2+1))))
 (.fin (.inl (.inr i2.1))))
 (fun (b1:Int)=>⟨[(5,iv b1)],[]⟩) fun b1 =>
 .fin b1)
def jN:Nat→jm→Int→Int
  | 0,_,_=>default
  | fu+1,t,level=>(qn (jN fu) (fun _ _=>False) (fun _ _=>fun h=>h.elim) t level).val
/-- no node has too many parts -/
inductive zcL:jm→Prop
  | mk {t:jm} (h:t.args.length≤60) (h2:∀ q,q < t.args.length→zcL (t.args.getD q default)):zcL t
theorem zeu (fu:Nat) (rf:∀ (t:jm) (level:Int),t.depth≤fu∧True→FnA Tryz.prog 171 [av t.cells,iv level] [] (iv (jN fu t level)) []) (t:jm) (level:Int) (hm:t.depth≤fu+1):(qn (jN fu) (fun t level=>t.depth≤fu∧True) rf t level).obs (fun _=>True):=by
  refine Sk.obs_of _ ?_
  unfold qn
  simp only [Sk.obq,Sk.isLoop,reduceCtorEq,ON,kk,ZV,maxLen]
  intro hlev
  have hlev:level≤8:=by simp only [LN] at hlev; exact hlev
  refine ⟨⟨Nat.zero_le _,fun B _ _ _=>⟨by omega,by omega,fun q hq=>absurd hq (by omega)⟩⟩,fun i hi hlen=>⟨fun hc=>⟨⟨by omega,of_decide_eq_true hc⟩,fun _=>⟨?_,fun x hx=>⟨fun hb B b1 b2 hq=>?_,fun hb _=>⟨?_,⟨?_,fun B b1 b2 hq=>?_⟩,?_⟩⟩⟩⟩,fun hc B b1 b2 hq=>?_⟩⟩
  all_goals (try simp only [LN] at hc)
  all_goals (try simp only [LN] at hb)
  · have:=t.depth_args i.2 (by omega); omega
  · subst hx
    have q1:=hi.2 B b1 b2 hq
    have q2:=hq i.2 (by omega)
    rw [jj (n:=i.1+_) (by omega) (by omega)] at hb ⊢
    exact ⟨by omega,by omega,fun h=>by omega⟩
  · exact jj (by omega) (by omega)
  · omega
  · subst hx
    have q1:=hi.2 B b1 b2 hq
    have q2:=hq i.2 (by omega)
    rw [jj (n:=i.1+_) (by omega) (by omega)] at hb ⊢
    refine ⟨by omega,by omega,fun q hqq=>?_⟩
    by_cases e:q=i.2
    · subst e; omega
    · exact q1.2.2 q (by omega)
  · omega
  · have q1:=hi.2 B b1 b2 hq
    exact ⟨by omega,by omega,fun _=>⟨by omega,fun q hqq=>q1.2.2 q (by omega)⟩⟩

theorem zbA (fu:Nat) (rp:jm→Int→Prop) (rf:∀ (t:jm) (level:Int),rp t level→FnA Tryz.prog 171 [av t.cells,iv level] [] (iv (jN fu t level)) []) (t:jm) (level:Int):(qn (jN fu) rp rf t level).val=jN (fu+1) t level:=by kernel_rfl
theorem zcr (fu:Nat):∀ (t:jm) (level:Int),t.depth≤fu→FnA Tryz.prog 171 [av t.cells,iv level] [] (iv (jN fu t level)) []:=by
  induction fu with
  | zero=>intro t level hm; exact absurd hm (by have:=jm.depth_pos t; omega)
  | succ fu ih =>
    intro t level hm
    have h:FnA Tryz.prog 171 [av t.cells,iv level] [] (iv ((qn (jN fu) (fun t level=>t.depth≤fu∧True) (fun t level h=>ih t level h.1) t level).val)) []:=FnA.sk tok mixed (fun x=>iv x) (fun _=>[]) Tryz.func171 rfl (by kernel_rfl) 3000 (qn (jN fu) (fun t level=>t.depth≤fu∧True) (fun t level h=>ih t level h.1) t level) (by kernel_rfl) (zeu fu _ t level hm)
    rw [zbA] at h
    exact h
def zaq (t:jm) (level:Int):Int:=jN (t.depth) t level
theorem zew (t:jm) (level:Int):FnA Tryz.prog 171 [av t.cells,iv level] [] (iv (zaq t level)) []:=zcr _ t level (Nat.le_refl _)
def Uq (t:jm) (level:Int):Ctr (Int):=⟨Tryz.prog,171,[av t.cells,iv level],fun x=>iv x,true,zaq t level,True,fun _=>zew t level,fun _=>True,trivial⟩
theorem jm.depthL_le {B:Nat}:∀ (l:List jm),(∀ q,q < l.length→(l.getD q default).depth≤B)→jm.depthL l≤B
  | [],_=>by simp [jm.depthL]
  | x :: r,h=>by
    have h0:=h 0 (by simp)
    have:=jm.depthL_le r (fun q hq=>by simpa using h (q+1) (by simpa using hq))
    simp only [jm.depthL]
    simp at h0
    omega

theorem ZU:∀ (fu:Nat) (t:jm) (level:Int),t.depth≤fu→1≤level→level≤9→1≤jN fu t level∧jN fu t level≤61+60 * (9 - level)∧(jN fu t level≤60→t.depth+level≤9)∧(jN fu t level≤60→zcL t)
  | 0,t,_,hd,_,_=>absurd hd (by have:=t.depth_pos; omega)
  | fu+1,t,level,hd,h1,h9=>by
    have ih:=ZU fu
    have key:jN (fu+1) t level=(qn (jN fu) (fun _ _=>False) (fun _ _ h=>h.elim) t level).val:=rfl
    rw [key]
    refine Sk.pval (qn (jN fu) (fun _ _=>False) (fun _ _ h=>h.elim) t level) (L:=fun x=>1≤x∧x≤61+60 * (9 - level)∧(x≤60→t.depth+level≤9)∧(x≤60→zcL t)) (Sk.pst_of _ ?_)
    have hw:w64 (level+1)=level+1:=jj (by omega) (by omega)
    unfold qn
    simp only [Sk.pstq,Sk.isLoop,reduceCtorEq,false_implies,Qy,zL,Cal.z,Cal.p,Cal.t,Cal.pt,Cal.o,Cal.and,Cal.andl,Cal.andr,Cal.wh,Cal.dep,Cal.depr,Ctr.c,kk,Ctr.nil,Ctr.nilc,vT.c,vT.nil,ZV,implies_true,true_and,and_true,and_self,true_implies,forall_eq,forall_const,hw]
    refine ⟨fun h=>⟨by omega,by omega,fun h=>by omega,fun h=>by omega⟩,fun hlev=>?_⟩
    have hlev:level≤8:=by simp only [LN] at hlev; exact hlev
    have hq:∀ q,q < t.args.length→1≤jN fu (t.args.getD q default) (level+1)∧jN fu (t.args.getD q default) (level+1)≤61+60 * (8 - level):=fun q hq=>by
      have:=ih (t.args.getD q default) (level+1) (by have:=t.depth_args q hq; omega) (by omega) (by omega)
      omega
    refine ⟨⟨⟨Nat.zero_le _,fun B _ _ _=>⟨by omega,by omega,fun q hq=>absurd hq (by omega)⟩⟩,fun i hi=>⟨fun hc=>⟨fun hb=>?_,fun hb=>⟨⟨?_,fun B b1 b2 hq=>?_⟩,?_⟩⟩,fun hc=>?_⟩⟩,fun b hb=>?_⟩
    all_goals (try simp only [LN] at hc)
    all_goals (try simp only [LN] at hb)
    · intro B b1 b2 hq
      have q1:=hi.2 B b1 b2 hq
      have q2:=hq i.2 (by omega)
      rw [jj (by omega) (by omega)] at hb ⊢
      exact ⟨by omega,by omega,fun h=>by omega⟩
    · omega
    · have q1:=hi.2 B b1 b2 hq
      have q2:=hq i.2 (by omega)
      rw [jj (by omega) (by omega)] at hb ⊢
      refine ⟨by omega,by omega,fun q hqq=>?_⟩
      by_cases e:q=i.2
      · subst e; omega
      · exact q1.2.2 q (by omega)
    · omega
    · intro B b1 b2 hq
      have q1:=hi.2 B b1 b2 hq
      exact ⟨by omega,by omega,fun _=>⟨by omega,fun q hqq=>q1.2.2 q (by omega)⟩⟩
    · have:=hb _ (by omega) (by omega) hq
      refine ⟨this.1,by omega,fun h60=>?_,fun h60=>.mk (this.2.2 h60).1 fun q hqq=>?_⟩
      · have q3:=(this.2.2 h60).2
        have:jm.depthL t.args≤(8 - level).toNat:=jm.depthL_le _ (fun q hqq=>by
          have:=(ih (t.args.getD q default) (level+1) (by have:=t.depth_args q hqq; omega) (by omega) (by omega)).2.2.1 (q3 q hqq)
          omega)
        have e:t.depth=jm.depthL t.args+1:=by obtain ⟨_,_,_⟩:=t; rfl
        omega
      · exact (ih (t.args.getD q default) (level+1) (by have:=t.depth_args q hqq; omega) (by omega) (by omega)).2.2.2 ((this.2.2 h60).2 q hqq)
def Yv (n:Int):Sk (Int) :=
 .fin (qO (ki n (-1099511627776)) 1099511627776)
def zf3 (n:Int):Int:=(Yv n).val
theorem Zw (n:Int):zf3 n=(qO (ki n (-1099511627776)) 1099511627776):=rfl
theorem zml (n:Int):(Yv n).obs (fun _=>True):=by
  unfold Yv
  exact okE

def uf (n:Int):Ctr (Int):=kk tok mixed Tryz.func209 [iv n] (fun x=>iv x) true (Yv n) (zf3 n) (fun (_:True)=>zml n)
def vz (v:Int):Sk (Int × Bool) :=
 .br ((decide (v < 0))||(decide (v > 19)))
 (.fin (0,false))
 (.br (decide (v < 7))
 (.fin (0,true))
 (.fin (1,true)))
def Wv (v:Int):Int × Bool:=(vz v).val
theorem zeC (v:Int):(vz v).obs (fun _=>True):=by
  unfold vz
  exact okE

def uF (v:Int):Ctr (Int × Bool):=kk tok mixed Tryz.func207 [iv v] (fun x=>.tup [iv x.1,bv x.2]) true (vz v) (Wv v) (fun (_:True)=>zeC v)
def vL (t:jm):Sk (Int × Int) :=
 .br (decide (((t.args.length:Nat):Int) > 0))
 (.fin (0,2))
 (.br (t.op == 0)
 (.r 5 ((uf t.n).c) fun x1 =>
 .br (x1 != t.n)
 (.fin (0,3))
 (.fin (0,0)))
 (.br (t.op == 1)
 (.br ((decide (t.n < 0))||(decide (t.n > 1)))
 (.fin (0,3))
 (.fin (1,0)))
 (.r 12 ((uF t.n).c) fun x2 =>
 .br (!x2.2)
 (.fin (0,10))
 (.fin (x2.1,0)))))
def KC (t:jm):Int × Int:=(vL t).val
theorem zkq (t:jm):(vL t).obs (fun _=>True):=by
  unfold vL
  try simp only [uF,uf,Zw]
  exact okG

def HD (t:jm):Ctr (Int × Int):=kk tok mixed Tryz.func205 [av t.cells] (fun x=>.tup [iv x.1,iv x.2]) true (vL t) (KC t) (fun (_:True)=>zkq t)
structure Shape where
  args:List Int
  result:Int
  deriving Inhabited
def Shape.cells (c:Shape):List D:=[slD jC c.args,dI c.result]
def Shape.E:Enc Shape:=⟨Shape.cells,2,fun _=>rfl,fun _=>rfl⟩
def Kd (op:Int):Sk (Shape) :=
 .br (op == 3)
 (.r 3 (.o [.nrm (qk kA [1])]) fun _ =>
 .fin ({ args:=[1],result:=1 }:Shape))
 (.bind false (fun _=>True)
 (.br (op == 4)
 (.fin (.inr (op == 4)))
 (.fin (.inr (op == 5))))
 (fun (b1:Bool)=>⟨[(8,bv b1)],[]⟩) fun b1 =>
 .br b1
 (.r 6 (.o [.nrm (qk kA [1,1])]) fun _ =>
 .fin ({ args:=[1,1],result:=1 }:Shape))
 (.br (op == 6)
 (.r 8 (.o [.nrm (qk kA [1,(-1),(-1)])]) fun _ =>
 .fin ({ args:=[1,(-1),(-1)],result:=(-1) }:Shape))
 (.br (op == 7)
 (.r 10 (.o [.nrm (qk kA [0,0])]) fun _ =>
 .fin ({ args:=[0,0],result:=1 }:Shape))
 (.br (op == 8)
 (.r 12 (.o [.nrm (qk kA [(-1),(-1)])]) fun _ =>
 .fin ({ args:=[(-1),(-1)],result:=1 }:Shape))
 (.r 13 (.o [.nrm (qk kA [0,0])]) fun _ =>
 .fin ({ args:=[0,0],result:=0 }:Shape))))))
def jV (op:Int):Shape:=(Kd op).val
theorem zeh (op:Int):(Kd op).obs (fun _=>True):=by
  unfold Kd
  exact okE

def Ur (op:Int):Ctr (Shape):=kk tok mixed Tryz.func206 [iv op] (fun x=>av x.cells) false (Kd op) (jV op) (fun (_:True)=>zeh op)
/-- typed terms -/
inductive TyT:jm→Int→Prop
  | int {n:Int} (h : -1099511627776≤n∧n≤1099511627776):TyT ⟨0,n,[]⟩ 0
  | bool {n:Int} (h:0≤n∧n≤1):TyT ⟨1,n,[]⟩ 1
  | var {n:Int} (h:0≤n∧n≤19):TyT ⟨2,n,[]⟩ (if n < 7 then 0 else 1)
  | not {a:jm}:TyT a 1→TyT ⟨3,0,[a]⟩ 1
  | conj {op:Int} {a b:jm} (h:op=4∨op=5):TyT a 1→TyT b 1→TyT ⟨op,0,[a,b]⟩ 1
  | ite {a b c:jm} {k:Int}:TyT a 1→TyT b k→TyT c k→TyT ⟨6,0,[a,b,c]⟩ k
  | less {a b:jm}:TyT a 0→TyT b 0→TyT ⟨7,0,[a,b]⟩ 1
  | eq {a b:jm} {k:Int}:TyT a k→TyT b k→TyT ⟨8,0,[a,b]⟩ 1
  | arith {op:Int} {a b:jm} (h:9≤op∧op≤13):TyT a 0→TyT b 0→TyT ⟨op,0,[a,b]⟩ 0
theorem TyT.kind {t:jm} {k:Int} (h:TyT t k):k=0∨k=1:=by
  induction h with
  | var _=>split <;> simp
  | ite _ _ _ _ ih _=>exact ih
  | _=>simp
def YM (rv:jm→Int × Int) (rp:jm→Prop) (rf:∀ (t:jm),rp t→FnA Tryz.prog 172 [av t.cells] [] (.tup [iv ((rv t).1),iv ((rv t).2)]) []) (t:jm):Ctr (Int × Int):=⟨Tryz.prog,172,[av t.cells],fun x=>.tup [iv x.1,iv x.2],true,rv t,rp t,rf t,fun _=>True,trivial⟩
def qA (rv:jm→Int × Int) (rp:jm→Prop) (rf:∀ (t:jm),rp t→FnA Tryz.prog 172 [av t.cells] [] (.tup [iv ((rv t).1),iv ((rv t).2)]) []) (t:jm):Sk (Int × Int) :=
 .r 1 (.andl (.o [.nrm (mkC kA t.args.length 0)]) (.p (mkP ((t.args.length:Nat):Int) 8))) fun _ =>
 .bind true (fun b1=>b1.length=t.args.length∧∀ q,q < t.args.length→(rv (t.args.getD q default)).2=0∧b1.getD q default=(rv (t.args.getD q default)).1)
 (.loop (default:Sum (Int × Int) ((List Int))) (fun i2=>i2.1.length=t.args.length∧i2.2≤t.args.length∧∀ q,q < i2.2→(rv (t.args.getD q default)).2=0∧i2.1.getD q default=(rv (t.args.getD q default)).1) (fun i2=>t.args.length - i2.2) ((List.replicate t.args.length (0:Int),0):(List Int) × Nat)
 (fun (i2:(List Int) × Nat)=>⟨[(4,ow 100002 i2.1),(20,iv ((i2.2:Nat):Int))],[(100002,jz 3 1 jC i2.1)]⟩) fun i2 =>
 .bnd 18 0 t.args.length <|
 .br (decide (((i2.2:Nat):Int) < ((t.args.length:Nat):Int)))
 (.r 4 (.andl (.p (ixP ((i2.2:Nat):Int) t.args.length)) (.o [.cast 23 (zq8 (jm.unroll (t.args.getD i2.2 default)))])) fun _ =>
 .r 5 ((YM rv rp rf (t.args.getD i2.2 default)).c) fun x3 =>
 .br (x3.2 != 0)
 (.fin (.inl (.inl (0,x3.2))))
 (.r 8 (.andl (.p (ixP ((i2.2:Nat):Int) i2.1.length)) (.andl (.o [.nrm (VI kA i2.1 i2.2 x3.1)]) (.p (i2.2 < i2.1.length)))) fun _ =>
 .wn 100002 i2.1.length (i2.1.set i2.2 x3.1).length <|
 .r 9 .z fun _ =>
 .wi 20 (w64 (((i2.2:Nat):Int)+1)) ((i2.2+1:Nat):Int) <|
 .fin (.inr (i2.1.set i2.2 x3.1,i2.2+1))))
 (.fin (.inl (.inr i2.1))))
 (fun (b1:(List Int))=>⟨[(4,ow 100001 b1)],[(100001,jz 3 1 jC b1)]⟩) fun b1 =>
 .br ((decide (t.op < 0))||(decide (t.op > 13)))
 (.fin (0,1))
 (.br (((t.op == 0)||(t.op == 1))||(t.op == 2))
 (.r 13 ((HD t).c) fun x4 =>
 .fin (x4.1,x4.2))
 (.r 14 ((Ur t.op).c) fun x5 =>
 .br ((((b1.length:Nat):Int) != ((x5.args.length:Nat):Int))||(t.n != 0))
 (.fin (0,2))
 (.bind true (fun b6=>∀ q,q < x5.args.length→(x5.args.getD q default = -1→b1.getD q default=b6∨b1.getD q default = -1)∧(x5.args.getD q default≠-1→b1.getD q default=x5.args.getD q default))
 (.loop (default:Sum (Int × Int) (Int)) (fun i7=>i7.2≤x5.args.length∧∀ q,q < i7.2→(x5.args.getD q default = -1→b1.getD q default=i7.1∨b1.getD q default = -1)∧(x5.args.getD q default≠-1→b1.getD q default=x5.args.getD q default)) (fun i7=>x5.args.length - i7.2) (((-1),0):Int × Nat)
 (fun (i7:Int × Nat)=>⟨[(10,iv i7.1),(82,iv ((i7.2:Nat):Int))],[]⟩) fun i7 =>
 .bnd 80 0 x5.args.length <|
 .br (decide (((i7.2:Nat):Int) < ((x5.args.length:Nat):Int)))
 (.r 20 (.p (ixP ((i7.2:Nat):Int) x5.args.length)) fun _ =>
 .bind false (fun b8=>b8=if (x5.args.getD i7.2 default) = -1∧i7.1 = -1 then b1.getD i7.2 default else i7.1)
 (.br (((x5.args.getD i7.2 default) == (-1))&&(i7.1 == (-1)))
 (.r 22 (.andl (.p (ixP ((i7.2:Nat):Int) b1.length)) (.p (i7.2 < b1.length))) fun _ =>
 .fin (.inr (b1.getD i7.2 default)))
 (.fin (.inr i7.1)))
 (fun (b8:Int)=>⟨[(10,iv b8)],[]⟩) fun b8 =>
 .bind false (fun b9=>b9=if (x5.args.getD i7.2 default) = -1 then b8 else (x5.args.getD i7.2 default))
 (.br ((x5.args.getD i7.2 default) == (-1))
 (.fin (.inr b8))
 (.fin (.inr (x5.args.getD i7.2 default))))
 (fun (b9:Int)=>⟨[(12,iv b9)],[]⟩) fun b9 =>
 .r 25 (.andl (.p (ixP ((i7.2:Nat):Int) b1.length)) (.p (i7.2 < b1.length))) fun _ =>
 .br ((b1.getD i7.2 default) != b9)
 (.fin (.inl (.inl (0,11))))
 (.r 27 .z fun _ =>
 .wi 82 (w64 (((i7.2:Nat):Int)+1)) ((i7.2+1:Nat):Int) <|
 .fin (.inr (b8,i7.2+1))))
 (.fin (.inl (.inr i7.1))))
 (fun (b6:Int)=>⟨[(10,iv b6)],[]⟩) fun b6 =>
 .br (x5.result == (-1))
 (.fin (b6,0))
 (.fin (x5.result,0)))))
def ka:Nat→jm→Int × Int
  | 0,_=>default
  | fu+1,t=>(qA (ka fu) (fun _=>False) (fun _=>fun h=>h.elim) t).val
theorem zhO (fu:Nat) (rf:∀ (t:jm),t.depth≤fu∧(zcL t)→FnA Tryz.prog 172 [av t.cells] [] (.tup [iv ((ka fu t).1),iv ((ka fu t).2)]) []) (t:jm) (hm:t.depth≤fu+1) (hth:zcL t):(qA (ka fu) (fun t=>t.depth≤fu∧(zcL t)) rf t).obs (fun _=>True):=by
  refine Sk.obs_of _ ?_
  unfold qA
  simp only [Sk.obq,Sk.isLoop,reduceCtorEq,ON,kk,HD,Ur,YM,maxLen]
  have hth':=hth
  obtain ⟨ht1,ht2⟩:=hth'
  refine ⟨⟨by omega,by omega,by omega⟩,fun _=>⟨⟨⟨by simp,by omega,fun q hq=>absurd hq (by omega)⟩,fun i hi hl=>⟨fun hc=>⟨⟨by omega,of_decide_eq_true hc⟩,fun _=>⟨⟨?_,?_⟩,fun x hx he=>⟨⟨⟨by omega,?_⟩,?_⟩,fun _=>⟨by simp,fun _=>⟨?_,⟨⟨by simp [hi.1],?_,fun q hq=>?_⟩,?_⟩⟩⟩⟩⟩⟩,fun hc=>⟨hi.1,fun q hq=>hi.2.2 q (by simp only [LN] at hc; omega)⟩⟩⟩,fun b hb hc hop x hx hl=>⟨⟨by omega,fun q hq=>absurd hq (by omega)⟩,fun i hi hl2=>⟨fun hc=>⟨⟨by omega,of_decide_eq_true hc⟩,fun _=>⟨⟨fun h=>⟨⟨⟨by omega,?_⟩,?_⟩,fun _=>?_⟩,fun h=>?_⟩,fun y _ hy=>⟨⟨fun h=>?_,fun h=>?_⟩,fun z _ hz=>⟨⟨⟨by omega,?_⟩,?_⟩,fun _=>fun he _=>⟨?_,⟨⟨?_,fun q hq=>?_⟩,?_⟩⟩⟩⟩⟩⟩,fun hc q hq=>hi.2 q (by simp only [LN] at hc; omega)⟩⟩⟩⟩
  all_goals (try simp only [LN] at hc)
  · have:=t.depth_args i.2 (by omega); omega
  · exact ht2 i.2 (by omega)
  · omega
  · omega
  · exact jj (by omega) (by omega)
  · omega
  · simp only [LN] at he
    by_cases e:q=i.2
    · subst e
      subst hx
      exact ⟨he,Ym _ (by omega) _ _⟩
    · have:=hi.2.2 q (by omega)
      refine ⟨this.1,?_⟩
      rw [← this.2]
      exact Yj _ e _ _
  · omega
  all_goals (try simp only [LN] at hl)
  · omega
  · omega
  · simp only [LN] at h
    rw [if_pos h]
  · rw [if_neg]
    simp only [LN] at h
    intro ⟨h1,h2⟩
    rcases h with h | h
    · exact h h1
    · exact h h2
  · simp only [LN] at h; rw [if_pos h]
  · simp only [LN] at h; rw [if_neg h]
  · omega
  · omega
  · exact jj (by omega) (by omega)
  · omega
  · simp only [LN] at he
    by_cases e:q=i.2
    · subst e
      refine ⟨fun h=>?_,fun h=>?_⟩
      · rw [if_pos h] at hz; left; rw [he,hz]
      · rw [if_neg h] at hz; rw [he,hz]
    · have:=hi.2 q (by omega)
      refine ⟨fun h=>?_,this.2⟩
      rcases this.1 h with h1 | h1
      · by_cases c:x.args.getD i.snd default = -1∧i.fst = -1
        · right; rw [h1,c.2]
        · rw [if_neg c] at hy; left; rw [h1,hy]
      · exact .inr h1
  · omega

theorem zgg (fu:Nat) (rp:jm→Prop) (rf:∀ (t:jm),rp t→FnA Tryz.prog 172 [av t.cells] [] (.tup [iv ((ka fu t).1),iv ((ka fu t).2)]) []) (t:jm):(qA (ka fu) rp rf t).val=ka (fu+1) t:=by kernel_rfl
theorem zhs (fu:Nat):∀ (t:jm),t.depth≤fu→(zcL t)→FnA Tryz.prog 172 [av t.cells] [] (.tup [iv ((ka fu t).1),iv ((ka fu t).2)]) []:=by
  induction fu with
  | zero=>intro t hm h0; exact absurd hm (by have:=jm.depth_pos t; omega)
  | succ fu ih =>
    intro t hm h0
    have h:FnA Tryz.prog 172 [av t.cells] [] (.tup [iv (((qA (ka fu) (fun t=>t.depth≤fu∧(zcL t)) (fun t h=>ih t h.1 h.2) t).val).1),iv (((qA (ka fu) (fun t=>t.depth≤fu∧(zcL t)) (fun t h=>ih t h.1 h.2) t).val).2)]) []:=FnA.sk tok mixed (fun x=>.tup [iv x.1,iv x.2]) (fun _=>[]) Tryz.func172 rfl (by kernel_rfl) 3000 (qA (ka fu) (fun t=>t.depth≤fu∧(zcL t)) (fun t h=>ih t h.1 h.2) t) (by kernel_rfl) (zhO fu _ t hm h0)
    rw [zgg] at h
    exact h
def BT (t:jm):Int × Int:=ka (t.depth) t
theorem zhY (t:jm) (hth:zcL t):FnA Tryz.prog 172 [av t.cells] [] (.tup [iv ((BT t).1),iv ((BT t).2)]) []:=zhs _ t (Nat.le_refl _) hth
def WD (t:jm):Ctr (Int × Int):=⟨Tryz.prog,172,[av t.cells],fun x=>.tup [iv x.1,iv x.2],true,BT t,(zcL t),fun h=>zhY t h,fun _=>True,trivial⟩
theorem zdF (t:jm) (hop:t.op=0∨t.op=1∨t.op=2) (h:(KC t).2=0):TyT t (KC t).1:=by
  obtain ⟨op,n,args⟩:=t
  simp only at hop
  revert h
  cases args with
  | cons a r =>
    intro h
    exfalso
    revert h
    simp only [KC,vL,Sk.val_br,Sk.val_fin]
    rw [show decide ((((a :: r).length:Nat):Int) > 0)=true from by simp]
    simp
  | nil =>
    rcases hop with rfl | rfl | rfl
    · simp only [KC,vL,Sk.val_br,Sk.val_fin,Sk.val_r,Ctr.c_v,kk,uf,Zw]
      intro h
      by_cases c:qO (ki n (-1099511627776)) 1099511627776=n
      · have : -1099511627776≤n∧n≤1099511627776:=by simp only [qO,ki] at c; omega
        have e:(qO (ki n (-1099511627776)) 1099511627776 != n)=false:=by simpa using c
        rw [e]
        exact TyT.int this
      · have e:(qO (ki n (-1099511627776)) 1099511627776 != n)=true:=by simpa using c
        rw [e] at h
        exact absurd (show (3:Int)=0 from h) (by decide)
    · simp only [KC,vL,Sk.val_br,Sk.val_fin,Sk.val_r,Ctr.c_v,kk,uf,Zw]
      intro h
      by_cases c:n < 0∨n > 1
      · have e:(decide (n < 0)||decide (n > 1))=true:=by simpa using c
        rw [e] at h
        exact absurd (show (3:Int)=0 from h) (by decide)
      · have:0≤n∧n≤1:=by omega
        have e:(decide (n < 0)||decide (n > 1))=false:=by simp; omega
        rw [e]
        exact TyT.bool this
    · intro h
      have e:KC ⟨2,n,[]⟩=(if n < 0∨n > 19 then (0,10) else if n < 7 then (0,0) else (1,0)):=by
        simp only [KC,vL,Sk.val_br,Sk.val_fin,Sk.val_r,Ctr.c_v,kk,uF,Wv,vz]
        by_cases c:n < 0∨n > 19
        · have:(decide (n < 0)||decide (n > 19))=true:=by simpa using c
          simp [this,c]
        · have:(decide (n < 0)||decide (n > 19))=false:=by simp; omega
          by_cases d:n < 7 <;> simp [this,c,d]
      rw [e] at h ⊢
      by_cases c:n < 0∨n > 19
      · simp [c] at h
      · have:0≤n∧n≤19:=by omega
        have:=TyT.var this
        by_cases d:n < 7 <;> simpa [c,d] using this

theorem zsz:jV 3=⟨[1],1⟩:=by kernel_rfl
theorem zst:jV 4=⟨[1,1],1⟩:=by kernel_rfl
theorem zrT:jV 5=⟨[1,1],1⟩:=by kernel_rfl
theorem zsp:jV 6=⟨[1,-1,-1],-1⟩:=by kernel_rfl
theorem zrY:jV 7=⟨[0,0],1⟩:=by kernel_rfl
theorem zss:jV 8=⟨[-1,-1],1⟩:=by kernel_rfl
theorem zpS:jV 9=⟨[0,0],0⟩:=by kernel_rfl
theorem zoR:jV 10=⟨[0,0],0⟩:=by kernel_rfl
theorem zpC:jV 11=⟨[0,0],0⟩:=by kernel_rfl
theorem zpF:jV 12=⟨[0,0],0⟩:=by kernel_rfl
theorem zpv:jV 13=⟨[0,0],0⟩:=by kernel_rfl
theorem zrZ (op:Int) (h:9≤op∧op≤13):jV op=⟨[0,0],0⟩:=by
  have:op=9∨op=10∨op=11∨op=12∨op=13:=by omega
  rcases this with e | e | e | e | e <;> rw [e]
  · exact zpS
  · exact zoR
  · exact zpC
  · exact zpF
  · exact zpv

theorem zsO {α:Type} {l:List α} (h:l.length=1):∃ a,l=[a]:=by
  match l,h with
  | [a],_=>exact ⟨a,rfl⟩
theorem zlI {α:Type} {l:List α} (h:l.length=2):∃ a b,l=[a,b]:=by
  match l,h with
  | [a,b],_=>exact ⟨a,b,rfl⟩
theorem zsM {α:Type} {l:List α} (h:l.length=3):∃ a b c,l=[a,b,c]:=by
  match l,h with
  | [a,b,c],_=>exact ⟨a,b,c,rfl⟩

/-- what the shapes say -/
theorem zeX {t:jm} {b1:List Int} {common:Int} (hop:3≤t.op∧t.op≤13) (hn:t.n=0) (hl:b1.length=(jV t.op).args.length) (hb:b1.length=t.args.length) (hty:∀ q,q < t.args.length→TyT (t.args.getD q default) (b1.getD q default))
    (hc:∀ q,q < (jV t.op).args.length→((jV t.op).args.getD q default = -1→b1.getD q default=common∨b1.getD q default = -1)∧((jV t.op).args.getD q default≠-1→b1.getD q default=(jV t.op).args.getD q default)) :
    TyT t (if (jV t.op).result = -1 then common else (jV t.op).result):=by
  obtain ⟨op,n,args⟩:=t
  simp only at hop hn hl hb hty hc ⊢
  subst hn
  have cases9:op=3∨op=4∨op=5∨op=6∨op=7∨op=8∨(9≤op∧op≤13):=by omega
  rcases cases9 with rfl | rfl | rfl | rfl | rfl | rfl | h9
  · rw [zsz] at hl hc ⊢
    obtain ⟨a,rfl⟩:=zsO (hb.symm.trans hl)
    have h0:=hty 0 (by simp)
    have c0:=hc 0 (by simp)
    simp at h0 c0 ⊢
    rw [c0] at h0
    exact .not h0
  · rw [zst] at hl hc ⊢
    obtain ⟨a,b,rfl⟩:=zlI (hb.symm.trans hl)
    have h0:=hty 0 (by simp); have h1:=hty 1 (by simp)
    have c0:=hc 0 (by simp); have c1:=hc 1 (by simp)
    simp at h0 h1 c0 c1 ⊢
    rw [c0] at h0; rw [c1] at h1
    exact .conj (.inl rfl) h0 h1
  · rw [zrT] at hl hc ⊢
    obtain ⟨a,b,rfl⟩:=zlI (hb.symm.trans hl)
    have h0:=hty 0 (by simp); have h1:=hty 1 (by simp)
    have c0:=hc 0 (by simp); have c1:=hc 1 (by simp)
    simp at h0 h1 c0 c1 ⊢
    rw [c0] at h0; rw [c1] at h1
    exact .conj (.inr rfl) h0 h1
  · rw [zsp] at hl hc ⊢
    obtain ⟨a,b,c,rfl⟩:=zsM (hb.symm.trans hl)
    have h0:=hty 0 (by simp); have h1:=hty 1 (by simp); have h2:=hty 2 (by simp)
    have c0:=hc 0 (by simp); have c1:=hc 1 (by simp); have c2:=hc 2 (by simp)
    simp at h0 h1 h2 c0 c1 c2 ⊢
    have k1:=h1.kind; have k2:=h2.kind
    rw [c0] at h0
    have e1:b1[1]?.getD 0=common:=by omega
    have e2:b1[2]?.getD 0=common:=by omega
    rw [e1] at h1; rw [e2] at h2
    exact .ite h0 h1 h2
  · rw [zrY] at hl hc ⊢
    obtain ⟨a,b,rfl⟩:=zlI (hb.symm.trans hl)
    have h0:=hty 0 (by simp); have h1:=hty 1 (by simp)
    have c0:=hc 0 (by simp); have c1:=hc 1 (by simp)
    simp at h0 h1 c0 c1 ⊢
    rw [c0] at h0; rw [c1] at h1
    exact .less h0 h1
  · rw [zss] at hl hc ⊢
    obtain ⟨a,b,rfl⟩:=zlI (hb.symm.trans hl)
    have h0:=hty 0 (by simp); have h1:=hty 1 (by simp)
    have c0:=hc 0 (by simp); have c1:=hc 1 (by simp)
    simp at h0 h1 c0 c1 ⊢
    have k1:=h0.kind; have k2:=h1.kind
    have e1:b1[0]?.getD 0=common:=by omega
    have e2:b1[1]?.getD 0=common:=by omega
    rw [e1] at h0; rw [e2] at h1
    exact .eq h0 h1
  · rw [zrZ op h9] at hl hc ⊢
    obtain ⟨a,b,rfl⟩:=zlI (hb.symm.trans hl)
    have h0:=hty 0 (by simp); have h1:=hty 1 (by simp)
    have c0:=hc 0 (by simp); have c1:=hc 1 (by simp)
    simp at h0 h1 c0 c1 ⊢
    rw [c0] at h0; rw [c1] at h1
    exact .arith h9 h0 h1

theorem GK:∀ (fu:Nat) (t:jm),t.depth≤fu→(ka fu t).2=0→TyT t (ka fu t).1
  | 0,t,hd,_=>absurd hd (by have:=t.depth_pos; omega)
  | fu+1,t,hd,h=>by
    have ih:=GK fu
    have key:ka (fu+1) t=(qA (ka fu) (fun _=>False) (fun _ h=>h.elim) t).val:=rfl
    rw [key] at h ⊢
    refine (Sk.pval (qA (ka fu) (fun _=>False) (fun _ h=>h.elim) t) (L:=fun x=>x.2=0→TyT t x.1) (Sk.pst_of _ ?_)) h
    unfold qA
    simp only [Sk.pstq,Sk.isLoop,reduceCtorEq,false_implies,Qy,zL,Cal.z,Cal.p,Cal.t,Cal.pt,Cal.o,Cal.and,Cal.andl,Cal.andr,Cal.wh,Cal.dep,Cal.depr,Ctr.c,kk,YM,HD,Ur,implies_true,true_and,and_true,and_self,true_implies,forall_eq,forall_const]
    refine ⟨⟨⟨by simp,Nat.zero_le _,fun q hq=>absurd hq (by omega)⟩,fun i hi=>⟨fun hc=>⟨fun he h=>?_,fun he=>⟨⟨by simp [hi.1],?_,fun q hq=>?_⟩,?_⟩⟩,fun hc=>⟨hi.1,fun q hq=>hi.2.2 q (by simp at hc; omega)⟩⟩⟩,fun b hb=>⟨fun hc h=>absurd h (by decide),fun hc=>⟨fun hop h=>?_,fun hop=>⟨fun _ h=>absurd h (by decide),fun hl=>⟨⟨⟨Nat.zero_le _,fun q hq=>absurd hq (by omega)⟩,fun i hi=>⟨fun hc=>⟨⟨?_,?_⟩,fun y _ hy=>⟨⟨?_,?_⟩,fun z _ hz=>⟨fun _ h=>absurd h (by decide),fun he=>⟨⟨?_,fun q hq=>?_⟩,?_⟩⟩⟩⟩,fun hc q hq=>hi.2 q (by simp at hc; omega)⟩⟩,fun y hy=>⟨?_,?_⟩⟩⟩⟩⟩⟩
    · rw [h] at he; exact absurd he (by decide)
    · simp only [LN] at hc; omega
    · simp only [LN] at hc he
      by_cases e:q=i.2
      · subst e
        exact ⟨he,Ym _ (by omega) _ _⟩
      · have:=hi.2.2 q (by omega)
        refine ⟨this.1,?_⟩
        rw [← this.2]
        exact Yj _ e _ _
    · simp only [LN] at hc; omega
    · exact zdF t (by simp only [LN] at hop; omega) h
    · intro h; simp only [LN] at h; rw [if_pos h]
    · intro h
      rw [if_neg]
      simp only [LN] at h
      intro ⟨h1,h2⟩
      rcases h with h | h
      · exact h h1
      · exact h h2
    · intro h; simp only [LN] at h; rw [if_pos h]
    · intro h; simp only [LN] at h; rw [if_neg h]
    · simp only [LN] at hc; omega
    · simp only [LN] at hc he
      by_cases e:q=i.2
      · subst e
        refine ⟨fun h=>?_,fun h=>?_⟩
        · rw [if_pos h] at hz; left; rw [he,hz]
        · rw [if_neg h] at hz; rw [he,hz]
      · have:=hi.2 q (by omega)
        refine ⟨fun h=>?_,this.2⟩
        rcases this.1 h with h1 | h1
        · by_cases c:(jV t.op).args.getD i.snd default = -1∧i.fst = -1
          · right; rw [h1,c.2]
          · rw [if_neg c] at hy; left; rw [h1,hy]
        · exact .inr h1
    · simp only [LN] at hc; omega
    · intro h
      simp only [LN] at hc hop hl h
      have:=zeX (t:=t) (b1:=b) (common:=y) (by omega) hl.2 (by omega) hb.1 (fun q hq=>by
        have h1:=hb.2 q hq
        rw [h1.2]
        exact ih _ (by have:=t.depth_args q hq; omega) h1.1) hy
      rw [if_pos h] at this
      exact this
    · intro h
      simp only [LN] at hc hop hl h
      have:=zeX (t:=t) (b1:=b) (common:=y) (by omega) hl.2 (by omega) hb.1 (fun q hq=>by
        have h1:=hb.2 q hq
        rw [h1.2]
        exact ih _ (by have:=t.depth_args q hq; omega) h1.1) hy
      rw [if_neg h] at this
      exact this
end
end Go.Proofs.YtilbddpghnnmhaaGreatDoor

