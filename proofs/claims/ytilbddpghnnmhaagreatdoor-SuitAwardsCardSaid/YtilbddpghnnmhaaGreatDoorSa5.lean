/- Functions, as sketches. -/
import Derived.Test.YtilbddpghnnmhaaGreatDoorSa4
namespace Go.Proofs.YtilbddpghnnmhaaGreatDoor
noncomputable section
open Go Go.Av
set_option linter.unusedSimpArgs false
set_option linter.unusedVariables false
set_option maxHeartbeats 1000000
set_option maxRecDepth 100000
def gn (f:jh) (day:Int):Sk (kM) :=
 .r 1 ((jt f day).c) fun x1 =>
 .r 2 (.o [.nrmm (mkM dB)]) fun _ =>
 .bind true (fun _=>True)
 (.loop (default:Sum (kM) ((List (Int × Bool)))) (fun i3=>i3.1≤x1.acts.length) (fun i3=>x1.acts.length - i3.1) ((0,([]:List (Int × Bool))):Nat × (List (Int × Bool)))
 (fun (i3:Nat × (List (Int × Bool)))=>⟨[(22,iv ((i3.1:Nat):Int))],[(17,mpM dB i3.2)]⟩) fun i3 =>
 .bnd 20 0 x1.acts.length <|
 .br (decide (((i3.1:Nat):Int) < ((x1.acts.length:Nat):Int)))
 (.r 5 (.p (ixP ((i3.1:Nat):Int) x1.acts.length)) fun _ =>
 .br (((x1.acts.getD i3.1 default).kind) == 7)
 (.r 7 (.andl (.t (Jg dB i3.2)) (.o [.nrmm (zns dB i3.2 ((x1.acts.getD i3.1 default).at_) true)])) fun _ =>
 .r 8 .z fun _ =>
 .wi 22 (w64 (((i3.1:Nat):Int)+1)) ((i3.1+1:Nat):Int) <|
 .fin (.inr (i3.1+1,yZ i3.2 ((x1.acts.getD i3.1 default).at_) true)))
 (.r 8 .z fun _ =>
 .wi 22 (w64 (((i3.1:Nat):Int)+1)) ((i3.1+1:Nat):Int) <|
 .fin (.inr (i3.1+1,i3.2))))
 (.fin (.inl (.inr i3.2))))
 (fun (b2:(List (Int × Bool)))=>⟨[],[(17,mpM dB b2)]⟩) fun b2 =>
 .bind true (fun b4=>b4.length≤0+x1.signs.length)
 (.loop (default:Sum (kM) ((List Int))) (fun i5=>i5.1≤x1.signs.length∧i5.2.length≤0+i5.1) (fun i5=>x1.signs.length - i5.1) ((0,[]):Nat × (List Int))
 (fun (i5:Nat × (List Int))=>⟨[(37,iv ((i5.1:Nat):Int))],[(100002,jy 3 1 jA i5.2),(5,.box (f.cells.map .d++x1.cells.map .d++[iv day,ow 100002 i5.2]))]⟩) fun i5 =>
 .bnd 35 0 x1.signs.length <|
 .br (decide (((i5.1:Nat):Int) < ((x1.signs.length:Nat):Int)))
 (.r 11 (.p (ixP ((i5.1:Nat):Int) x1.signs.length)) fun _ =>
 .r 12 (.wh (((x1.signs.getD i5.1 default).kind) == 2) true (.andl (.t (Jg dB b2)) (.o [.cast 48 (zlF dB b2 ((i5.1:Nat):Int) false)]))) fun _ =>
 .br ((((x1.signs.getD i5.1 default).kind) == 2)&&(!(kf b2 ((i5.1:Nat):Int) false)))
 (.r 13 (.andl (.o [.nrm (qt ky [(x1.signs.getD i5.1 default).part])]) (.andl (.o [.nrm (Ji ky i5.2 [(x1.signs.getD i5.1 default).part])]) (.andl (.t (ky.ones [(x1.signs.getD i5.1 default).part])) (.p (szP i5.2.length [(x1.signs.getD i5.1 default).part].length 8))))) fun _ =>
 .r 14 .z fun _ =>
 .wi 37 (w64 (((i5.1:Nat):Int)+1)) ((i5.1+1:Nat):Int) <|
 .fin (.inr (i5.1+1,i5.2++[(x1.signs.getD i5.1 default).part])))
 (.r 14 .z fun _ =>
 .wi 37 (w64 (((i5.1:Nat):Int)+1)) ((i5.1+1:Nat):Int) <|
 .fin (.inr (i5.1+1,i5.2))))
 (.fin (.inl (.inr i5.2))))
 (fun (b4:(List Int))=>⟨[],[(100001,jy 3 1 jA b4),(5,.box (f.cells.map .d++x1.cells.map .d++[iv day,ow 100001 b4]))]⟩) fun b4 =>
 .r 15 ((QS 100001 b4).c) fun x6 =>
 .wn 100001 b4.length x6.length <|
 .r 16 ((gE 100001 64 x6).c) fun x7 =>
 .br (((x7.length:Nat):Int) == 0)
 (.r 18 (.o [.nrm (qt ky [0])]) fun _ =>
 .fin ({ all:=f,now:=x1,day:=day,lead:=[0] }:kM))
 (.fin ({ all:=f,now:=x1,day:=day,lead:=x7 }:kM))
def jW (f:jh) (day:Int):kM:=(gn f day).val
theorem zjU (f:jh) (day:Int):(gn f day).pst (fun (x:kM)=>x.all=f∧x.now=ji f day∧x.day=day∧x.lead.length≠0∧x.lead.length≤1+f.signs.length):=by
  unfold gn
  try simp only [jt,gE,QS,zdx.c,WI.c,jh.Small,jg.Small]
  exact okP

theorem YB (f:jh) (day:Int):(fun (x:kM)=>x.all=f∧x.now=ji f day∧x.day=day∧x.lead.length≠0∧x.lead.length≤1+f.signs.length) (jW f day):=have h:=Sk.pval _ (zjU f day); h
theorem zlT (f:jh) (day:Int) (h_f_Small:f.Small):(gn f day).obs (fun _=>True):=by
  simp only [jh.Small,jg.Small] at h_f_Small
  unfold gn
  try simp only [jt,gE,QS,zdx.c,WI.c,jh.Small,jg.Small]
  exact okD

def FZ (f:jh) (day:Int):Ctr (kM):=kk tok mixed Tryz.func143 [av f.cells,iv day] (fun x=>av x.cells) false (gn f day) (jW f day) (fun (h:(f.Small))=>zlT f day h) (fun (x:kM)=>x.all=f∧x.now=ji f day∧x.day=day∧x.lead.length≠0∧x.lead.length≤1+f.signs.length) (YB f day)
structure jp where
  known:Bool
  n:Int
  deriving Inhabited
def jp.cells (c:jp):List D:=[dB c.known,dI c.n]
def jp.E:Enc jp:=⟨jp.cells,2,fun _=>rfl,fun _=>rfl⟩
structure Said where
  cell:jp
  order:Int
  path:List Int
  err:Int
  deriving Inhabited
def Said.cells (c:Said):List D:=c.cell.cells++[dI c.order,slD jA c.path,dI c.err]
def Said.E:Enc Said:=⟨Said.cells,5,fun _=>rfl,fun _=>rfl⟩
structure ka where
  file:jh
  sign:Int
  holder:Int
  defence:Int
  due:Int
  day:Int
  deriving Inhabited
def ka.cells (c:ka):List D:=c.file.cells++[dI c.sign,dI c.holder,dI c.defence,dI c.due,dI c.day]
def ka.E:Enc ka:=⟨ka.cells,24,fun _=>rfl,fun _=>rfl⟩
def yC (a:kw) (v:ka):Sk (Bool) :=
 .fin (decide (a.at_≤v.sign))
def jV (a:kw) (v:ka):Bool:=(yC a v).val
theorem UZ (a:kw) (v:ka):jV a v=(decide (a.at_≤v.sign)):=rfl
theorem zbo (a:kw) (v:ka):(yC a v).obs (fun _=>True):=by
  unfold yC
  exact okE

def Qo (a:kw) (v:ka):Ctr (Bool):=kk tok mixed Tryz.func168 [av a.cells,.ref v.cells] (fun x=>bv x) true (yC a v) (jV a v) (fun (_:True)=>zbo a v)
def kH (s:List kw) (v:ka):Sk (Int) :=
 .bind true (fun b1=>∀ q,q < s.length→jV (s.getD q default) v=false)
 (.loop (default:Sum (Int) (Unit)) (fun i2=>∀ q,q < i2→jV (s.getD q default) v=false) (fun i2=>s.length - i2) (0:Nat)
 (fun (i2:Nat)=>⟨[(8,iv ((i2:Nat):Int))],[]⟩) fun i2 =>
 .bnd 0 0 s.length <|
 .br (decide (((i2:Nat):Int) < ((s.length:Nat):Int)))
 (.r 4 (.andl (.p (ixP ((i2:Nat):Int) s.length)) ((Qo (s.getD i2 default) v).c)) fun x3 =>
 .br x3
 (.fin (.inl (.inl ((i2:Nat):Int))))
 (.r 6 .z fun _ =>
 .wi 8 (w64 (((i2:Nat):Int)+1)) ((i2+1:Nat):Int) <|
 .fin (.inr (i2+1))))
 (.fin (.inl (.inr ()))))
 (fun (_:Unit)=>⟨[],[]⟩) fun _ =>
 .fin (-1)
def Zi (s:List kw) (v:ka):Int:=(kH s v).val
theorem Yu (s:List kw) (v:ka):(kH s v).pst (fun (x:Int)=>(x = -1∧∀ q,q < s.length→jV (s.getD q default) v=false)∨(0≤x∧x < s.length∧jV (s.getD x.toNat default) v=true∧∀ q,(q:Nat) < x.toNat→jV (s.getD q default) v=false)):=by
  unfold kH
  try simp only [Qo,UZ]
  exact okQ

theorem UI (s:List kw) (v:ka):(fun (x:Int)=>(x = -1∧∀ q,q < s.length→jV (s.getD q default) v=false)∨(0≤x∧x < s.length∧jV (s.getD x.toNat default) v=true∧∀ q,(q:Nat) < x.toNat→jV (s.getD q default) v=false)) (Zi s v):=have h:=Sk.pval _ (Yu s v); h
theorem GI (s:List kw) (v:ka):(kH s v).obs (fun _=>True):=by
  unfold kH
  try simp only [Qo,UZ]
  exact okG

def uR (s:List kw) (v:ka):Ctr (Int):=kk tok mixed Tryz.func203 [lv kw.cells s,.fn 168 [.ref v.cells]] (fun x=>iv x) true (kH s v) (Zi s v) (fun (_:True)=>GI s v) (fun (x:Int)=>(x = -1∧∀ q,q < s.length→jV (s.getD q default) v=false)∨(0≤x∧x < s.length∧jV (s.getD x.toNat default) v=true∧∀ q,(q:Nat) < x.toNat→jV (s.getD q default) v=false)) (UI s v)
def kr (s:List kw) (v:ka):Sk (Bool) :=
 .r 1 ((uR s v).c) fun x1 =>
 .fin (decide (x1≥0))
def Ke (s:List kw) (v:ka):Bool:=(kr s v).val
theorem Vu (s:List kw) (v:ka):(kr s v).pst (fun (x:Bool)=>(x=true↔∃ q,q < s.length∧jV (s.getD q default) v=true)):=by
  unfold kr
  try simp only [uR]
  exact okP

theorem ZP (s:List kw) (v:ka):(fun (x:Bool)=>(x=true↔∃ q,q < s.length∧jV (s.getD q default) v=true)) (Ke s v):=have h:=Sk.pval _ (Vu s v); h
theorem VQ (s:List kw) (v:ka):(kr s v).obs (fun _=>True):=by
  unfold kr
  try simp only [uR]
  exact okE

def vh (s:List kw) (v:ka):Ctr (Bool):=kk tok mixed Tryz.func167 [lv kw.cells s,.fn 168 [.ref v.cells]] (fun x=>bv x) true (kr s v) (Ke s v) (fun (_:True)=>VQ s v) (fun (x:Bool)=>(x=true↔∃ q,q < s.length∧jV (s.getD q default) v=true)) (ZP s v)
def gx (r:jg) (city:Int):Sk (Int) :=
 .r 1 ((jY city ((r.cities.length:Nat):Int)).c) fun x1 =>
 .br (!x1)
 (.fin (-1))
 (.r 3 (.p (ixP city r.cities.length)) fun _ =>
 .fin ((r.cities.getD city.toNat default).order))
def ziw (r:jg) (city:Int):Int:=(gx r city).val
theorem zcf (r:jg) (city:Int):(gx r city).obs (fun _=>True):=by
  unfold gx
  try simp only [jY,vz]
  exact okG

def ki (r:jg) (city:Int):Ctr (Int):=kk tok mixed Tryz.func133 [av r.cells,iv city] (fun x=>iv x) true (gx r city) (ziw r city) (fun (_:True)=>zcf r city)
def Jw (is_:Bool):Sk (jp) :=
 .br is_
 (.fin ({ known:=true,n:=1 }:jp))
 (.fin ({ known:=true,n:=0 }:jp))
def zks (is_:Bool):jp:=(Jw is_).val
theorem zdq (is_:Bool):(Jw is_).obs (fun _=>True):=by
  unfold Jw
  exact okE

def yQ (is_:Bool):Ctr (jp):=kk tok mixed Tryz.func71 [bv is_] (fun x=>av x.cells) true (Jw is_) (zks is_) (fun (_:True)=>zdq is_)
def KB (f:jh) (kind:Int) (at_:Int):Sk (jp) :=
 .bind true (fun _=>True)
 (.loop (default:Sum (jp) (Unit)) (fun i2=>i2≤f.facts.length) (fun i2=>f.facts.length - i2) (0:Nat)
 (fun (i2:Nat)=>⟨[(12,iv ((i2:Nat):Int))],[]⟩) fun i2 =>
 .bnd 10 0 f.facts.length <|
 .br (decide (((i2:Nat):Int) < ((f.facts.length:Nat):Int)))
 (.r 3 (.p (ixP ((i2:Nat):Int) f.facts.length)) fun _ =>
 .br ((((f.facts.getD i2 default).kind) == kind)&&(((f.facts.getD i2 default).at_) == at_))
 (.r 5 ((yQ (((f.facts.getD i2 default).n) != 0)).c) fun x3 =>
 .fin (.inl (.inl x3)))
 (.r 6 .z fun _ =>
 .wi 12 (w64 (((i2:Nat):Int)+1)) ((i2+1:Nat):Int) <|
 .fin (.inr (i2+1))))
 (.fin (.inl (.inr ()))))
 (fun (_:Unit)=>⟨[],[]⟩) fun _ =>
 .fin ({ known:=false,n:=0 }:jp)
def zmH (f:jh) (kind:Int) (at_:Int):jp:=(KB f kind at_).val
theorem zgz (f:jh) (kind:Int) (at_:Int):(KB f kind at_).obs (fun _=>True):=by
  unfold KB
  try simp only [yQ]
  exact okD

def jZ (f:jh) (kind:Int) (at_:Int):Ctr (jp):=kk tok mixed Tryz.func48 [av f.cells,iv kind,iv at_] (fun x=>av x.cells) true (KB f kind at_) (zmH f kind at_) (fun (_:True)=>zgz f kind at_)
def uw (r:jg) (c_:ka):Sk ((List jp)) :=
 .r 3 (.dep ((qe c_.sign ((c_.file.signs.length:Nat):Int)).c) fun x1=>.wh (((!x1)||(decide (c_.holder < (-1))))||(decide ((jP c_.holder 0)≥((c_.file.signs.length:Nat):Int)))) false (.wh (c_.due != (-1)) true ((qe c_.due 100001).c))) fun p25 =>
 .br ((((!p25.1)||(decide (c_.holder < (-1))))||(decide ((jP c_.holder 0)≥((c_.file.signs.length:Nat):Int))))||((c_.due != (-1))&&(!p25.2)))
 (.fin [])
 (.r 5 (.p (ixP c_.sign c_.file.signs.length)) fun _ =>
 .r 6 ((qe ((c_.file.signs.getD c_.sign.toNat default).day) 100001).c) fun x3 =>
 .br (!x3)
 (.fin [])
 (.bind false (fun _=>True)
 (.br (c_.due != (-1))
 (.fin (.inr (w64 (((c_.file.signs.getD c_.sign.toNat default).day) - c_.due))))
 (.fin (.inr 0)))
 (fun (b4:Int)=>⟨[(9,iv b4)],[]⟩) fun b4 =>
 .r 11 (.andl (.o [.nrm (mkC jp.E 20 ({ known:=false,n:=0 }:jp))]) (.p (mkP (20:Int) 16))) fun _ =>
 .r 12 (.andl (.o [.nrmm zsr]) (.andl (.o [.nrmm (zsu dI 0 c_.file.bill.sum)]) (.andl (.o [.nrmm (zbK dI [0] [c_.file.bill.sum] rfl 1 c_.file.bill.parts)]) (.andl (.o [.nrmm (zbK dI [0,1] [c_.file.bill.sum,c_.file.bill.parts] rfl 2 c_.file.bill.tenor.kind)]) (.andl (.o [.nrmm (zbK dI [0,1,2] [c_.file.bill.sum,c_.file.bill.parts,c_.file.bill.tenor.kind] rfl 3 c_.file.bill.rate)]) (.andl (.o [.nrmm (zbK dI [0,1,2,3] [c_.file.bill.sum,c_.file.bill.parts,c_.file.bill.tenor.kind,c_.file.bill.rate] rfl 4 ((c_.file.signs.getD c_.sign.toNat default).kind))]) (.andl (.o [.nrmm (zbK dI [0,1,2,3,4] [c_.file.bill.sum,c_.file.bill.parts,c_.file.bill.tenor.kind,c_.file.bill.rate,(c_.file.signs.getD c_.sign.toNat default).kind] rfl 5 c_.defence)]) (.o [.nrmm (zbK dI [0,1,2,3,4,5] [c_.file.bill.sum,c_.file.bill.parts,c_.file.bill.tenor.kind,c_.file.bill.rate,(c_.file.signs.getD c_.sign.toNat default).kind,c_.defence] rfl 6 b4)])))))))) fun _ =>
 .bind true (fun b5=>b5.length=20)
 (.mr 7 (fun g6=>g6.length=20) (List.replicate 20 ({ known:=false,n:=0 }:jp):(List jp))
 (fun g6 s8=>⟨[(10,ow 100002 g6)],[(100002,jy 95 2 jp.cells g6),(90,.it 74 7 s8)]⟩)
 (fun g9=>⟨[(10,ow 100002 g9)],[(100002,jy 95 2 jp.cells g9)]⟩)
 (fun g6 i7 =>
 .brt <|
 .r 14 (.p (i7 < 7)) fun _ =>
 .r 15 (.andl (.p (ixP (([0,1,2,3,4,5,6]:List Int).getD i7 0) g6.length)) (.andl (.o [.nrm (Vw jp.E g6 ((([0,1,2,3,4,5,6]:List Int).getD i7 0).toNat) ({ known:=true,n:=([c_.file.bill.sum,c_.file.bill.parts,c_.file.bill.tenor.kind,c_.file.bill.rate,(c_.file.signs.getD c_.sign.toNat default).kind,c_.defence,b4]:List Int).getD i7 default }:jp))]) (.p ((([0,1,2,3,4,5,6]:List Int).getD i7 0).toNat < g6.length)))) fun _ =>
 .wn 100002 g6.length (g6.set ((([0,1,2,3,4,5,6]:List Int).getD i7 0).toNat) ({ known:=true,n:=([c_.file.bill.sum,c_.file.bill.parts,c_.file.bill.tenor.kind,c_.file.bill.rate,(c_.file.signs.getD c_.sign.toNat default).kind,c_.defence,b4]:List Int).getD i7 default }:jp)).length <|
 .fin (g6.set ((([0,1,2,3,4,5,6]:List Int).getD i7 0).toNat) ({ known:=true,n:=([c_.file.bill.sum,c_.file.bill.parts,c_.file.bill.tenor.kind,c_.file.bill.rate,(c_.file.signs.getD c_.sign.toNat default).kind,c_.defence,b4]:List Int).getD i7 default }:jp))) fun g9 =>
 .brf <|
 .fin (.inr g9))
 (fun (b5:(List jp))=>⟨[(90,.any),(10,ow 100001 b5)],[(100001,jy 95 2 jp.cells b5)]⟩) fun b5 =>
 .r 16 ((vh c_.file.alters c_).c) fun x10 =>
 .r 17 (.dep ((ki r c_.file.bill.city).c) fun _=>(ki r c_.file.bill.pay).c) fun p24 =>
 .r 18 (.andl (.o [.nrmm zsr]) (.andl (.o [.nrmm (zsu dB 7 ((kY .i64 c_.file.bill.flags 1) != 0))]) (.andl (.o [.nrmm (zbK dB [7] [(kY .i64 c_.file.bill.flags 1) != 0] rfl 8 (c_.file.bill.payee == (-1)))]) (.andl (.o [.nrmm (zbK dB [7,8] [(kY .i64 c_.file.bill.flags 1) != 0,c_.file.bill.payee == (-1)] rfl 9 ((kY .i64 c_.file.bill.flags 4) != 0))]) (.andl (.o [.nrmm (zbK dB [7,8,9] [(kY .i64 c_.file.bill.flags 1) != 0,c_.file.bill.payee == (-1),(kY .i64 c_.file.bill.flags 4) != 0] rfl 10 ((kY .i64 c_.file.bill.flags 2) != 0))]) (.andl (.o [.nrmm (zbK dB [7,8,9,10] [(kY .i64 c_.file.bill.flags 1) != 0,c_.file.bill.payee == (-1),(kY .i64 c_.file.bill.flags 4) != 0,(kY .i64 c_.file.bill.flags 2) != 0] rfl 11 (p24.1 != p24.2))]) (.andl (.o [.nrmm (zbK dB [7,8,9,10,11] [(kY .i64 c_.file.bill.flags 1) != 0,c_.file.bill.payee == (-1),(kY .i64 c_.file.bill.flags 4) != 0,(kY .i64 c_.file.bill.flags 2) != 0,p24.1 != p24.2] rfl 12 x10)]) (.andl (.o [.nrmm (zbK dB [7,8,9,10,11,12] [(kY .i64 c_.file.bill.flags 1) != 0,c_.file.bill.payee == (-1),(kY .i64 c_.file.bill.flags 4) != 0,(kY .i64 c_.file.bill.flags 2) != 0,p24.1 != p24.2,x10] rfl 13 ((kY .i64 ((c_.file.signs.getD c_.sign.toNat default).flags) 1) != 0))]) (.o [.nrmm (zbK dB [7,8,9,10,11,12,13] [(kY .i64 c_.file.bill.flags 1) != 0,c_.file.bill.payee == (-1),(kY .i64 c_.file.bill.flags 4) != 0,(kY .i64 c_.file.bill.flags 2) != 0,p24.1 != p24.2,x10,(kY .i64 ((c_.file.signs.getD c_.sign.toNat default).flags) 1) != 0] rfl 14 (decide (b4 > 0)))]))))))))) fun _ =>
 .bind true (fun b13=>b13.length=20)
 (.mr 8 (fun g14=>g14.length=20) (b5:(List jp))
 (fun g14 s16=>⟨[(10,ow 100005 g14)],[(100005,jy 95 2 jp.cells g14),(139,.it 114 8 s16)]⟩)
 (fun g18=>⟨[(10,ow 100005 g18)],[(100005,jy 95 2 jp.cells g18)]⟩)
 (fun g14 i15 =>
 .brt <|
 .r 20 (.p (i15 < 8)) fun _ =>
 .r 21 (.depr ((yQ (([(kY .i64 c_.file.bill.flags 1) != 0,c_.file.bill.payee == (-1),(kY .i64 c_.file.bill.flags 4) != 0,(kY .i64 c_.file.bill.flags 2) != 0,p24.1 != p24.2,x10,(kY .i64 ((c_.file.signs.getD c_.sign.toNat default).flags) 1) != 0,decide (b4 > 0)]:List Bool).getD i15 default)).c) fun x17=>.andl (.p (ixP (([7,8,9,10,11,12,13,14]:List Int).getD i15 0) g14.length)) (.andl (.o [.nrm (Vw jp.E g14 ((([7,8,9,10,11,12,13,14]:List Int).getD i15 0).toNat) x17)]) (.p ((([7,8,9,10,11,12,13,14]:List Int).getD i15 0).toNat < g14.length)))) fun x17 =>
 .wn 100005 g14.length (g14.set ((([7,8,9,10,11,12,13,14]:List Int).getD i15 0).toNat) x17).length <|
 .fin (g14.set ((([7,8,9,10,11,12,13,14]:List Int).getD i15 0).toNat) x17)) fun g18 =>
 .brf <|
 .fin (.inr g18))
 (fun (b13:(List jp))=>⟨[(139,.any),(10,ow 100004 b13)],[(100004,jy 95 2 jp.cells b13)]⟩) fun b13 =>
 .r 22 (.depr ((jZ c_.file 0 c_.sign).c) fun x19=>.andl (.p (ixP (15:Int) b13.length)) (.andl (.o [.nrm (Vw jp.E b13 15 x19)]) (.p (15 < b13.length)))) fun x19 =>
 .wn 100004 b13.length (b13.set 15 x19).length <|
 .r 23 (.depr ((jZ c_.file 1 c_.sign).c) fun x20=>.andl (.p (ixP (16:Int) ((b13.set 15 x19).length))) (.andl (.o [.nrm (Vw jp.E (b13.set 15 x19) 16 x20)]) (.p (16 < (b13.set 15 x19).length)))) fun x20 =>
 .wn 100004 (b13.set 15 x19).length ((b13.set 15 x19).set 16 x20).length <|
 .r 24 (.depr ((jZ c_.file 2 c_.sign).c) fun x21=>.andl (.p (ixP (17:Int) (((b13.set 15 x19).set 16 x20).length))) (.andl (.o [.nrm (Vw jp.E ((b13.set 15 x19).set 16 x20) 17 x21)]) (.p (17 < ((b13.set 15 x19).set 16 x20).length)))) fun x21 =>
 .wn 100004 ((b13.set 15 x19).set 16 x20).length (((b13.set 15 x19).set 16 x20).set 17 x21).length <|
 .r 25 (.depr ((jZ c_.file 3 (jP c_.holder 0)).c) fun x22=>.andl (.p (ixP (18:Int) ((((b13.set 15 x19).set 16 x20).set 17 x21).length))) (.andl (.o [.nrm (Vw jp.E (((b13.set 15 x19).set 16 x20).set 17 x21) 18 x22)]) (.p (18 < (((b13.set 15 x19).set 16 x20).set 17 x21).length)))) fun x22 =>
 .wn 100004 (((b13.set 15 x19).set 16 x20).set 17 x21).length ((((b13.set 15 x19).set 16 x20).set 17 x21).set 18 x22).length <|
 .r 26 (.depr ((jZ c_.file 4 (jP c_.holder 0)).c) fun x23=>.andl (.p (ixP (19:Int) (((((b13.set 15 x19).set 16 x20).set 17 x21).set 18 x22).length))) (.andl (.o [.nrm (Vw jp.E ((((b13.set 15 x19).set 16 x20).set 17 x21).set 18 x22) 19 x23)]) (.p (19 < ((((b13.set 15 x19).set 16 x20).set 17 x21).set 18 x22).length)))) fun x23 =>
 .wn 100004 ((((b13.set 15 x19).set 16 x20).set 17 x21).set 18 x22).length (((((b13.set 15 x19).set 16 x20).set 17 x21).set 18 x22).set 19 x23).length <|
 .fin (((((b13.set 15 x19).set 16 x20).set 17 x21).set 18 x22).set 19 x23)))
def XH (r:jg) (c_:ka):(List jp):=(uw r c_).val
theorem zrt:(∀ i,i < 7→0≤([0,1,2,3,4,5,6]:List Int).getD i 0∧([0,1,2,3,4,5,6]:List Int).getD i 0 < 20)∧∀ i,i < 7→∀ j,j < 7→i≠j→(([0,1,2,3,4,5,6]:List Int).getD j 0).toNat≠(([0,1,2,3,4,5,6]:List Int).getD i 0).toNat:=by decide
theorem zrq:(∀ i,i < 8→0≤([7,8,9,10,11,12,13,14]:List Int).getD i 0∧([7,8,9,10,11,12,13,14]:List Int).getD i 0 < 20)∧∀ i,i < 8→∀ j,j < 8→i≠j→(([7,8,9,10,11,12,13,14]:List Int).getD j 0).toNat≠(([7,8,9,10,11,12,13,14]:List Int).getD i 0).toNat:=by decide
theorem zdj (r:jg) (c_:ka):(uw r c_).pst (fun (x:(List jp))=>x=[]∨(x.length=20∧0≤c_.sign∧c_.sign < c_.file.signs.length)):=by
  refine Sk.pst_of _ ?_
  unfold uw
  simp only [Sk.pstq,Sk.isLoop,reduceCtorEq,ON,kk,ki,jZ,yQ,qe,vh,uz,forall_eq,maxLen]
  all_goals (repeat' first | assumption | (apply And.intro) | (intro h))
  all_goals first | trivial | assumption | omega | ((try simp only [LN] at *) <;> first | omega | (refine (jj ?_ ?_).trans ?_ <;> omega) | (simp (disch:=omega) only [jj] at *; omega) | (grind) | (simp_all; done) | (simp_all; omega))

theorem zbM (r:jg) (c_:ka):(fun (x:(List jp))=>x=[]∨(x.length=20∧0≤c_.sign∧c_.sign < c_.file.signs.length)) (XH r c_):=have h:=Sk.pval _ (zdj r c_); h
theorem zhg (r:jg) (c_:ka):(uw r c_).obs (fun _=>True):=by
  refine Sk.obs_of _ ?_
  unfold uw
  simp only [Sk.obq,Sk.isLoop,reduceCtorEq,ON,kk,Sk.pst,ki,jZ,yQ,qe,vh,uz,forall_eq,maxLen]
  all_goals (repeat' first | (apply And.intro) | (intro h))
  all_goals first | trivial | assumption | omega | (have:=zrt.1 _ ‹_ < 7›; (try simp only [LN] at *) <;> omega) | (have:=zrq.1 _ ‹_ < 8›; (try simp only [LN] at *) <;> omega) | exact List.set_comm _ _ (zrt.2 _ ‹_› _ ‹_› ‹_›) | exact List.set_comm _ _ (zrq.2 _ ‹_› _ ‹_› ‹_›) | ((try simp only [LN] at *) <;> omega)

def YQ (r:jg) (c_:ka):Ctr ((List jp)):=kk tok mixed Tryz.func136 [av r.cells,av c_.cells] (fun x=>lv jp.cells x) false (uw r c_) (XH r c_) (fun (_:True)=>zhg r c_) (fun (x:(List jp))=>x=[]∨(x.length=20∧0≤c_.sign∧c_.sign < c_.file.signs.length)) (zbM r c_)
def VB (r:jg) (c_:ka):Sk (ka × (List jp)) :=
 .r 1 ((jt c_.file c_.day).c) fun x1 =>
 .r 2 ((YQ r ({ file:=x1,sign:=c_.sign,holder:=c_.holder,defence:=c_.defence,due:=c_.due,day:=c_.day }:ka)).c) fun x2 =>
 .fin (({ file:=x1,sign:=c_.sign,holder:=c_.holder,defence:=c_.defence,due:=c_.due,day:=c_.day }:ka),x2)
def znp (r:jg) (c_:ka):ka × (List jp):=(VB r c_).val
theorem znG (r:jg) (c_:ka):(VB r c_).pst (fun (x:ka × (List jp))=>x.2=[]∨(x.2.length=20∧0≤x.1.sign∧x.1.sign < x.1.file.signs.length)):=by
  unfold VB
  try simp only [jt,YQ,jh.Small,jg.Small]
  exact okP

theorem zlQ (r:jg) (c_:ka):(fun (x:ka × (List jp))=>x.2=[]∨(x.2.length=20∧0≤x.1.sign∧x.1.sign < x.1.file.signs.length)) (znp r c_):=have h:=Sk.pval _ (znG r c_); h
theorem zpf (r:jg) (c_:ka) (hf:c_.file.Small):(VB r c_).obs (fun _=>True):=by
  simp only [jh.Small,jg.Small] at hf
  unfold VB
  try simp only [jt,YQ,jh.Small,jg.Small]
  exact okD

def zhp (r:jg) (c_:ka):Ctr (ka × (List jp)):=kk tok mixed Tryz.func108 [av r.cells,av c_.cells] (fun x=>.tup [av x.1.cells,lv jp.cells x.2]) false (VB r c_) (znp r c_) (fun (h:(c_.file.Small))=>zpf r c_ h) (fun (x:ka × (List jp))=>x.2=[]∨(x.2.length=20∧0≤x.1.sign∧x.1.sign < x.1.file.signs.length)) (zlQ r c_)
theorem zgU {n:Nat} {g:Nat→Int} (h:∀ q,q < n→q≠0→g (q - 1)≤g q) (i:Nat):∀ k,i+k < n→g i≤g (i+k)
  | 0,_=>Int.le_refl _
  | k+1,hk=>Int.le_trans (zgU h i k (by omega)) (h (i+(k+1)) hk (by omega))
theorem zow {α:Type} [Inhabited α] (p:α→Bool):∀ (l:List α) (i:Nat),i < l.length→(∀ q,q≤i→p (l.getD q default)=true)→i < (l.takeWhile p).length
  | [],i,h,_=>absurd h (by simp)
  | x :: r,i,h,hp=>by
    have h0:p x=true:=hp 0 (by omega)
    rw [List.takeWhile_cons,h0,if_pos rfl,List.length_cons]
    cases i with
    | zero=>omega
    | succ i=>have:=zow p r i (by simpa using h) (fun q hq=>by have:=hp (q+1) (by omega); simpa using this); omega
theorem jU.mono {r:jg} {f:jh} (h:jU r f) {i j:Nat} (hij:i≤j) (hj:j < f.signs.length):(f.signs.getD i default).day≤(f.signs.getD j default).day:=by
  have:=zgU (n:=f.signs.length) (g:=fun q=>(f.signs.getD q default).day) (fun q hq h0=>(h.2.2.1 q hq).2.1 h0) i (j - i) (by omega)
  rwa [show i+(j - i)=j by omega] at this
theorem jU.at_in {r:jg} {f:jh} (h:jU r f) {d y:Int} (h0:0≤y) (h1:y < f.signs.length) (h2:(f.signs.getD y.toNat default).day≤d):y < (ji f d).signs.length:=by
  have:y.toNat < (ji f d).signs.length:=by
    rw [KQ]
    refine zow _ _ _ (by omega) (fun q hq=>decide_eq_true ?_)
    have:=h.mono hq (by omega)
    omega
  omega
theorem zmL (f:jh) (d:Int):(ji f d).bill=f.bill:=by rw [KQ]
theorem BO (f:jh) (d:Int) (i:Nat) (h:i < (ji f d).signs.length):(ji f d).signs.getD i default=f.signs.getD i default:=by
  rw [KQ] at h ⊢
  exact (XQ _ _ _ h).1
theorem KW (f:jh) (d:Int):(ji f d).signs.length≤f.signs.length:=by
  rw [KQ]
  exact (List.takeWhile_sublist _).length_le
theorem zoj {f:jh} (h:f.SumOK) (d:Int):(ji f d).SumOK:=by
  obtain ⟨h1,h2,h3,h4⟩:=h
  have h2:=(Gx (P:=fun x:kw=>yO x.sum)).1 h2
  have h3:=(Gx (P:=fun x:ql=>yO x.sum)).1 h3
  have h4:=(Gx (P:=fun x:jE=>yO x.sum)).1 h4
  unfold jh.SumOK
  rw [KQ]
  exact ⟨h1,(Gx (P:=fun x:kw=>yO x.sum)).2 fun x hx=>h2 x (List.mem_filter.1 hx).1,(Gx (P:=fun x:ql=>yO x.sum)).2 fun x hx=>h3 x ((List.takeWhile_sublist _).subset hx),(Gx (P:=fun x:jE=>yO x.sum)).2 fun x hx=>h4 x ((List.takeWhile_sublist _).subset hx)⟩
theorem jU.at_sums {r:jg} {f:jh} (h:jU r f) (d:Int):(ji f d).SumOK:=zoj h.sums d
theorem HC {f:jh} (h:f.Small) (d:Int):(ji f d).Small:=by
  have h1:=Uq f d
  unfold jh.Small at h ⊢
  dsimp only at h1
  omega
theorem jU.at_base {r:jg} {f:jh} (h:jU r f) (d:Int):∀ i,i < (ji f d).signs.length→(((ji f d).signs.getD i default).kind=3∨((ji f d).signs.getD i default).kind=4)→0≤((ji f d).signs.getD i default).for_∧((ji f d).signs.getD i default).for_ < (i:Int):=by
  intro i hi
  rw [BO f d i hi]
  have:=KW f d
  exact (h.2.2.1 i (by omega)).2.2.2.2.2.2.2.2
theorem jU.at_who {r:jg} {f:jh} (h:jU r f) (d:Int) {y:Int} (h0:0≤y) (h1:y < (ji f d).signs.length):0≤((ji f d).signs.getD y.toNat default).who∧((ji f d).signs.getD y.toNat default).who < (r.firms.length:Int):=by
  rw [BO f d y.toNat (by omega)]
  have:=KW f d
  exact (h.2.2.1 y.toNat (by omega)).1
def QE (ask:Int):Sk (Int × Bool) :=
 .br ((decide (ask < 0))||(decide (ask≥22)))
 (.fin (0,false))
 (.r 3 (.andl (.o [.nrm (qt ky [6,7,10,12,13,14,15,16,20,21])]) ((jq [6,7,10,12,13,14,15,16,20,21] ask).c)) fun x1 =>
 .br x1
 (.fin (0,true))
 (.fin (1,true)))
def zne (ask:Int):Int × Bool:=(QE ask).val
theorem ziP (ask:Int):(QE ask).obs (fun _=>True):=by
  unfold QE
  try simp only [jq]
  exact okE

def uF (ask:Int):Ctr (Int × Bool):=kk tok mixed Tryz.func109 [iv ask] (fun x=>.tup [iv x.1,bv x.2]) true (QE ask) (zne ask) (fun (_:True)=>ziP ask)
def QL (r:jg) (forum:Int) (c_:ka):Sk ((List Int)) :=
 .r 1 (.p (ixP c_.sign c_.file.signs.length)) fun _ =>
 .br ((((decide (((c_.file.signs.getD c_.sign.toNat default).who) < 0))||(decide (((c_.file.signs.getD c_.sign.toNat default).who)≥((r.firms.length:Nat):Int))))||(decide (forum < 0)))||(decide (forum≥((r.orders.length:Nat):Int))))
 (.fin [])
 (.r 4 (.andl (.o [.nrm (mkC ky 5 0)]) (.p (mkP (5:Int) 8))) fun _ =>
 .r 5 (.andl (.p (ixP (0:Int) ((List.replicate 5 (0:Int)).length))) (.andl (.o [.nrm (Vw ky (List.replicate 5 (0:Int)) 0 forum)]) (.p (0 < (List.replicate 5 (0:Int)).length)))) fun _ =>
 .wn 42 (List.replicate 5 (0:Int)).length ((List.replicate 5 (0:Int)).set 0 forum).length <|
 .r 6 (.depr ((ki r ((c_.file.signs.getD c_.sign.toNat default).city)).c) fun x1=>.andl (.p (ixP (1:Int) (((List.replicate 5 (0:Int)).set 0 forum).length))) (.andl (.o [.nrm (Vw ky ((List.replicate 5 (0:Int)).set 0 forum) 1 x1)]) (.p (1 < ((List.replicate 5 (0:Int)).set 0 forum).length)))) fun x1 =>
 .wn 42 ((List.replicate 5 (0:Int)).set 0 forum).length (((List.replicate 5 (0:Int)).set 0 forum).set 1 x1).length <|
 .r 7 (.depr ((ki r c_.file.bill.pay).c) fun x2=>.andl (.p (ixP (2:Int) ((((List.replicate 5 (0:Int)).set 0 forum).set 1 x1).length))) (.andl (.o [.nrm (Vw ky (((List.replicate 5 (0:Int)).set 0 forum).set 1 x1) 2 x2)]) (.p (2 < (((List.replicate 5 (0:Int)).set 0 forum).set 1 x1).length)))) fun x2 =>
 .wn 42 (((List.replicate 5 (0:Int)).set 0 forum).set 1 x1).length ((((List.replicate 5 (0:Int)).set 0 forum).set 1 x1).set 2 x2).length <|
 .r 8 (.depr ((ki r c_.file.bill.city).c) fun x3=>.andl (.p (ixP (3:Int) (((((List.replicate 5 (0:Int)).set 0 forum).set 1 x1).set 2 x2).length))) (.andl (.o [.nrm (Vw ky ((((List.replicate 5 (0:Int)).set 0 forum).set 1 x1).set 2 x2) 3 x3)]) (.p (3 < ((((List.replicate 5 (0:Int)).set 0 forum).set 1 x1).set 2 x2).length)))) fun x3 =>
 .wn 42 ((((List.replicate 5 (0:Int)).set 0 forum).set 1 x1).set 2 x2).length (((((List.replicate 5 (0:Int)).set 0 forum).set 1 x1).set 2 x2).set 3 x3).length <|
 .r 9 (.andl (.p (ixP ((c_.file.signs.getD c_.sign.toNat default).who) r.firms.length)) (.depr ((ki r ((r.firms.getD (((c_.file.signs.getD c_.sign.toNat default).who).toNat) default).city)).c) fun x4=>.andl (.p (ixP (4:Int) ((((((List.replicate 5 (0:Int)).set 0 forum).set 1 x1).set 2 x2).set 3 x3).length))) (.andl (.o [.nrm (Vw ky (((((List.replicate 5 (0:Int)).set 0 forum).set 1 x1).set 2 x2).set 3 x3) 4 x4)]) (.p (4 < (((((List.replicate 5 (0:Int)).set 0 forum).set 1 x1).set 2 x2).set 3 x3).length))))) fun x4 =>
 .wn 42 (((((List.replicate 5 (0:Int)).set 0 forum).set 1 x1).set 2 x2).set 3 x3).length ((((((List.replicate 5 (0:Int)).set 0 forum).set 1 x1).set 2 x2).set 3 x3).set 4 x4).length <|
 .r 10 ((jq ((((((List.replicate 5 (0:Int)).set 0 forum).set 1 x1).set 2 x2).set 3 x3).set 4 x4) (-1)).c) fun x5 =>
 .br x5
 (.fin [])
 (.fin ((((((List.replicate 5 (0:Int)).set 0 forum).set 1 x1).set 2 x2).set 3 x3).set 4 x4)))
def zna (r:jg) (forum:Int) (c_:ka):(List Int):=(QL r forum c_).val
theorem ziW (r:jg) (forum:Int) (c_:ka) (hs:0≤c_.sign∧c_.sign < c_.file.signs.length):(QL r forum c_).obs (fun _=>True):=by
  unfold QL
  try simp only [ki,jq]
  exact okD

def WF (r:jg) (forum:Int) (c_:ka):Ctr ((List Int)):=kk tok mixed Tryz.func110 [av r.cells,iv forum,av c_.cells] (fun x=>.d (bif x.isEmpty then .v (.slice none 0 0) else slD jA x)) false (QL r forum c_) (zna r forum c_) (fun (h:(0≤c_.sign∧c_.sign < c_.file.signs.length))=>ziW r forum c_ h)
def vZ (o:Int) (v:Int):Sk (Bool) :=
 .fin ((decide (o < 0))||(decide (o≥v)))
def jL (o:Int) (v:Int):Bool:=(vZ o v).val
theorem Jh (o:Int) (v:Int):jL o v=((decide (o < 0))||(decide (o≥v))):=rfl
theorem FA (o:Int) (v:Int):(vZ o v).obs (fun _=>True):=by
  unfold vZ
  exact okE

def JU (o:Int) (v:Int):Ctr (Bool):=kk tok mixed Tryz.func170 [iv o,.ref [dI v]] (fun x=>bv x) true (vZ o v) (jL o v) (fun (_:True)=>FA o v)
def kK (s:List Int) (v:Int):Sk (Int) :=
 .bind true (fun b1=>∀ q,q < s.length→jL (s.getD q default) v=false)
 (.loop (default:Sum (Int) (Unit)) (fun i2=>∀ q,q < i2→jL (s.getD q default) v=false) (fun i2=>s.length - i2) (0:Nat)
 (fun (i2:Nat)=>⟨[(8,iv ((i2:Nat):Int))],[]⟩) fun i2 =>
 .bnd 0 0 s.length <|
 .br (decide (((i2:Nat):Int) < ((s.length:Nat):Int)))
 (.r 4 (.andl (.p (ixP ((i2:Nat):Int) s.length)) ((JU (s.getD i2 default) v).c)) fun x3 =>
 .br x3
 (.fin (.inl (.inl ((i2:Nat):Int))))
 (.r 6 .z fun _ =>
 .wi 8 (w64 (((i2:Nat):Int)+1)) ((i2+1:Nat):Int) <|
 .fin (.inr (i2+1))))
 (.fin (.inl (.inr ()))))
 (fun (_:Unit)=>⟨[],[]⟩) fun _ =>
 .fin (-1)
def Zd (s:List Int) (v:Int):Int:=(kK s v).val
theorem Yp (s:List Int) (v:Int):(kK s v).pst (fun (x:Int)=>(x = -1∧∀ q,q < s.length→jL (s.getD q default) v=false)∨(0≤x∧x < s.length∧jL (s.getD x.toNat default) v=true∧∀ q,(q:Nat) < x.toNat→jL (s.getD q default) v=false)):=by
  unfold kK
  try simp only [JU,Jh]
  exact okQ

theorem UB (s:List Int) (v:Int):(fun (x:Int)=>(x = -1∧∀ q,q < s.length→jL (s.getD q default) v=false)∨(0≤x∧x < s.length∧jL (s.getD x.toNat default) v=true∧∀ q,(q:Nat) < x.toNat→jL (s.getD q default) v=false)) (Zd s v):=have h:=Sk.pval _ (Yp s v); h
theorem YT (s:List Int) (v:Int):(kK s v).obs (fun _=>True):=by
  unfold kK
  try simp only [JU,Jh]
  exact okG

def uG (s:List Int) (v:Int):Ctr (Int):=kk tok mixed Tryz.func204 [lv jA s,.fn 170 [.ref [dI v]]] (fun x=>iv x) true (kK s v) (Zd s v) (fun (_:True)=>YT s v) (fun (x:Int)=>(x = -1∧∀ q,q < s.length→jL (s.getD q default) v=false)∨(0≤x∧x < s.length∧jL (s.getD x.toNat default) v=true∧∀ q,(q:Nat) < x.toNat→jL (s.getD q default) v=false)) (UB s v)
def kq (s:List Int) (v:Int):Sk (Bool) :=
 .r 1 ((uG s v).c) fun x1 =>
 .fin (decide (x1≥0))
def Kf (s:List Int) (v:Int):Bool:=(kq s v).val
theorem Vg (s:List Int) (v:Int):(kq s v).pst (fun (x:Bool)=>(x=true↔∃ q,q < s.length∧jL (s.getD q default) v=true)):=by
  unfold kq
  try simp only [uG]
  exact okP

theorem ZO (s:List Int) (v:Int):(fun (x:Bool)=>(x=true↔∃ q,q < s.length∧jL (s.getD q default) v=true)) (Kf s v):=have h:=Sk.pval _ (Vg s v); h
theorem VT (s:List Int) (v:Int):(kq s v).obs (fun _=>True):=by
  unfold kq
  try simp only [uG]
  exact okE

def qL (s:List Int) (v:Int):Ctr (Bool):=kk tok mixed Tryz.func169 [lv jA s,.fn 170 [.ref [dI v]]] (fun x=>bv x) true (kq s v) (Kf s v) (fun (_:True)=>VT s v) (fun (x:Bool)=>(x=true↔∃ q,q < s.length∧jL (s.getD q default) v=true)) (ZO s v)
def qW (r:jg) (order:Int) (ask:Int) (places:List Int):Sk (Bool) :=
 .br (((((decide (order < 0))||(decide (order≥((r.orders.length:Nat):Int))))||(decide (ask < 0)))||(decide (ask≥22)))||(((places.length:Nat):Int) != 5))
 (.fin false)
 (.r 4 ((qL places ((r.orders.length:Nat):Int)).c) fun x1 =>
 .fin (!x1))
def zH (r:jg) (order:Int) (ask:Int) (places:List Int):Bool:=(qW r order ask places).val
theorem zaE (r:jg) (order:Int) (ask:Int) (places:List Int):(qW r order ask places).pst (fun (x:Bool)=>x=true→0≤order∧order < r.orders.length∧places.length=5∧∀ i,i < 5→0≤places.getD i default∧places.getD i default < r.orders.length):=by
  refine Sk.pst_of _ ?_
  unfold qW
  simp only [Sk.pstq,Sk.isLoop,reduceCtorEq,ON,kk,qL,maxLen]
  all_goals (repeat' first | (apply And.intro) | (intro h))
  all_goals first | trivial | (simp at *; done) | (simp only [LN] at *; omega) | (simp only [LN] at *; grind [Jh])

theorem FY (r:jg) (order:Int) (ask:Int) (places:List Int):(fun (x:Bool)=>x=true→0≤order∧order < r.orders.length∧places.length=5∧∀ i,i < 5→0≤places.getD i default∧places.getD i default < r.orders.length) (zH r order ask places):=have h:=Sk.pval _ (zaE r order ask places); h
theorem zcl (r:jg) (order:Int) (ask:Int) (places:List Int):(qW r order ask places).obs (fun _=>True):=by
  unfold qW
  try simp only [qL]
  exact okE

def vl (r:jg) (order:Int) (ask:Int) (places:List Int):Ctr (Bool):=kk tok mixed Tryz.func137 [av r.cells,iv order,iv ask,lv jA places] (fun x=>bv x) true (qW r order ask places) (zH r order ask places) (fun (_:True)=>zcl r order ask places) (fun (x:Bool)=>x=true→0≤order∧order < r.orders.length∧places.length=5∧∀ i,i < 5→0≤places.getD i default∧places.getD i default < r.orders.length) (FY r order ask places)
def zg (r:jg) (order:Int) (ask:Int) (places:List Int):Sk (Int × Bool) :=
 .r 1 ((vl r order ask places).c) fun x1 =>
 .br (!x1)
 (.fin ((-1),false))
 (.r 3 (.p (ixP order r.orders.length)) fun _ =>
 .bind true (fun _=>True)
 (.loop (default:Sum (Int × Bool) (Unit)) (fun i3=>i3≤((r.orders.getD order.toNat default).choices).length) (fun i3=>((r.orders.getD order.toNat default).choices).length - i3) (0:Nat)
 (fun (i3:Nat)=>⟨[(25,iv ((i3:Nat):Int))],[]⟩) fun i3 =>
 .bnd 23 0 (((r.orders.getD order.toNat default).choices).length) <|
 .br (decide (((i3:Nat):Int) < ((((r.orders.getD order.toNat default).choices).length:Nat):Int)))
 (.r 5 (.p (ixP ((i3:Nat):Int) (((r.orders.getD order.toNat default).choices).length))) fun _ =>
 .br ((((((r.orders.getD order.toNat default).choices).getD i3 default).ask) == ask)&&(((((r.orders.getD order.toNat default).choices).getD i3 default).by_) != 0))
 (.r 7 (.p (ixP ((((r.orders.getD order.toNat default).choices).getD i3 default).by_) places.length)) fun _ =>
 .fin (.inl (.inl (places.getD (((((r.orders.getD order.toNat default).choices).getD i3 default).by_).toNat) default,(((r.orders.getD order.toNat default).choices).getD i3 default).whole))))
 (.r 8 .z fun _ =>
 .wi 25 (w64 (((i3:Nat):Int)+1)) ((i3+1:Nat):Int) <|
 .fin (.inr (i3+1))))
 (.fin (.inl (.inr ()))))
 (fun (_:Unit)=>⟨[],[]⟩) fun _ =>
 .fin (order,false))
def Hi (r:jg) (order:Int) (ask:Int) (places:List Int):Int × Bool:=(zg r order ask places).val
theorem zi6 {l:List Int} {n:Nat} (h0:0 < n) (h:∀ i,i < 5→0≤l.getD i default∧l.getD i default < n) (hl:l.length=5) (k:Nat):0≤l.getD k default∧l.getD k default < n:=by
  by_cases c:k < 5
  · exact h k c
  · have:l.getD k default=0:=by simp [List.getD,List.getElem?_eq_none (by omega:l.length≤k)]
    rw [this]; omega
theorem ZU {r:jg} {a b ask:Int} {places:List Int} (h:zH r a ask places=true) (hb:0≤b∧b < r.orders.length):zH r b ask places=true:=by
  simp only [zH,qW,Sk.val,Ctr.c,kk,qL] at h ⊢
  revert h
  simp only [Bool.cond_eq_ite]
  split
  · intro h; cases h
  · rename_i h1
    intro h
    rw [if_neg]
    · exact h
    · simp only [Bool.or_eq_true,decide_eq_true_eq,not_or] at h1 ⊢
      exact ⟨⟨⟨⟨by omega,by omega⟩,h1.1.1.2⟩,h1.1.2⟩,h1.2⟩
theorem BA (r:jg) (order:Int) (ask:Int) (places:List Int):(zg r order ask places).pst (fun (x:Int × Bool)=>zH r order ask places=true→0≤x.1∧x.1 < r.orders.length):=by
  refine Sk.pst_of _ ?_
  unfold zg
  simp only [Sk.pstq,Sk.isLoop,reduceCtorEq,ON,kk,vl,jg.ByOK,maxLen]
  all_goals (repeat' first | (apply And.intro) | (intro h))
  all_goals first | trivial | omega | (simp only [LN] at *; first | omega | (exact (zi6 (n:=r.orders.length) (by grind) (by grind) (by grind) _).1) | (exact (zi6 (n:=r.orders.length) (by grind) (by grind) (by grind) _).2) | grind)

theorem Fo (r:jg) (order:Int) (ask:Int) (places:List Int):(fun (x:Int × Bool)=>zH r order ask places=true→0≤x.1∧x.1 < r.orders.length) (Hi r order ask places):=have h:=Sk.pval _ (BA r order ask places); h
theorem zaO (r:jg) (order:Int) (ask:Int) (places:List Int) (hb:r.ByOK):(zg r order ask places).obs (fun _=>True):=by
  simp only [jg.ByOK] at hb
  unfold zg
  try simp only [vl,jg.ByOK]
  exact okD

def Qk (r:jg) (order:Int) (ask:Int) (places:List Int):Ctr (Int × Bool):=kk tok mixed Tryz.func138 [av r.cells,iv order,iv ask,lv jA places] (fun x=>.tup [iv x.1,bv x.2]) true (zg r order ask places) (Hi r order ask places) (fun (h:(r.ByOK))=>zaO r order ask places h) (fun (x:Int × Bool)=>zH r order ask places=true→0≤x.1∧x.1 < r.orders.length) (Fo r order ask places)
def KO (n:Nat) (l:List Int):Prop:=l.length≠0∧l.Nodup∧∀ x,x∈l→0≤x∧x < n
theorem KO.le {n:Nat} {l:List Int} (h:KO n l):l.length≤n:=by
  have h1:=List.Nodup.length_le_of_subset (l₁:=l) (l₂:=(List.range n).map Int.ofNat) h.2.1 (fun x hx=>by
    have:=h.2.2 x hx
    exact List.mem_map.2 ⟨x.toNat,List.mem_range.2 (by omega),by simp; omega⟩)
  simpa using h1
theorem KO.get {n:Nat} {l:List Int} (h:KO n l) (k:Nat):0≤l.getD k default∧l.getD k default < n:=by
  by_cases hk:k < l.length
  · have e:l.getD k default=l[k]:=by simp [List.getD,hk]
    rw [e]
    exact h.2.2 _ (List.getElem_mem hk)
  · have e:l.getD k default=0:=by simp [List.getD,List.getElem?_eq_none (by omega:l.length≤k)]
    have:=h.le
    have:=h.1
    rw [e]
    omega
theorem KO.snoc' {n:Nat} {l:List Int} (h:KO n l) {x:Int} (hx:0≤x∧x < n):∀ y,y∈l++[x]→0≤y∧y < n:=fun y hy=>by
  rcases List.mem_append.1 hy with h1 | h1
  · exact h.2.2 y h1
  · simp only [List.mem_singleton] at h1; subst h1; exact hx
theorem KO.snoc {n:Nat} {l:List Int} (h:KO n l) {x:Int} (hx:0≤x∧x < n) (hn:¬ ∃ q,q < l.length∧(l.getD q default == x)=true):KO n (l++[x]):=by
  refine ⟨by simp,?_,h.snoc' hx⟩
  refine List.nodup_append.2 ⟨h.2.1,by simp,fun a ha b hb e=>?_⟩
  simp only [List.mem_singleton] at hb
  subst hb; subst e
  obtain ⟨q,hq,e⟩:=List.getElem_of_mem ha
  exact hn ⟨q,hq,by simp [List.getD,hq,e]⟩
theorem KO.one {n:Nat} {x:Int} (hx:0≤x∧x < n):KO n [x]:=⟨by simp,by simp,fun y hy=>by simp only [List.mem_singleton] at hy; subst hy; exact hx⟩
def vp (r:jg) (forum:Int) (ask:Int) (places:List Int):Sk ((List Int) × Int) :=
 .r 1 (.depr ((vl r forum ask places).c) fun x1=>.wh (!x1) false (.p (ixP (0:Int) places.length))) fun x1 =>
 .br ((!x1)||((places.getD 0 default) != forum))
 (.fin ([],1))
 (.r 3 (.o [.nrm (qt ky [forum])]) fun _ =>
 .loop (default:(List Int) × Int) (fun i2=>KO r.orders.length i2) (fun i2=>r.orders.length+1 - i2.length) ([forum]:(List Int))
 (fun (i2:(List Int))=>⟨[(10,ow 100001 i2)],[(100001,jy 3 1 jA i2)]⟩) fun i2 =>
 .r 4 (.andl (.p (ixP (w64 (((i2.length:Nat):Int) - 1)) i2.length)) (.p ((w64 (((i2.length:Nat):Int) - 1)).toNat < i2.length))) fun _ =>
 .r 5 ((Qk r (i2.getD ((w64 (((i2.length:Nat):Int) - 1)).toNat) default) ask places).c) fun x3 =>
 .br (x3.1 == (i2.getD ((w64 (((i2.length:Nat):Int) - 1)).toNat) default))
 (.fin (.inl (i2,0)))
 (.r 8 ((jq i2 x3.1).c) fun x4 =>
 .r 9 (.andl (.o [.nrm (qt ky [x3.1])]) (.andl (.o [.nrm (Ji ky i2 [x3.1])]) (.andl (.t (ky.ones [x3.1])) (.p (szP i2.length [x3.1].length 8))))) fun _ =>
 .r 10 (.wh (!x3.2) false (.wh x4 true (.p (ixP x3.1 r.orders.length)))) fun _ =>
 .br ((!x3.2)||(x4&&((r.orders.getD x3.1.toNat default).accepts)))
 (.fin (.inl (i2++[x3.1],0)))
 (.br x4
 (.fin (.inl (i2++[x3.1],12)))
 (.fin (.inr (i2++[x3.1]))))))
def za6 (r:jg) (forum:Int) (ask:Int) (places:List Int):(List Int) × Int:=(vp r forum ask places).val
theorem zbr (r:jg) (forum:Int) (ask:Int) (places:List Int):(vp r forum ask places).pst (fun (x:(List Int) × Int)=>x.2=0→x.1.length≠0∧(∀ y,y∈x.1→0≤y∧y < r.orders.length)∧x.1.length≤r.orders.length+1):=by
  refine Sk.pst_of _ ?_
  unfold vp
  simp only [Sk.pstq,Sk.isLoop,reduceCtorEq,ON,kk,Qk,vl,jq,jh.Small,jg.Small,jg.ByOK,maxLen]
  intro x hx hp
  refine ⟨fun _ h=>by omega,fun hc _=>?_⟩
  have hx1:x=true:=by simp at hc; exact hc.1
  obtain ⟨h1,h2,h3,h4⟩:=hp hx1
  refine ⟨KO.one ⟨h1,h2⟩,fun i hi _ y hy hy2=>?_⟩
  have hy3:=hy2 (ZU (hx ▸ hx1) (hi.get _))
  have hle:=hi.le
  refine ⟨fun _=>⟨hi.1,hi.2.2,by omega⟩,fun _ z hz hz2 _ _=>⟨fun _=>⟨by simp,hi.snoc' hy3,by simp; omega⟩,fun _=>⟨fun _ h=>by omega,fun hz3=>?_⟩⟩⟩
  have hs:=hi.snoc hy3 (by rw [← hz2,hz3]; simp)
  have:=hs.le
  simp only [List.length_append,List.length_cons,List.length_nil] at this ⊢
  exact ⟨hs,by omega⟩

theorem zaW (r:jg) (forum:Int) (ask:Int) (places:List Int):(fun (x:(List Int) × Int)=>x.2=0→x.1.length≠0∧(∀ y,y∈x.1→0≤y∧y < r.orders.length)∧x.1.length≤r.orders.length+1) (za6 r forum ask places):=have h:=Sk.pval _ (zbr r forum ask places); h
theorem zdR (r:jg) (forum:Int) (ask:Int) (places:List Int) (hb:r.ByOK) (hr:r.Small):(vp r forum ask places).obs (fun _=>True):=by
  simp only [jh.Small,jg.Small,jg.ByOK] at hb
  simp only [jh.Small,jg.Small,jg.ByOK] at hr
  refine Sk.obs_of _ ?_
  unfold vp
  simp only [Sk.obq,Sk.isLoop,reduceCtorEq,ON,kk,Qk,vl,jq,jh.Small,jg.Small,jg.ByOK,maxLen]
  refine ⟨fun x hx hp hx1=>?_,fun x hx hp hc _=>?_⟩
  · have:=hp (by simpa using hx1); omega
  have hx1:x=true:=by simp at hc; exact hc.1
  obtain ⟨h1,h2,h3,h4⟩:=hp hx1
  refine ⟨KO.one ⟨h1,h2⟩,fun i hi=>?_⟩
  have hle:=hi.le
  have hne:=hi.1
  have hw:w64 ((i.length:Int) - 1)=(i.length:Int) - 1:=jj (by omega) (by omega)
  rw [hw]
  refine ⟨⟨⟨by omega,by omega⟩,by omega⟩,fun _=>⟨hb,fun y hy hy2 hne2 z hz hz2=>?_⟩⟩
  have hy3:=hy2 (ZU (hx ▸ hx1) (hi.get _))
  refine ⟨⟨by simp only [List.length_cons,List.length_nil]; omega,by simp only [List.length_cons,List.length_nil]; omega⟩,fun _=>⟨fun _ _=>hy3,fun _ _ hz3=>?_⟩⟩
  have hs:=hi.snoc hy3 (by rw [← hz2,hz3]; simp)
  have:=hs.le
  simp only [List.length_append,List.length_cons,List.length_nil] at this ⊢
  exact ⟨hs,by omega⟩

def Uj (r:jg) (forum:Int) (ask:Int) (places:List Int):Ctr ((List Int) × Int):=kk tok mixed Tryz.func111 [av r.cells,iv forum,iv ask,lv jA places] (fun x=>.tup [lv jA x.1,iv x.2]) false (vp r forum ask places) (za6 r forum ask places) (fun (h:(r.ByOK)∧(r.Small))=>zdR r forum ask places h.1 h.2) (fun (x:(List Int) × Int)=>x.2=0→x.1.length≠0∧(∀ y,y∈x.1→0≤y∧y < r.orders.length)∧x.1.length≤r.orders.length+1) (zaW r forum ask places)
theorem zor {n:Nat} {l:List Int} (h1:l.length≠0) (h2:∀ y,y∈l→0≤y∧y < (n:Int)) (k:Nat):0≤l.getD k default∧l.getD k default < n:=by
  by_cases hk:k < l.length
  · have e:l.getD k default=l[k]:=by simp [List.getD,hk]
    rw [e]
    exact h2 _ (List.getElem_mem hk)
  · have e:l.getD k default=0:=by simp [List.getD,List.getElem?_eq_none (by omega:l.length≤k)]
    have h3:=h2 l[0] (List.getElem_mem (by omega))
    rw [e]
    omega
def Km (r:jg) (forum:Int) (question:Int) (c_:ka):Sk (Said × (List jp)) :=
 .r 2 ((zhp r c_).c) fun x1 =>
 .br (((x1.2.length:Nat):Int) == 0)
 (.fin (({ cell:=({ known:=false,n:=0 }:jp),order:=(-1),path:=[],err:=1 }:Said),[]))
 (.r 5 ((uF question).c) fun x2 =>
 .br (!x2.2)
 (.fin (({ cell:=({ known:=false,n:=0 }:jp),order:=(-1),path:=[],err:=1 }:Said),[]))
 (.r 8 ((WF r forum x1.1).c) fun x3 =>
 .cas 14 x3.isEmpty nv (lv jA x3)
 (.brt <|
 .fin (({ cell:=({ known:=false,n:=0 }:jp),order:=(-1),path:=[],err:=1 }:Said),[]))
 (.r 9 (.p (x3.length≠0)) fun _ =>
 .brf <|
 .r 11 ((Uj r forum question x3).c) fun x4 =>
 .br (x4.2 == 0)
 (.r 13 (.p (ixP (w64 (((x4.1.length:Nat):Int) - 1)) x4.1.length)) fun _ =>
 .fin (({ cell:=({ known:=false,n:=0 }:jp),order:=x4.1.getD ((w64 (((x4.1.length:Nat):Int) - 1)).toNat) default,path:=x4.1,err:=x4.2 }:Said),x1.2))
 (.fin (({ cell:=({ known:=false,n:=0 }:jp),order:=(-1),path:=x4.1,err:=x4.2 }:Said),x1.2)))))
def zlH (r:jg) (forum:Int) (question:Int) (c_:ka):Said × (List jp):=(Km r forum question c_).val
theorem zj6 (r:jg) (forum:Int) (question:Int) (c_:ka):(Km r forum question c_).pst (fun (x:Said × (List jp))=>x.1.order = -1∨(0≤x.1.order∧x.1.order < r.orders.length∧x.2.length=20)):=by
  refine Sk.pst_of _ ?_
  unfold Km
  simp only [Sk.pstq,Sk.isLoop,reduceCtorEq,ON,kk,zhp,WF,Uj,uF,jh.Small,jg.Small,jg.ByOK,maxLen]
  intro x hx hp
  refine ⟨fun _=>.inl trivial,fun hc x1 _=>⟨fun _=>.inl trivial,fun _ x2 _=>⟨fun _=>.inl trivial,fun _ _ x4 _ hl=>⟨fun h0 _=>.inr ?_,fun _=>.inl trivial⟩⟩⟩⟩
  obtain ⟨h1,h2,h3⟩:=hl (by simpa using h0)
  have h20:x.2.length=20:=by
    rcases hp with h | h
    · rw [h] at hc; simp at hc
    · exact h.1
  exact ⟨(zor h1 h2 _).1,(zor h1 h2 _).2,h20⟩

theorem zhS (r:jg) (forum:Int) (question:Int) (c_:ka):(fun (x:Said × (List jp))=>x.1.order = -1∨(0≤x.1.order∧x.1.order < r.orders.length∧x.2.length=20)) (zlH r forum question c_):=have h:=Sk.pval _ (zj6 r forum question c_); h
theorem zlt (r:jg) (forum:Int) (question:Int) (c_:ka) (hf:c_.file.Small) (hb:r.ByOK) (hr:r.Small):(Km r forum question c_).obs (fun _=>True):=by
  simp only [jh.Small,jg.Small,jg.ByOK] at hf
  simp only [jh.Small,jg.Small,jg.ByOK] at hb
  simp only [jh.Small,jg.Small,jg.ByOK] at hr
  refine Sk.obs_of _ ?_
  unfold Km
  simp only [Sk.obq,Sk.isLoop,reduceCtorEq,ON,kk,zhp,WF,Uj,uF,jh.Small,jg.Small,jg.ByOK,maxLen]
  refine ⟨hf,fun x hx hp hc x1 _ _=>?_⟩
  have hp':x.2.length=20∧0≤x.1.sign∧x.1.sign < x.1.file.signs.length:=by
    rcases hp with h | h
    · rw [h] at hc; simp at hc
    · exact h
  refine ⟨hp'.2,fun x2 _ he=>⟨fun h=>by simp [List.length_eq_zero_iff.1 h] at he,fun _=>⟨⟨hb,hr⟩,fun x4 _ hl h0=>?_⟩⟩⟩
  obtain ⟨h1,h2,h3⟩:=hl (by simpa using h0)
  rw [jj (by omega) (by omega)]
  omega

def zfk (r:jg) (forum:Int) (question:Int) (c_:ka):Ctr (Said × (List jp)):=kk tok mixed Tryz.func76 [av r.cells,iv forum,iv question,av c_.cells] (fun x=>.tup [av x.1.cells,lv jp.cells x.2]) false (Km r forum question c_) (zlH r forum question c_) (fun (h:(c_.file.Small)∧(r.ByOK)∧(r.Small))=>zlt r forum question c_ h.1 h.2.1 h.2.2) (fun (x:Said × (List jp))=>x.1.order = -1∨(0≤x.1.order∧x.1.order < r.orders.length∧x.2.length=20)) (zhS r forum question c_)
def gN (r:JT) (v:Int):Sk (Bool) :=
 .fin (r.ask == v)
def kA (r:JT) (v:Int):Bool:=(gN r v).val
theorem GM (r:JT) (v:Int):kA r v=(r.ask == v):=rfl
theorem zcr (r:JT) (v:Int):(gN r v).obs (fun _=>True):=by
  unfold gN
  exact okE

def ZJ (r:JT) (v:Int):Ctr (Bool):=kk tok mixed Tryz.func140 [av r.cells,.ref [dI v]] (fun x=>bv x) true (gN r v) (kA r v) (fun (_:True)=>zcr r v)
def kG (s:List JT) (v:Int):Sk (Int) :=
 .bind true (fun b1=>∀ q,q < s.length→kA (s.getD q default) v=false)
 (.loop (default:Sum (Int) (Unit)) (fun i2=>∀ q,q < i2→kA (s.getD q default) v=false) (fun i2=>s.length - i2) (0:Nat)
 (fun (i2:Nat)=>⟨[(8,iv ((i2:Nat):Int))],[]⟩) fun i2 =>
 .bnd 0 0 s.length <|
 .br (decide (((i2:Nat):Int) < ((s.length:Nat):Int)))
 (.r 4 (.andl (.p (ixP ((i2:Nat):Int) s.length)) ((ZJ (s.getD i2 default) v).c)) fun x3 =>
 .br x3
 (.fin (.inl (.inl ((i2:Nat):Int))))
 (.r 6 .z fun _ =>
 .wi 8 (w64 (((i2:Nat):Int)+1)) ((i2+1:Nat):Int) <|
 .fin (.inr (i2+1))))
 (.fin (.inl (.inr ()))))
 (fun (_:Unit)=>⟨[],[]⟩) fun _ =>
 .fin (-1)
def Ze (s:List JT) (v:Int):Int:=(kG s v).val
theorem YG (s:List JT) (v:Int):(kG s v).pst (fun (x:Int)=>(x = -1∧∀ q,q < s.length→kA (s.getD q default) v=false)∨(0≤x∧x < s.length∧kA (s.getD x.toNat default) v=true∧∀ q,(q:Nat) < x.toNat→kA (s.getD q default) v=false)):=by
  unfold kG
  try simp only [ZJ,GM]
  exact okQ

theorem UF (s:List JT) (v:Int):(fun (x:Int)=>(x = -1∧∀ q,q < s.length→kA (s.getD q default) v=false)∨(0≤x∧x < s.length∧kA (s.getD x.toNat default) v=true∧∀ q,(q:Nat) < x.toNat→kA (s.getD q default) v=false)) (Ze s v):=have h:=Sk.pval _ (YG s v); h
theorem Gk (s:List JT) (v:Int):(kG s v).obs (fun _=>True):=by
  unfold kG
  try simp only [ZJ,GM]
  exact okG

def KE (s:List JT) (v:Int):Ctr (Int):=kk tok mixed Tryz.func139 [lv JT.cells s,.fn 140 [.ref [dI v]]] (fun x=>iv x) true (kG s v) (Ze s v) (fun (_:True)=>Gk s v) (fun (x:Int)=>(x = -1∧∀ q,q < s.length→kA (s.getD q default) v=false)∨(0≤x∧x < s.length∧kA (s.getD x.toNat default) v=true∧∀ q,(q:Nat) < x.toNat→kA (s.getD q default) v=false)) (UF s v)
def Zy (rv:jl→Int→Int) (rp:jl→Int→Prop) (rf:∀ (t:jl) (level:Int),rp t level→FnA Tryz.prog 171 [av t.cells,iv level] [] (iv (rv t level)) []) (t:jl) (level:Int):Ctr (Int):=⟨Tryz.prog,171,[av t.cells,iv level],fun x=>iv x,true,rv t level,rp t level,rf t level,fun _=>True,trivial⟩
def qd (rv:jl→Int→Int) (rp:jl→Int→Prop) (rf:∀ (t:jl) (level:Int),rp t level→FnA Tryz.prog 171 [av t.cells,iv level] [] (iv (rv t level)) []) (t:jl) (level:Int):Sk (Int) :=
 .br (decide (level > 8))
 (.fin 61)
 (.bind true (fun b1=>∀ B:Int,1≤B→B≤1000000→(∀ q,q < t.args.length→1≤rv (t.args.getD q default) (w64 (level+1))∧rv (t.args.getD q default) (w64 (level+1))≤B)→(1:Int)≤b1∧b1≤60+B∧(b1≤60→t.args.length≤60∧∀ q,q < t.args.length→rv (t.args.getD q default) (w64 (level+1))≤60))
 (.loop (default:Sum (Int) (Int)) (fun i2=>i2.2≤t.args.length∧(∀ B:Int,1≤B→B≤1000000→(∀ q,q < t.args.length→1≤rv (t.args.getD q default) (w64 (level+1))∧rv (t.args.getD q default) (w64 (level+1))≤B)→(1+(i2.2:Int))≤i2.1∧i2.1≤60∧∀ q,q < i2.2→rv (t.args.getD q default) (w64 (level+1))≤60)) (fun i2=>t.args.length - i2.2) ((1,0):Int × Nat)
 (fun (i2:Int × Nat)=>⟨[(5,iv i2.1),(13,iv ((i2.2:Nat):Int))],[]⟩) fun i2 =>
 .bnd 11 0 t.args.length <|
 .br (decide (((i2.2:Nat):Int) < ((t.args.length:Nat):Int)))
 (.r 6 (.andl (.p (ixP ((i2.2:Nat):Int) t.args.length)) (.o [.cast 15 (zqN (jl.unroll (t.args.getD i2.2 default)))])) fun _ =>
 .r 7 ((Zy rv rp rf (t.args.getD i2.2 default) (w64 (level+1))).c) fun x3 =>
 .br (decide ((w64 (i2.1+x3)) > 60))
 (.fin (.inl (.inr (w64 (i2.1+x3)))))
 (.r 9 .z fun _ =>
 .wi 13 (w64 (((i2.2:Nat):Int)+1)) ((i2.2+1:Nat):Int) <|
 .fin (.inr (w64 (i2.1+x3),i2.2+1))))
 (.fin (.inl (.inr i2.1))))
 (fun (b1:Int)=>⟨[(5,iv b1)],[]⟩) fun b1 =>
 .fin b1)
def jH:Nat→jl→Int→Int
  | 0,_,_=>default
  | fu+1,t,level=>(qd (jH fu) (fun _ _=>False) (fun _ _=>fun h=>h.elim) t level).val
/-- no node has too many parts -/
inductive zbX:jl→Prop
  | mk {t:jl} (h:t.args.length≤60) (h2:∀ q,q < t.args.length→zbX (t.args.getD q default)):zbX t
theorem zeu (fu:Nat) (rf:∀ (t:jl) (level:Int),t.depth≤fu∧True→FnA Tryz.prog 171 [av t.cells,iv level] [] (iv (jH fu t level)) []) (t:jl) (level:Int) (hm:t.depth≤fu+1):(qd (jH fu) (fun t level=>t.depth≤fu∧True) rf t level).obs (fun _=>True):=by
  refine Sk.obs_of _ ?_
  unfold qd
  simp only [Sk.obq,Sk.isLoop,reduceCtorEq,ON,kk,Zy,maxLen]
  intro hlev
  have hlev:level≤8:=by simp only [LN] at hlev; exact hlev
  refine ⟨⟨Nat.zero_le _,fun B _ _ _=>⟨by omega,by omega,fun q hq=>absurd hq (by omega)⟩⟩,fun i hi hlen=>⟨fun hc=>⟨⟨by omega,of_decide_eq_true hc⟩,fun _=>⟨?_,fun x hx=>⟨fun hb B b1 b2 hq=>?_,fun hb _=>⟨?_,⟨?_,fun B b1 b2 hq=>?_⟩,?_⟩⟩⟩⟩,fun hc B b1 b2 hq=>?_⟩⟩
  all_goals (try simp only [LN] at hc)
  all_goals (try simp only [LN] at hb)
  · have:=t.depth_args i.2 (by omega); omega
  · subst hx
    have q1:=hi.2 B b1 b2 hq
    have q2:=hq i.2 (by omega)
    rw [jj (n:=i.1+_) (by omega) (by omega)] at hb ⊢
    exact ⟨by omega,by omega,fun h=>by omega⟩
  · exact jj (by omega) (by omega)
  · omega
  · subst hx
    have q1:=hi.2 B b1 b2 hq
    have q2:=hq i.2 (by omega)
    rw [jj (n:=i.1+_) (by omega) (by omega)] at hb ⊢
    refine ⟨by omega,by omega,fun q hqq=>?_⟩
    by_cases e:q=i.2
    · subst e; omega
    · exact q1.2.2 q (by omega)
  · omega
  · have q1:=hi.2 B b1 b2 hq
    exact ⟨by omega,by omega,fun _=>⟨by omega,fun q hqq=>q1.2.2 q (by omega)⟩⟩

theorem zcD (fu:Nat) (rp:jl→Int→Prop) (rf:∀ (t:jl) (level:Int),rp t level→FnA Tryz.prog 171 [av t.cells,iv level] [] (iv (jH fu t level)) []) (t:jl) (level:Int):(qd (jH fu) rp rf t level).val=jH (fu+1) t level:=by kernel_rfl
theorem zbs (fu:Nat):∀ (t:jl) (level:Int),t.depth≤fu→FnA Tryz.prog 171 [av t.cells,iv level] [] (iv (jH fu t level)) []:=by
  induction fu with
  | zero=>intro t level hm; exact absurd hm (by have:=jl.depth_pos t; omega)
  | succ fu ih =>
    intro t level hm
    have h:FnA Tryz.prog 171 [av t.cells,iv level] [] (iv ((qd (jH fu) (fun t level=>t.depth≤fu∧True) (fun t level h=>ih t level h.1) t level).val)) []:=FnA.sk tok mixed (fun x=>iv x) (fun _=>[]) Tryz.func171 rfl (by kernel_rfl) 3000 (qd (jH fu) (fun t level=>t.depth≤fu∧True) (fun t level h=>ih t level h.1) t level) (by kernel_rfl) (zeu fu _ t level hm)
    rw [zcD] at h
    exact h
def zak (t:jl) (level:Int):Int:=jH (t.depth) t level
theorem zdX (t:jl) (level:Int):FnA Tryz.prog 171 [av t.cells,iv level] [] (iv (zak t level)) []:=zbs _ t level (Nat.le_refl _)
def VL (t:jl) (level:Int):Ctr (Int):=⟨Tryz.prog,171,[av t.cells,iv level],fun x=>iv x,true,zak t level,True,fun _=>zdX t level,fun _=>True,trivial⟩
theorem jl.depthL_le {B:Nat}:∀ (l:List jl),(∀ q,q < l.length→(l.getD q default).depth≤B)→jl.depthL l≤B
  | [],_=>by simp [jl.depthL]
  | x :: r,h=>by
    have h0:=h 0 (by simp)
    have:=jl.depthL_le r (fun q hq=>by simpa using h (q+1) (by simpa using hq))
    simp only [jl.depthL]
    simp at h0
    omega

theorem Zz:∀ (fu:Nat) (t:jl) (level:Int),t.depth≤fu→1≤level→level≤9→1≤jH fu t level∧jH fu t level≤61+60 * (9 - level)∧(jH fu t level≤60→t.depth+level≤9)∧(jH fu t level≤60→zbX t)
  | 0,t,_,hd,_,_=>absurd hd (by have:=t.depth_pos; omega)
  | fu+1,t,level,hd,h1,h9=>by
    have ih:=Zz fu
    have key:jH (fu+1) t level=(qd (jH fu) (fun _ _=>False) (fun _ _ h=>h.elim) t level).val:=rfl
    rw [key]
    refine Sk.pval (qd (jH fu) (fun _ _=>False) (fun _ _ h=>h.elim) t level) (L:=fun x=>1≤x∧x≤61+60 * (9 - level)∧(x≤60→t.depth+level≤9)∧(x≤60→zbX t)) (Sk.pst_of _ ?_)
    have hw:w64 (level+1)=level+1:=jj (by omega) (by omega)
    unfold qd
    simp only [Sk.pstq,Sk.isLoop,reduceCtorEq,false_implies,Qd,zE,Cal.z,Cal.p,Cal.t,Cal.pt,Cal.o,Cal.and,Cal.andl,Cal.andr,Cal.wh,Cal.dep,Cal.depr,Ctr.c,kk,Ctr.nil,Ctr.nilc,vQ.c,vQ.nil,Zy,implies_true,true_and,and_true,and_self,true_implies,forall_eq,forall_const,hw]
    refine ⟨fun h=>⟨by omega,by omega,fun h=>by omega,fun h=>by omega⟩,fun hlev=>?_⟩
    have hlev:level≤8:=by simp only [LN] at hlev; exact hlev
    have hq:∀ q,q < t.args.length→1≤jH fu (t.args.getD q default) (level+1)∧jH fu (t.args.getD q default) (level+1)≤61+60 * (8 - level):=fun q hq=>by
      have:=ih (t.args.getD q default) (level+1) (by have:=t.depth_args q hq; omega) (by omega) (by omega)
      omega
    refine ⟨⟨⟨Nat.zero_le _,fun B _ _ _=>⟨by omega,by omega,fun q hq=>absurd hq (by omega)⟩⟩,fun i hi=>⟨fun hc=>⟨fun hb=>?_,fun hb=>⟨⟨?_,fun B b1 b2 hq=>?_⟩,?_⟩⟩,fun hc=>?_⟩⟩,fun b hb=>?_⟩
    all_goals (try simp only [LN] at hc)
    all_goals (try simp only [LN] at hb)
    · intro B b1 b2 hq
      have q1:=hi.2 B b1 b2 hq
      have q2:=hq i.2 (by omega)
      rw [jj (by omega) (by omega)] at hb ⊢
      exact ⟨by omega,by omega,fun h=>by omega⟩
    · omega
    · have q1:=hi.2 B b1 b2 hq
      have q2:=hq i.2 (by omega)
      rw [jj (by omega) (by omega)] at hb ⊢
      refine ⟨by omega,by omega,fun q hqq=>?_⟩
      by_cases e:q=i.2
      · subst e; omega
      · exact q1.2.2 q (by omega)
    · omega
    · intro B b1 b2 hq
      have q1:=hi.2 B b1 b2 hq
      exact ⟨by omega,by omega,fun _=>⟨by omega,fun q hqq=>q1.2.2 q (by omega)⟩⟩
    · have:=hb _ (by omega) (by omega) hq
      refine ⟨this.1,by omega,fun h60=>?_,fun h60=>.mk (this.2.2 h60).1 fun q hqq=>?_⟩
      · have q3:=(this.2.2 h60).2
        have:jl.depthL t.args≤(8 - level).toNat:=jl.depthL_le _ (fun q hqq=>by
          have:=(ih (t.args.getD q default) (level+1) (by have:=t.depth_args q hqq; omega) (by omega) (by omega)).2.2.1 (q3 q hqq)
          omega)
        have e:t.depth=jl.depthL t.args+1:=by obtain ⟨_,_,_⟩:=t; rfl
        omega
      · exact (ih (t.args.getD q default) (level+1) (by have:=t.depth_args q hqq; omega) (by omega) (by omega)).2.2.2 ((this.2.2 h60).2 q hqq)
def UY (n:Int):Sk (Int) :=
 .fin (qI (jP n (-1099511627776)) 1099511627776)
def zgf (n:Int):Int:=(UY n).val
theorem Zm (n:Int):zgf n=(qI (jP n (-1099511627776)) 1099511627776):=rfl
theorem zmQ (n:Int):(UY n).obs (fun _=>True):=by
  unfold UY
  exact okE

def vL (n:Int):Ctr (Int):=kk tok mixed Tryz.func209 [iv n] (fun x=>iv x) true (UY n) (zgf n) (fun (_:True)=>zmQ n)
def vk (v:Int):Sk (Int × Bool) :=
 .br ((decide (v < 0))||(decide (v > 19)))
 (.fin (0,false))
 (.br (decide (v < 7))
 (.fin (0,true))
 (.fin (1,true)))
def Wa (v:Int):Int × Bool:=(vk v).val
theorem zdG (v:Int):(vk v).obs (fun _=>True):=by
  unfold vk
  exact okE

def uv (v:Int):Ctr (Int × Bool):=kk tok mixed Tryz.func207 [iv v] (fun x=>.tup [iv x.1,bv x.2]) true (vk v) (Wa v) (fun (_:True)=>zdG v)
def vu (t:jl):Sk (Int × Int) :=
 .br (decide (((t.args.length:Nat):Int) > 0))
 (.fin (0,2))
 (.br (t.op == 0)
 (.r 5 ((vL t.n).c) fun x1 =>
 .br (x1 != t.n)
 (.fin (0,3))
 (.fin (0,0)))
 (.br (t.op == 1)
 (.br ((decide (t.n < 0))||(decide (t.n > 1)))
 (.fin (0,3))
 (.fin (1,0)))
 (.r 12 ((uv t.n).c) fun x2 =>
 .br (!x2.2)
 (.fin (0,10))
 (.fin (x2.1,0)))))
def Kl (t:jl):Int × Int:=(vu t).val
theorem zkB (t:jl):(vu t).obs (fun _=>True):=by
  unfold vu
  try simp only [uv,vL,Zm]
  exact okG

def Hj (t:jl):Ctr (Int × Int):=kk tok mixed Tryz.func205 [av t.cells] (fun x=>.tup [iv x.1,iv x.2]) true (vu t) (Kl t) (fun (_:True)=>zkB t)
structure Shape where
  args:List Int
  result:Int
  deriving Inhabited
def Shape.cells (c:Shape):List D:=[slD jA c.args,dI c.result]
def Shape.E:Enc Shape:=⟨Shape.cells,2,fun _=>rfl,fun _=>rfl⟩
def JP (op:Int):Sk (Shape) :=
 .br (op == 3)
 (.r 3 (.o [.nrm (qt ky [1])]) fun _ =>
 .fin ({ args:=[1],result:=1 }:Shape))
 (.bind false (fun _=>True)
 (.br (op == 4)
 (.fin (.inr (op == 4)))
 (.fin (.inr (op == 5))))
 (fun (b1:Bool)=>⟨[(8,bv b1)],[]⟩) fun b1 =>
 .br b1
 (.r 6 (.o [.nrm (qt ky [1,1])]) fun _ =>
 .fin ({ args:=[1,1],result:=1 }:Shape))
 (.br (op == 6)
 (.r 8 (.o [.nrm (qt ky [1,(-1),(-1)])]) fun _ =>
 .fin ({ args:=[1,(-1),(-1)],result:=(-1) }:Shape))
 (.br (op == 7)
 (.r 10 (.o [.nrm (qt ky [0,0])]) fun _ =>
 .fin ({ args:=[0,0],result:=1 }:Shape))
 (.br (op == 8)
 (.r 12 (.o [.nrm (qt ky [(-1),(-1)])]) fun _ =>
 .fin ({ args:=[(-1),(-1)],result:=1 }:Shape))
 (.r 13 (.o [.nrm (qt ky [0,0])]) fun _ =>
 .fin ({ args:=[0,0],result:=0 }:Shape))))))
def jT (op:Int):Shape:=(JP op).val
theorem zdi (op:Int):(JP op).obs (fun _=>True):=by
  unfold JP
  exact okE

def Ur (op:Int):Ctr (Shape):=kk tok mixed Tryz.func206 [iv op] (fun x=>av x.cells) false (JP op) (jT op) (fun (_:True)=>zdi op)
/-- typed terms -/
inductive TyT:jl→Int→Prop
  | int {n:Int} (h : -1099511627776≤n∧n≤1099511627776):TyT ⟨0,n,[]⟩ 0
  | bool {n:Int} (h:0≤n∧n≤1):TyT ⟨1,n,[]⟩ 1
  | var {n:Int} (h:0≤n∧n≤19):TyT ⟨2,n,[]⟩ (if n < 7 then 0 else 1)
  | not {a:jl}:TyT a 1→TyT ⟨3,0,[a]⟩ 1
  | conj {op:Int} {a b:jl} (h:op=4∨op=5):TyT a 1→TyT b 1→TyT ⟨op,0,[a,b]⟩ 1
  | ite {a b c:jl} {k:Int}:TyT a 1→TyT b k→TyT c k→TyT ⟨6,0,[a,b,c]⟩ k
  | less {a b:jl}:TyT a 0→TyT b 0→TyT ⟨7,0,[a,b]⟩ 1
  | eq {a b:jl} {k:Int}:TyT a k→TyT b k→TyT ⟨8,0,[a,b]⟩ 1
  | arith {op:Int} {a b:jl} (h:9≤op∧op≤13):TyT a 0→TyT b 0→TyT ⟨op,0,[a,b]⟩ 0
theorem TyT.kind {t:jl} {k:Int} (h:TyT t k):k=0∨k=1:=by
  induction h with
  | var _=>split <;> simp
  | ite _ _ _ _ ih _=>exact ih
  | _=>simp
def Yy (rv:jl→Int × Int) (rp:jl→Prop) (rf:∀ (t:jl),rp t→FnA Tryz.prog 172 [av t.cells] [] (.tup [iv ((rv t).1),iv ((rv t).2)]) []) (t:jl):Ctr (Int × Int):=⟨Tryz.prog,172,[av t.cells],fun x=>.tup [iv x.1,iv x.2],true,rv t,rp t,rf t,fun _=>True,trivial⟩
def qv (rv:jl→Int × Int) (rp:jl→Prop) (rf:∀ (t:jl),rp t→FnA Tryz.prog 172 [av t.cells] [] (.tup [iv ((rv t).1),iv ((rv t).2)]) []) (t:jl):Sk (Int × Int) :=
 .r 1 (.andl (.o [.nrm (mkC ky t.args.length 0)]) (.p (mkP ((t.args.length:Nat):Int) 8))) fun _ =>
 .bind true (fun b1=>b1.length=t.args.length∧∀ q,q < t.args.length→(rv (t.args.getD q default)).2=0∧b1.getD q default=(rv (t.args.getD q default)).1)
 (.loop (default:Sum (Int × Int) ((List Int))) (fun i2=>i2.1.length=t.args.length∧i2.2≤t.args.length∧∀ q,q < i2.2→(rv (t.args.getD q default)).2=0∧i2.1.getD q default=(rv (t.args.getD q default)).1) (fun i2=>t.args.length - i2.2) ((List.replicate t.args.length (0:Int),0):(List Int) × Nat)
 (fun (i2:(List Int) × Nat)=>⟨[(4,ow 100002 i2.1),(20,iv ((i2.2:Nat):Int))],[(100002,jy 3 1 jA i2.1)]⟩) fun i2 =>
 .bnd 18 0 t.args.length <|
 .br (decide (((i2.2:Nat):Int) < ((t.args.length:Nat):Int)))
 (.r 4 (.andl (.p (ixP ((i2.2:Nat):Int) t.args.length)) (.o [.cast 23 (zqN (jl.unroll (t.args.getD i2.2 default)))])) fun _ =>
 .r 5 ((Yy rv rp rf (t.args.getD i2.2 default)).c) fun x3 =>
 .br (x3.2 != 0)
 (.fin (.inl (.inl (0,x3.2))))
 (.r 8 (.andl (.p (ixP ((i2.2:Nat):Int) i2.1.length)) (.andl (.o [.nrm (Vw ky i2.1 i2.2 x3.1)]) (.p (i2.2 < i2.1.length)))) fun _ =>
 .wn 100002 i2.1.length (i2.1.set i2.2 x3.1).length <|
 .r 9 .z fun _ =>
 .wi 20 (w64 (((i2.2:Nat):Int)+1)) ((i2.2+1:Nat):Int) <|
 .fin (.inr (i2.1.set i2.2 x3.1,i2.2+1))))
 (.fin (.inl (.inr i2.1))))
 (fun (b1:(List Int))=>⟨[(4,ow 100001 b1)],[(100001,jy 3 1 jA b1)]⟩) fun b1 =>
 .br ((decide (t.op < 0))||(decide (t.op > 13)))
 (.fin (0,1))
 (.br (((t.op == 0)||(t.op == 1))||(t.op == 2))
 (.r 13 ((Hj t).c) fun x4 =>
 .fin (x4.1,x4.2))
 (.r 14 ((Ur t.op).c) fun x5 =>
 .br ((((b1.length:Nat):Int) != ((x5.args.length:Nat):Int))||(t.n != 0))
 (.fin (0,2))
 (.bind true (fun b6=>∀ q,q < x5.args.length→(x5.args.getD q default = -1→b1.getD q default=b6∨b1.getD q default = -1)∧(x5.args.getD q default≠-1→b1.getD q default=x5.args.getD q default))
 (.loop (default:Sum (Int × Int) (Int)) (fun i7=>i7.2≤x5.args.length∧∀ q,q < i7.2→(x5.args.getD q default = -1→b1.getD q default=i7.1∨b1.getD q default = -1)∧(x5.args.getD q default≠-1→b1.getD q default=x5.args.getD q default)) (fun i7=>x5.args.length - i7.2) (((-1),0):Int × Nat)
 (fun (i7:Int × Nat)=>⟨[(10,iv i7.1),(82,iv ((i7.2:Nat):Int))],[]⟩) fun i7 =>
 .bnd 80 0 x5.args.length <|
 .br (decide (((i7.2:Nat):Int) < ((x5.args.length:Nat):Int)))
 (.r 20 (.p (ixP ((i7.2:Nat):Int) x5.args.length)) fun _ =>
 .bind false (fun b8=>b8=if (x5.args.getD i7.2 default) = -1∧i7.1 = -1 then b1.getD i7.2 default else i7.1)
 (.br (((x5.args.getD i7.2 default) == (-1))&&(i7.1 == (-1)))
 (.r 22 (.andl (.p (ixP ((i7.2:Nat):Int) b1.length)) (.p (i7.2 < b1.length))) fun _ =>
 .fin (.inr (b1.getD i7.2 default)))
 (.fin (.inr i7.1)))
 (fun (b8:Int)=>⟨[(10,iv b8)],[]⟩) fun b8 =>
 .bind false (fun b9=>b9=if (x5.args.getD i7.2 default) = -1 then b8 else (x5.args.getD i7.2 default))
 (.br ((x5.args.getD i7.2 default) == (-1))
 (.fin (.inr b8))
 (.fin (.inr (x5.args.getD i7.2 default))))
 (fun (b9:Int)=>⟨[(12,iv b9)],[]⟩) fun b9 =>
 .r 25 (.andl (.p (ixP ((i7.2:Nat):Int) b1.length)) (.p (i7.2 < b1.length))) fun _ =>
 .br ((b1.getD i7.2 default) != b9)
 (.fin (.inl (.inl (0,11))))
 (.r 27 .z fun _ =>
 .wi 82 (w64 (((i7.2:Nat):Int)+1)) ((i7.2+1:Nat):Int) <|
 .fin (.inr (b8,i7.2+1))))
 (.fin (.inl (.inr i7.1))))
 (fun (b6:Int)=>⟨[(10,iv b6)],[]⟩) fun b6 =>
 .br (x5.result == (-1))
 (.fin (b6,0))
 (.fin (x5.result,0)))))
def jX:Nat→jl→Int × Int
  | 0,_=>default
  | fu+1,t=>(qv (jX fu) (fun _=>False) (fun _=>fun h=>h.elim) t).val
theorem zhG (fu:Nat) (rf:∀ (t:jl),t.depth≤fu∧(zbX t)→FnA Tryz.prog 172 [av t.cells] [] (.tup [iv ((jX fu t).1),iv ((jX fu t).2)]) []) (t:jl) (hm:t.depth≤fu+1) (hth:zbX t):(qv (jX fu) (fun t=>t.depth≤fu∧(zbX t)) rf t).obs (fun _=>True):=by
  refine Sk.obs_of _ ?_
  unfold qv
  simp only [Sk.obq,Sk.isLoop,reduceCtorEq,ON,kk,Hj,Ur,Yy,maxLen]
  have hth':=hth
  obtain ⟨ht1,ht2⟩:=hth'
  refine ⟨⟨by omega,by omega,by omega⟩,fun _=>⟨⟨⟨by simp,by omega,fun q hq=>absurd hq (by omega)⟩,fun i hi hl=>⟨fun hc=>⟨⟨by omega,of_decide_eq_true hc⟩,fun _=>⟨⟨?_,?_⟩,fun x hx he=>⟨⟨⟨by omega,?_⟩,?_⟩,fun _=>⟨by simp,fun _=>⟨?_,⟨⟨by simp [hi.1],?_,fun q hq=>?_⟩,?_⟩⟩⟩⟩⟩⟩,fun hc=>⟨hi.1,fun q hq=>hi.2.2 q (by simp only [LN] at hc; omega)⟩⟩⟩,fun b hb hc hop x hx hl=>⟨⟨by omega,fun q hq=>absurd hq (by omega)⟩,fun i hi hl2=>⟨fun hc=>⟨⟨by omega,of_decide_eq_true hc⟩,fun _=>⟨⟨fun h=>⟨⟨⟨by omega,?_⟩,?_⟩,fun _=>?_⟩,fun h=>?_⟩,fun y _ hy=>⟨⟨fun h=>?_,fun h=>?_⟩,fun z _ hz=>⟨⟨⟨by omega,?_⟩,?_⟩,fun _=>fun he _=>⟨?_,⟨⟨?_,fun q hq=>?_⟩,?_⟩⟩⟩⟩⟩⟩,fun hc q hq=>hi.2 q (by simp only [LN] at hc; omega)⟩⟩⟩⟩
  all_goals (try simp only [LN] at hc)
  · have:=t.depth_args i.2 (by omega); omega
  · exact ht2 i.2 (by omega)
  · omega
  · omega
  · exact jj (by omega) (by omega)
  · omega
  · simp only [LN] at he
    by_cases e:q=i.2
    · subst e
      subst hx
      exact ⟨he,Ye _ (by omega) _ _⟩
    · have:=hi.2.2 q (by omega)
      refine ⟨this.1,?_⟩
      rw [← this.2]
      exact Ya _ e _ _
  · omega
  all_goals (try simp only [LN] at hl)
  · omega
  · omega
  · simp only [LN] at h
    rw [if_pos h]
  · rw [if_neg]
    simp only [LN] at h
    intro ⟨h1,h2⟩
    rcases h with h | h
    · exact h h1
    · exact h h2
  · simp only [LN] at h; rw [if_pos h]
  · simp only [LN] at h; rw [if_neg h]
  · omega
  · omega
  · exact jj (by omega) (by omega)
  · omega
  · simp only [LN] at he
    by_cases e:q=i.2
    · subst e
      refine ⟨fun h=>?_,fun h=>?_⟩
      · rw [if_pos h] at hz; left; rw [he,hz]
      · rw [if_neg h] at hz; rw [he,hz]
    · have:=hi.2 q (by omega)
      refine ⟨fun h=>?_,this.2⟩
      rcases this.1 h with h1 | h1
      · by_cases c:x.args.getD i.snd default = -1∧i.fst = -1
        · right; rw [h1,c.2]
        · rw [if_neg c] at hy; left; rw [h1,hy]
      · exact .inr h1
  · omega

theorem zfr (fu:Nat) (rp:jl→Prop) (rf:∀ (t:jl),rp t→FnA Tryz.prog 172 [av t.cells] [] (.tup [iv ((jX fu t).1),iv ((jX fu t).2)]) []) (t:jl):(qv (jX fu) rp rf t).val=jX (fu+1) t:=by kernel_rfl
theorem zgd (fu:Nat):∀ (t:jl),t.depth≤fu→(zbX t)→FnA Tryz.prog 172 [av t.cells] [] (.tup [iv ((jX fu t).1),iv ((jX fu t).2)]) []:=by
  induction fu with
  | zero=>intro t hm h0; exact absurd hm (by have:=jl.depth_pos t; omega)
  | succ fu ih =>
    intro t hm h0
    have h:FnA Tryz.prog 172 [av t.cells] [] (.tup [iv (((qv (jX fu) (fun t=>t.depth≤fu∧(zbX t)) (fun t h=>ih t h.1 h.2) t).val).1),iv (((qv (jX fu) (fun t=>t.depth≤fu∧(zbX t)) (fun t h=>ih t h.1 h.2) t).val).2)]) []:=FnA.sk tok mixed (fun x=>.tup [iv x.1,iv x.2]) (fun _=>[]) Tryz.func172 rfl (by kernel_rfl) 3000 (qv (jX fu) (fun t=>t.depth≤fu∧(zbX t)) (fun t h=>ih t h.1 h.2) t) (by kernel_rfl) (zhG fu _ t hm h0)
    rw [zfr] at h
    exact h
def Bu (t:jl):Int × Int:=jX (t.depth) t
theorem zio (t:jl) (hth:zbX t):FnA Tryz.prog 172 [av t.cells] [] (.tup [iv ((Bu t).1),iv ((Bu t).2)]) []:=zgd _ t (Nat.le_refl _) hth
def GQ (t:jl):Ctr (Int × Int):=⟨Tryz.prog,172,[av t.cells],fun x=>.tup [iv x.1,iv x.2],true,Bu t,(zbX t),fun h=>zio t h,fun _=>True,trivial⟩
theorem zea (t:jl) (hop:t.op=0∨t.op=1∨t.op=2) (h:(Kl t).2=0):TyT t (Kl t).1:=by
  obtain ⟨op,n,args⟩:=t
  simp only at hop
  revert h
  cases args with
  | cons a r =>
    intro h
    exfalso
    revert h
    simp only [Kl,vu,Sk.val_br,Sk.val_fin]
    rw [show decide ((((a :: r).length:Nat):Int) > 0)=true from by simp]
    simp
  | nil =>
    rcases hop with rfl | rfl | rfl
    · simp only [Kl,vu,Sk.val_br,Sk.val_fin,Sk.val_r,Ctr.c_v,kk,vL,Zm]
      intro h
      by_cases c:qI (jP n (-1099511627776)) 1099511627776=n
      · have : -1099511627776≤n∧n≤1099511627776:=by simp only [qI,jP] at c; omega
        have e:(qI (jP n (-1099511627776)) 1099511627776 != n)=false:=by simpa using c
        rw [e]
        exact TyT.int this
      · have e:(qI (jP n (-1099511627776)) 1099511627776 != n)=true:=by simpa using c
        rw [e] at h
        exact absurd (show (3:Int)=0 from h) (by decide)
    · simp only [Kl,vu,Sk.val_br,Sk.val_fin,Sk.val_r,Ctr.c_v,kk,vL,Zm]
      intro h
      by_cases c:n < 0∨n > 1
      · have e:(decide (n < 0)||decide (n > 1))=true:=by simpa using c
        rw [e] at h
        exact absurd (show (3:Int)=0 from h) (by decide)
      · have:0≤n∧n≤1:=by omega
        have e:(decide (n < 0)||decide (n > 1))=false:=by simp; omega
        rw [e]
        exact TyT.bool this
    · intro h
      have e:Kl ⟨2,n,[]⟩=(if n < 0∨n > 19 then (0,10) else if n < 7 then (0,0) else (1,0)):=by
        simp only [Kl,vu,Sk.val_br,Sk.val_fin,Sk.val_r,Ctr.c_v,kk,uv,Wa,vk]
        by_cases c:n < 0∨n > 19
        · have:(decide (n < 0)||decide (n > 19))=true:=by simpa using c
          simp [this,c]
        · have:(decide (n < 0)||decide (n > 19))=false:=by simp; omega
          by_cases d:n < 7 <;> simp [this,c,d]
      rw [e] at h ⊢
      by_cases c:n < 0∨n > 19
      · simp [c] at h
      · have:0≤n∧n≤19:=by omega
        have:=TyT.var this
        by_cases d:n < 7 <;> simpa [c,d] using this

theorem zrP:jT 3=⟨[1],1⟩:=by kernel_rfl
theorem zrN:jT 4=⟨[1,1],1⟩:=by kernel_rfl
theorem zsb:jT 5=⟨[1,1],1⟩:=by kernel_rfl
theorem zrV:jT 6=⟨[1,-1,-1],-1⟩:=by kernel_rfl
theorem zrU:jT 7=⟨[0,0],1⟩:=by kernel_rfl
theorem zrz:jT 8=⟨[-1,-1],1⟩:=by kernel_rfl
theorem zpI:jT 9=⟨[0,0],0⟩:=by kernel_rfl
theorem zpg:jT 10=⟨[0,0],0⟩:=by kernel_rfl
theorem zoI:jT 11=⟨[0,0],0⟩:=by kernel_rfl
theorem zoX:jT 12=⟨[0,0],0⟩:=by kernel_rfl
theorem zoO:jT 13=⟨[0,0],0⟩:=by kernel_rfl
theorem zrM (op:Int) (h:9≤op∧op≤13):jT op=⟨[0,0],0⟩:=by
  have:op=9∨op=10∨op=11∨op=12∨op=13:=by omega
  rcases this with e | e | e | e | e <;> rw [e]
  · exact zpI
  · exact zpg
  · exact zoI
  · exact zoX
  · exact zoO

theorem zsz {α:Type} {l:List α} (h:l.length=1):∃ a,l=[a]:=by
  match l,h with
  | [a],_=>exact ⟨a,rfl⟩
theorem zmg {α:Type} {l:List α} (h:l.length=2):∃ a b,l=[a,b]:=by
  match l,h with
  | [a,b],_=>exact ⟨a,b,rfl⟩
theorem zsD {α:Type} {l:List α} (h:l.length=3):∃ a b c,l=[a,b,c]:=by
  match l,h with
  | [a,b,c],_=>exact ⟨a,b,c,rfl⟩

/-- what the shapes say -/
theorem zga {t:jl} {b1:List Int} {common:Int} (hop:3≤t.op∧t.op≤13) (hn:t.n=0) (hl:b1.length=(jT t.op).args.length) (hb:b1.length=t.args.length) (hty:∀ q,q < t.args.length→TyT (t.args.getD q default) (b1.getD q default))
    (hc:∀ q,q < (jT t.op).args.length→((jT t.op).args.getD q default = -1→b1.getD q default=common∨b1.getD q default = -1)∧((jT t.op).args.getD q default≠-1→b1.getD q default=(jT t.op).args.getD q default)) :
    TyT t (if (jT t.op).result = -1 then common else (jT t.op).result):=by
  obtain ⟨op,n,args⟩:=t
  simp only at hop hn hl hb hty hc ⊢
  subst hn
  have cases9:op=3∨op=4∨op=5∨op=6∨op=7∨op=8∨(9≤op∧op≤13):=by omega
  rcases cases9 with rfl | rfl | rfl | rfl | rfl | rfl | h9
  · rw [zrP] at hl hc ⊢
    obtain ⟨a,rfl⟩:=zsz (hb.symm.trans hl)
    have h0:=hty 0 (by simp)
    have c0:=hc 0 (by simp)
    simp at h0 c0 ⊢
    rw [c0] at h0
    exact .not h0
  · rw [zrN] at hl hc ⊢
    obtain ⟨a,b,rfl⟩:=zmg (hb.symm.trans hl)
    have h0:=hty 0 (by simp); have h1:=hty 1 (by simp)
    have c0:=hc 0 (by simp); have c1:=hc 1 (by simp)
    simp at h0 h1 c0 c1 ⊢
    rw [c0] at h0; rw [c1] at h1
    exact .conj (.inl rfl) h0 h1
  · rw [zsb] at hl hc ⊢
    obtain ⟨a,b,rfl⟩:=zmg (hb.symm.trans hl)
    have h0:=hty 0 (by simp); have h1:=hty 1 (by simp)
    have c0:=hc 0 (by simp); have c1:=hc 1 (by simp)
    simp at h0 h1 c0 c1 ⊢
    rw [c0] at h0; rw [c1] at h1
    exact .conj (.inr rfl) h0 h1
  · rw [zrV] at hl hc ⊢
    obtain ⟨a,b,c,rfl⟩:=zsD (hb.symm.trans hl)
    have h0:=hty 0 (by simp); have h1:=hty 1 (by simp); have h2:=hty 2 (by simp)
    have c0:=hc 0 (by simp); have c1:=hc 1 (by simp); have c2:=hc 2 (by simp)
    simp at h0 h1 h2 c0 c1 c2 ⊢
    have k1:=h1.kind; have k2:=h2.kind
    rw [c0] at h0
    have e1:b1[1]?.getD 0=common:=by omega
    have e2:b1[2]?.getD 0=common:=by omega
    rw [e1] at h1; rw [e2] at h2
    exact .ite h0 h1 h2
  · rw [zrU] at hl hc ⊢
    obtain ⟨a,b,rfl⟩:=zmg (hb.symm.trans hl)
    have h0:=hty 0 (by simp); have h1:=hty 1 (by simp)
    have c0:=hc 0 (by simp); have c1:=hc 1 (by simp)
    simp at h0 h1 c0 c1 ⊢
    rw [c0] at h0; rw [c1] at h1
    exact .less h0 h1
  · rw [zrz] at hl hc ⊢
    obtain ⟨a,b,rfl⟩:=zmg (hb.symm.trans hl)
    have h0:=hty 0 (by simp); have h1:=hty 1 (by simp)
    have c0:=hc 0 (by simp); have c1:=hc 1 (by simp)
    simp at h0 h1 c0 c1 ⊢
    have k1:=h0.kind; have k2:=h1.kind
    have e1:b1[0]?.getD 0=common:=by omega
    have e2:b1[1]?.getD 0=common:=by omega
    rw [e1] at h0; rw [e2] at h1
    exact .eq h0 h1
  · rw [zrM op h9] at hl hc ⊢
    obtain ⟨a,b,rfl⟩:=zmg (hb.symm.trans hl)
    have h0:=hty 0 (by simp); have h1:=hty 1 (by simp)
    have c0:=hc 0 (by simp); have c1:=hc 1 (by simp)
    simp at h0 h1 c0 c1 ⊢
    rw [c0] at h0; rw [c1] at h1
    exact .arith h9 h0 h1

theorem Gq:∀ (fu:Nat) (t:jl),t.depth≤fu→(jX fu t).2=0→TyT t (jX fu t).1
  | 0,t,hd,_=>absurd hd (by have:=t.depth_pos; omega)
  | fu+1,t,hd,h=>by
    have ih:=Gq fu
    have key:jX (fu+1) t=(qv (jX fu) (fun _=>False) (fun _ h=>h.elim) t).val:=rfl
    rw [key] at h ⊢
    refine (Sk.pval (qv (jX fu) (fun _=>False) (fun _ h=>h.elim) t) (L:=fun x=>x.2=0→TyT t x.1) (Sk.pst_of _ ?_)) h
    unfold qv
    simp only [Sk.pstq,Sk.isLoop,reduceCtorEq,false_implies,Qd,zE,Cal.z,Cal.p,Cal.t,Cal.pt,Cal.o,Cal.and,Cal.andl,Cal.andr,Cal.wh,Cal.dep,Cal.depr,Ctr.c,kk,Yy,Hj,Ur,implies_true,true_and,and_true,and_self,true_implies,forall_eq,forall_const]
    refine ⟨⟨⟨by simp,Nat.zero_le _,fun q hq=>absurd hq (by omega)⟩,fun i hi=>⟨fun hc=>⟨fun he h=>?_,fun he=>⟨⟨by simp [hi.1],?_,fun q hq=>?_⟩,?_⟩⟩,fun hc=>⟨hi.1,fun q hq=>hi.2.2 q (by simp at hc; omega)⟩⟩⟩,fun b hb=>⟨fun hc h=>absurd h (by decide),fun hc=>⟨fun hop h=>?_,fun hop=>⟨fun _ h=>absurd h (by decide),fun hl=>⟨⟨⟨Nat.zero_le _,fun q hq=>absurd hq (by omega)⟩,fun i hi=>⟨fun hc=>⟨⟨?_,?_⟩,fun y _ hy=>⟨⟨?_,?_⟩,fun z _ hz=>⟨fun _ h=>absurd h (by decide),fun he=>⟨⟨?_,fun q hq=>?_⟩,?_⟩⟩⟩⟩,fun hc q hq=>hi.2 q (by simp at hc; omega)⟩⟩,fun y hy=>⟨?_,?_⟩⟩⟩⟩⟩⟩
    · rw [h] at he; exact absurd he (by decide)
    · simp only [LN] at hc; omega
    · simp only [LN] at hc he
      by_cases e:q=i.2
      · subst e
        exact ⟨he,Ye _ (by omega) _ _⟩
      · have:=hi.2.2 q (by omega)
        refine ⟨this.1,?_⟩
        rw [← this.2]
        exact Ya _ e _ _
    · simp only [LN] at hc; omega
    · exact zea t (by simp only [LN] at hop; omega) h
    · intro h; simp only [LN] at h; rw [if_pos h]
    · intro h
      rw [if_neg]
      simp only [LN] at h
      intro ⟨h1,h2⟩
      rcases h with h | h
      · exact h h1
      · exact h h2
    · intro h; simp only [LN] at h; rw [if_pos h]
    · intro h; simp only [LN] at h; rw [if_neg h]
    · simp only [LN] at hc; omega
    · simp only [LN] at hc he
      by_cases e:q=i.2
      · subst e
        refine ⟨fun h=>?_,fun h=>?_⟩
        · rw [if_pos h] at hz; left; rw [he,hz]
        · rw [if_neg h] at hz; rw [he,hz]
      · have:=hi.2 q (by omega)
        refine ⟨fun h=>?_,this.2⟩
        rcases this.1 h with h1 | h1
        · by_cases c:(jT t.op).args.getD i.snd default = -1∧i.fst = -1
          · right; rw [h1,c.2]
          · rw [if_neg c] at hy; left; rw [h1,hy]
        · exact .inr h1
    · simp only [LN] at hc; omega
    · intro h
      simp only [LN] at hc hop hl h
      have:=zga (t:=t) (b1:=b) (common:=y) (by omega) hl.2 (by omega) hb.1 (fun q hq=>by
        have h1:=hb.2 q hq
        rw [h1.2]
        exact ih _ (by have:=t.depth_args q hq; omega) h1.1) hy
      rw [if_pos h] at this
      exact this
    · intro h
      simp only [LN] at hc hop hl h
      have:=zga (t:=t) (b1:=b) (common:=y) (by omega) hl.2 (by omega) hb.1 (fun q hq=>by
        have h1:=hb.2 q hq
        rw [h1.2]
        exact ih _ (by have:=t.depth_args q hq; omega) h1.1) hy
      rw [if_neg h] at this
      exact this
end
end Go.Proofs.YtilbddpghnnmhaaGreatDoor

