/- Functions, as sketches. -/
import Derived.Test.YtilbddpghnnmhaaGreatDoorSa1
namespace Go.Proofs.YtilbddpghnnmhaaGreatDoor
noncomputable section
open Go Go.Av
set_option linter.unusedSimpArgs false
set_option linter.unusedVariables false
set_option maxHeartbeats 1000000
set_option maxRecDepth 100000
def zU (r:jg) (b:ua):Sk (Int) :=
 .r 1 ((yT r).c) fun x1 =>
 .br (x1 != 0)
 (.fin x1)
 (.r 5 (.dep ((qm b.drawer ((r.firms.length:Nat):Int)).c) fun x2=>.dep (.wh x2 true ((qm b.drawee ((r.firms.length:Nat):Int)).c)) fun x3=>.dep (.wh (x2&&x3) true (.wh (b.payee == (-1)) false ((qm b.payee ((r.firms.length:Nat):Int)).c))) fun x4=>.wh ((x2&&x3)&&((b.payee == (-1))||x4)) true (.wh (b.need == (-1)) false ((qm b.need ((r.firms.length:Nat):Int)).c))) fun p12 =>
 .r 6 (.dep (.wh (!(((p12.1&&p12.2.1)&&((b.payee == (-1))||p12.2.2.1))&&((b.need == (-1))||p12.2.2.2))) false ((qm b.currency ((r.currencies.length:Nat):Int)).c)) fun x6=>.dep (.wh ((!(((p12.1&&p12.2.1)&&((b.payee == (-1))||p12.2.2.1))&&((b.need == (-1))||p12.2.2.2)))||(!x6)) false ((qm b.city ((r.cities.length:Nat):Int)).c)) fun x7=>.wh (((!(((p12.1&&p12.2.1)&&((b.payee == (-1))||p12.2.2.1))&&((b.need == (-1))||p12.2.2.2)))||(!x6))||(!x7)) false ((qm b.pay ((r.cities.length:Nat):Int)).c)) fun p11 =>
 .br ((((!(((p12.1&&p12.2.1)&&((b.payee == (-1))||p12.2.2.1))&&((b.need == (-1))||p12.2.2.2)))||(!p11.1))||(!p11.2.1))||(!p11.2.2))
 (.fin 1)
 (.br ((((((decide (b.sum < 1))||(decide (b.sum > 1099511627776)))||(decide (b.day < 0)))||(decide (b.day > 100000)))||(decide (b.rate < 0)))||(decide (b.rate > 1000)))
 (.fin 3)
 (.br ((decide (b.parts < 1))||(decide (b.parts > 4)))
 (.fin 15)
 (.r 12 (.wh (((decide (b.flags < 0))||(decide (b.flags > 7)))||(((qg .i64 b.flags 4) != 0)&&(b.payee == (-1)))) false ((Vi b).c)) fun x9 =>
 .br ((((decide (b.flags < 0))||(decide (b.flags > 7)))||(((qg .i64 b.flags 4) != 0)&&(b.payee == (-1))))||(!x9))
 (.fin 2)
 (.br (b.tenor.kind == 4)
 (.r 15 ((gG r b.city b.pay).c) fun x10 =>
 .fin x10.2)
 (.fin 0))))))
def Bd (r:jg) (b:ua):Int:=(zU r b).val
theorem za8 (r:jg) (b:ua):(zU r b).pst (fun (x:Int)=>x=0→zfj r b∧(b.payee = -1∨(0≤b.payee∧b.payee < r.firms.length))):=by
 unfold zU
 try simp only [yT,gG,qm,Vi,GY,jh.Small,jg.Small,jg.HaltOK]
 exact okQ
theorem BL (r:jg) (b:ua):(fun (x:Int)=>x=0→zfj r b∧(b.payee = -1∨(0≤b.payee∧b.payee < r.firms.length))) (Bd r b):=have h:=Sk.pval _ (za8 r b); h
theorem zb9 (r:jg) (b:ua) (h_r_Small:r.Small):(zU r b).obs (fun _=>True):=by
 simp only [jh.Small,jg.Small,jg.HaltOK] at h_r_Small
 unfold zU
 try simp only [yT,gG,qm,Vi,GY,jh.Small,jg.Small,jg.HaltOK]
 exact okG
def ZS (r:jg) (b:ua):Ctr (Int):=kk tok mixed Tryz.func40 [av r.cells,av b.cells] (fun x=>iv x) true (zU r b) (Bd r b) (fun (h:(r.Small))=>zb9 r b h) (fun (x:Int)=>x=0→zfj r b∧(b.payee = -1∨(0≤b.payee∧b.payee < r.firms.length))) (BL r b)
def Yw (n:Int) (low:Int) (high:Int):Sk (Bool) :=
 .fin ((decide (n≥low))&&(decide (n≤high)))
def zmH (n:Int) (low:Int) (high:Int):Bool:=(Yw n low high).val
theorem qr (n:Int) (low:Int) (high:Int):zmH n low high=((decide (n≥low))&&(decide (n≤high))):=rfl
theorem znb (n:Int) (low:Int) (high:Int):(Yw n low high).obs (fun _=>True):=by
 unfold Yw
 exact okE
def jE (n:Int) (low:Int) (high:Int):Ctr (Bool):=kk tok mixed Tryz.func42 [iv n,iv low,iv high] (fun x=>bv x) true (Yw n low high) (zmH n low high) (fun (_:True)=>znb n low high)
def Kb (f:jh) (i:Int) (part:Int):Sk (Bool) :=
 .r 1 (.wh (i == 0) false (.p (ixP i f.signs.length))) fun _ =>
 .fin ((i == 0)||(((f.signs.getD i.toNat default).part) == part))
def zk3 (f:jh) (i:Int) (part:Int):Bool:=(Kb f i part).val
theorem zdH (f:jh) (i:Int) (part:Int) (hi:i=0∨(0≤i∧i < (f.signs.length:Int))):(Kb f i part).obs (fun _=>True):=by
 unfold Kb
 exact okD
def uz (f:jh) (i:Int) (part:Int):Ctr (Bool):=kk tok mixed Tryz.func100 [av f.cells,iv i,iv part] (fun x=>bv x) true (Kb f i part) (zk3 f i part) (fun (h:(i=0∨(0≤i∧i < (f.signs.length:Int))))=>zdH f i part h)
def vy (s:List Int) (v:Int):Sk (Int) :=
 .bind true (fun b1=>∀ q,q < s.length→(s.getD q default == v)=false)
 (.loop (default:Sum (Int) (Unit)) (fun i2=>∀ q,q < i2→(s.getD q default == v)=false) (fun i2=>s.length - i2) (0:Nat)
 (fun (i2:Nat)=>⟨[(8,iv (i2:Int))],[]⟩) fun i2 =>
 .bnd 0 0 s.length <|
 .br (decide ((i2:Int) < ((s.length:Nat):Int)))
 (.r 4 (.p (ixP (i2:Int) s.length)) fun _ =>
 .br (v == (s.getD i2 default))
 (.fin (.inl (.inl (i2:Int))))
 (.r 6 .z fun _ =>
 .wi 8 (w64 ((i2:Int)+1)) ((i2+1:Nat):Int) <|
 .fin (.inr (i2+1))))
 (.fin (.inl (.inr ()))))
 (fun (_:Unit)=>⟨[],[]⟩) fun _ =>
 .fin (-1)
def slices_Index (s:List Int) (v:Int):Int:=(vy s v).val
theorem zcJ (s:List Int) (v:Int):(vy s v).pst (fun (x:Int)=>(x = -1∧∀ q,q < s.length→(s.getD q default == v)=false)∨(0≤x∧x < s.length∧(s.getD x.toNat default == v)=true∧∀ q,(q:Nat) < x.toNat→(s.getD q default == v)=false)):=by
 unfold vy
 exact okP
theorem zaw (s:List Int) (v:Int):(fun (x:Int)=>(x = -1∧∀ q,q < s.length→(s.getD q default == v)=false)∨(0≤x∧x < s.length∧(s.getD x.toNat default == v)=true∧∀ q,(q:Nat) < x.toNat→(s.getD q default == v)=false)) (slices_Index s v):=have h:=Sk.pval _ (zcJ s v); h
theorem zeE (s:List Int) (v:Int):(vy s v).obs (fun _=>True):=by
 unfold vy
 exact okD
def UC (s:List Int) (v:Int):Ctr (Int):=kk tok mixed Tryz.func163 [lv jC s,iv v] (fun x=>iv x) true (vy s v) (slices_Index s v) (fun (_:True)=>zeE s v) (fun (x:Int)=>(x = -1∧∀ q,q < s.length→(s.getD q default == v)=false)∨(0≤x∧x < s.length∧(s.getD x.toNat default == v)=true∧∀ q,(q:Nat) < x.toNat→(s.getD q default == v)=false)) (zaw s v)
def zb (s:List Int) (v:Int):Sk (Bool) :=
 .r 1 ((UC s v).c) fun x1 =>
 .fin (decide (x1≥0))
def slices_Contains (s:List Int) (v:Int):Bool:=(zb s v).val
theorem FI (s:List Int) (v:Int):(zb s v).pst (fun (x:Bool)=>(x=true↔∃ q,q < s.length∧(s.getD q default == v)=true)):=by
 unfold zb
 try simp only [UC]
 exact okP
theorem Zz (s:List Int) (v:Int):(fun (x:Bool)=>(x=true↔∃ q,q < s.length∧(s.getD q default == v)=true)) (slices_Contains s v):=have h:=Sk.pval _ (FI s v); h
theorem BN (s:List Int) (v:Int):(zb s v).obs (fun _=>True):=by
 unfold zb
 try simp only [UC]
 exact okE
def jr (s:List Int) (v:Int):Ctr (Bool):=kk tok mixed Tryz.func131 [lv jC s,iv v] (fun x=>bv x) true (zb s v) (slices_Contains s v) (fun (_:True)=>BN s v) (fun (x:Bool)=>(x=true↔∃ q,q < s.length∧(s.getD q default == v)=true)) (Zz s v)
def uy (f:jh) (i:Int) (kinds:List Int):Sk (Bool) :=
 .r 1 (.p (ixP i f.signs.length)) fun _ =>
 .r 2 (.dep ((jE ((f.signs.getD i.toNat default).for_) 0 (w64 (i - 1))).c) fun x1=>.andl (.wh x1 true (.p (ixP i f.signs.length))) (.dep (.wh x1 true ((uz f ((f.signs.getD i.toNat default).for_) ((f.signs.getD i.toNat default).part)).c)) fun x2=>.andl (.wh (x1&&x2) true (.p (ixP ((f.signs.getD i.toNat default).for_) f.signs.length))) (.wh (x1&&x2) true ((jr kinds ((f.signs.getD (((f.signs.getD i.toNat default).for_).toNat) default).kind)).c)))) fun p4 =>
 .fin ((p4.1&&p4.2.1)&&p4.2.2)
def zc0 (f:jh) (i:Int) (kinds:List Int):Bool:=(uy f i kinds).val
theorem zd0 (f:jh) (i:Int) (kinds:List Int) (hP:(0≤i∧i < (f.signs.length:Int))∧f.signs.length≤40):(uy f i kinds).pst (fun (x:Bool)=>x=true→0≤(f.signs.getD i.toNat default).for_∧(f.signs.getD i.toNat default).for_ < i):=by
 unfold uy
 try simp only [jE,uz,jr,qr]
 exact okQ
theorem zci (f:jh) (i:Int) (kinds:List Int):(fun (x:Bool)=>((0≤i∧i < (f.signs.length:Int))∧f.signs.length≤40)→(x=true→0≤(f.signs.getD i.toNat default).for_∧(f.signs.getD i.toNat default).for_ < i)) (zc0 f i kinds):=fun hP=>Sk.pval _ (zd0 f i kinds hP)
theorem zgI (f:jh) (i:Int) (kinds:List Int) (hi:0≤i∧i < (f.signs.length:Int)) (hf:f.signs.length≤1000000):(uy f i kinds).obs (fun _=>True):=by
 unfold uy
 try simp only [jE,uz,jr,qr]
 exact okG
def Zp (f:jh) (i:Int) (kinds:List Int):Ctr (Bool):=kk tok mixed Tryz.func99 [av f.cells,iv i,lv jC kinds] (fun x=>bv x) true (uy f i kinds) (zc0 f i kinds) (fun (h:(0≤i∧i < (f.signs.length:Int))∧(f.signs.length≤1000000))=>zgI f i kinds h.1 h.2) (fun (x:Bool)=>((0≤i∧i < (f.signs.length:Int))∧f.signs.length≤40)→(x=true→0≤(f.signs.getD i.toNat default).for_∧(f.signs.getD i.toNat default).for_ < i)) (zci f i kinds)
def yP (r:jg) (f:jh) (i:Int):Sk (Bool) :=
 .r 1 (.p (ixP i f.signs.length)) fun _ =>
 .br ((!((i == 0) == (((f.signs.getD i.toNat default).kind) == 0)))||((((f.signs.getD i.toNat default).kind) != 2)&&(((f.signs.getD i.toNat default).to_) != (-1))))
 (.fin false)
 (.br (((((f.signs.getD i.toNat default).kind) != 3)&&(((f.signs.getD i.toNat default).kind) != 4))&&(((f.signs.getD i.toNat default).for_) != (-1)))
 (.fin false)
 (.r 7 ((jE ((f.signs.getD i.toNat default).sum) 1 1099511627776).c) fun x1 =>
 .br (((f.signs.getD i.toNat default).kind) == 0)
 (.fin ((((((((f.signs.getD i.toNat default).who) == f.bill.drawer)&&(((f.signs.getD i.toNat default).sum) == 0))&&((orK .i64 ((f.signs.getD i.toNat default).flags) 1) == 1))&&(((f.signs.getD i.toNat default).part) == 0))&&(((f.signs.getD i.toNat default).day) == f.bill.day))&&(((f.signs.getD i.toNat default).city) == f.bill.city)))
 (.br (((f.signs.getD i.toNat default).kind) == 1)
 (.fin ((((f.signs.getD i.toNat default).who) == f.bill.drawee)&&(x1&&(((f.signs.getD i.toNat default).flags) == 0))))
 (.br (((f.signs.getD i.toNat default).kind) == 2)
 (.r 15 (.dep ((jE ((f.signs.getD i.toNat default).to_) (-1) (w64 (((r.firms.length:Nat):Int) - 1))).c) fun x2=>.wh (x2&&(((f.signs.getD i.toNat default).sum) == 0)) true ((jE ((f.signs.getD i.toNat default).flags) 0 7).c)) fun p4 =>
 .fin (((p4.1&&(((f.signs.getD i.toNat default).sum) == 0))&&p4.2)&&((qg .i64 ((f.signs.getD i.toNat default).flags) 6) != 6)))
 (.br (((f.signs.getD i.toNat default).kind) == 3)
 (.r 17 (.andl (.wh ((((f.signs.getD i.toNat default).sum) == 0)&&(((f.signs.getD i.toNat default).flags) == 0)) true (.o [.nrm (qk kA [0,1,2,4])])) (.wh ((((f.signs.getD i.toNat default).sum) == 0)&&(((f.signs.getD i.toNat default).flags) == 0)) true ((Zp f i [0,1,2,4]).c))) fun x5 =>
 .fin (((((f.signs.getD i.toNat default).sum) == 0)&&(((f.signs.getD i.toNat default).flags) == 0))&&x5))
 (.br (((f.signs.getD i.toNat default).kind) == 4)
 (.r 19 (.andl (.wh ((x1&&(((f.signs.getD i.toNat default).flags) == 0))&&(((f.signs.getD i.toNat default).who) != f.bill.drawee)) true (.o [.nrm (qk kA [0,2])])) (.wh ((x1&&(((f.signs.getD i.toNat default).flags) == 0))&&(((f.signs.getD i.toNat default).who) != f.bill.drawee)) true ((Zp f i [0,2]).c))) fun x6 =>
 .fin (((x1&&(((f.signs.getD i.toNat default).flags) == 0))&&(((f.signs.getD i.toNat default).who) != f.bill.drawee))&&x6))
 (.fin false)))))))
def zgL (r:jg) (f:jh) (i:Int):Bool:=(yP r f i).val
theorem zf8 (r:jg) (f:jh) (i:Int) (hP:(0≤i∧i < (f.signs.length:Int))∧f.signs.length≤40∧r.firms.length≤200):(yP r f i).pst (fun (x:Bool)=>x=true→zlv f i.toNat∧ToQ r f i.toNat):=by
 refine Sk.pst_of _ ?_
 unfold yP
 simp only [Sk.pstq,Sk.isLoop,reduceCtorEq,ON,kk,Zp,jE,qr,forall_eq,maxLen]
 intro _ h1 h2
 obtain ⟨hi,hn,hr⟩:=hP
 have hw:w64 ((r.firms.length:Int) - 1)=(r.firms.length:Int) - 1:=jj (by omega) (by omega)
 rw [hw]
 unfold zlv ToQ JH
 generalize f.signs.getD i.toNat default=s at *
 have hk0:(s.kind=0↔i.toNat=0)∧(s.kind=2∨s.to_ = -1):=by
  by_cases a:i=0 <;> by_cases b:s.kind=0 <;> simp [a,b] at h1 ⊢ <;> omega
 clear h1
 obtain ⟨q1,q2⟩:=hk0
 refine ⟨fun k0 h=>?_,fun k0=>⟨fun k1 h=>?_,fun k1=>⟨fun k2 h=>?_,fun k2=>⟨fun k3 hb h=>?_,fun k3 k4 hb h=>?_⟩⟩⟩⟩
 all_goals simp only [LN] at *
 ·exact ⟨⟨by omega,by omega,q1,by omega⟩,by omega⟩
 ·exact ⟨⟨by omega,by omega,q1,by omega⟩,by omega⟩
 ·exact ⟨⟨by omega,by omega,q1,by omega⟩,by omega⟩
 ·have:=hb ⟨hi,hn⟩ h.2
  exact ⟨⟨by omega,by omega,q1,fun _=>by omega⟩,by omega⟩
 ·have:=hb ⟨hi,hn⟩ h.2
  exact ⟨⟨by omega,by omega,q1,fun _=>by omega⟩,by omega⟩
theorem zes (r:jg) (f:jh) (i:Int):(fun (x:Bool)=>((0≤i∧i < (f.signs.length:Int))∧f.signs.length≤40∧r.firms.length≤200)→(x=true→zlv f i.toNat∧ToQ r f i.toNat)) (zgL r f i):=fun hP=>Sk.pval _ (zf8 r f i hP)
theorem ziX (r:jg) (f:jh) (i:Int) (hi:0≤i∧i < (f.signs.length:Int)) (hf:f.signs.length≤1000000):(yP r f i).obs (fun _=>True):=by
 unfold yP
 try simp only [Zp,jE,qr]
 exact okG
def WM (r:jg) (f:jh) (i:Int):Ctr (Bool):=kk tok mixed Tryz.func66 [av r.cells,av f.cells,iv i] (fun x=>bv x) true (yP r f i) (zgL r f i) (fun (h:(0≤i∧i < (f.signs.length:Int))∧(f.signs.length≤1000000))=>ziX r f i h.1 h.2) (fun (x:Bool)=>((0≤i∧i < (f.signs.length:Int))∧f.signs.length≤40∧r.firms.length≤200)→(x=true→zlv f i.toNat∧ToQ r f i.toNat)) (zes r f i)
theorem zjs {α:Type} [Inhabited α] (L:List α) (n i:Nat) (h:i < n):(uZ L 0 n).getD i default=L.getD i default:=by
 simp [uZ,List.getD,h]
def yR (r:jg) (f:jh) (i:Int):Sk (Int) :=
 .r 1 (.p (ixP i f.signs.length)) fun _ =>
 .r 2 ((jE ((f.signs.getD i.toNat default).part) 0 (w64 (f.bill.parts - 1))).c) fun x1 =>
 .br (!x1)
 (.fin 15)
 (.r 4 (.dep ((jE ((f.signs.getD i.toNat default).who) 0 (w64 (((r.firms.length:Nat):Int) - 1))).c) fun x2=>.wh (!x2) false ((jE ((f.signs.getD i.toNat default).city) 0 (w64 (((r.cities.length:Nat):Int) - 1))).c)) fun p8 =>
 .br ((!p8.1)||(!p8.2))
 (.fin 1)
 (.r 7 (.andl (.o [.nrm (zsg qt.E f.signs 0 i.toNat)]) (.pt (0≤i∧i≤((f.signs.length:Nat):Int)) (qt.E.lens f.signs))) fun _ =>
 .bind true (fun b4=>b4.1=(if i.toNat=0 then f.bill.day else (f.signs.getD (i.toNat - 1) default).day))
 (.loop (default:Sum (Int) (Int × Bool)) (fun i5=>i5.2.2≤i.toNat∧i5.1=(if i5.2.2=0 then f.bill.day else (f.signs.getD (i5.2.2 - 1) default).day)) (fun i5=>(uZ f.signs 0 i.toNat).length - i5.2.2) ((f.bill.day,false,0):Int × Bool × Nat)
 (fun (i5:Int × Bool × Nat)=>⟨[(8,iv i5.1),(9,bv i5.2.1),(51,iv (i5.2.2:Int))],[]⟩) fun i5 =>
 .bnd 49 0 ((uZ f.signs 0 i.toNat).length) <|
 .br (decide ((i5.2.2:Int) < (((uZ f.signs 0 i.toNat).length:Nat):Int)))
 (.r 9 (.p (ixP (i5.2.2:Int) ((uZ f.signs 0 i.toNat).length))) fun _ =>
 .r 12 .z fun _ =>
 .wi 51 (w64 ((i5.2.2:Int)+1)) ((i5.2.2+1:Nat):Int) <|
 .fin (.inr (((uZ f.signs 0 i.toNat).getD i5.2.2 default).day,i5.2.1||(((((f.signs.getD i.toNat default).kind) == 1)&&((((uZ f.signs 0 i.toNat).getD i5.2.2 default).kind) == 1))&&((((uZ f.signs 0 i.toNat).getD i5.2.2 default).part) == ((f.signs.getD i.toNat default).part))),i5.2.2+1)))
 (.fin (.inl (.inr (i5.1,i5.2.1)))))
 (fun (b4:Int × Bool)=>⟨[(8,iv b4.1),(9,bv b4.2)],[]⟩) fun b4 =>
 .r 13 ((jE ((f.signs.getD i.toNat default).day) b4.1 100000).c) fun x6 =>
 .br ((!x6)||((i == 0)&&(((f.signs.getD i.toNat default).day) != b4.1)))
 (.fin 13)
 (.r 15 ((WM r f i).c) fun x7 =>
 .br (!x7)
 (.fin 14)
 (.br b4.2
 (.fin 5)
 (.fin 0)))))
def ze7 (r:jg) (f:jh) (i:Int):Int:=(yR r f i).val
theorem zg1 (r:jg) (f:jh) (i:Int) (hP:(0≤i∧i < (f.signs.length:Int))∧f.signs.length≤40∧r.firms.length≤200∧zfj r f.bill):(yR r f i).pst (fun (x:Int)=>x=0→zja r f i.toNat∧ToQ r f i.toNat):=by
 refine Sk.pst_of _ ?_
 unfold yR
 simp only [Sk.pstq,Sk.isLoop,reduceCtorEq,ON,kk,WM,jE,qr,forall_eq,jh.Small,jg.Small,maxLen]
 intro _
 obtain ⟨hi,hn,hr,hB⟩:=hP
 have hB2:=hB.2.2.2.1
 refine ⟨fun _ h=>absurd h (by decide),fun hpart=>⟨fun _ h=>absurd h (by decide),fun hwho _=>⟨⟨⟨by omega,by simp⟩,fun k hk=>⟨fun hc _ _=>⟨⟨?_,?_⟩,?_⟩,fun hc=>?_⟩⟩,fun b hb=>⟨fun _ h=>absurd h (by decide),fun hd hF=>⟨fun _ h=>absurd h (by decide),fun hf=>⟨fun _ h=>absurd h (by decide),fun _=>?_⟩⟩⟩⟩⟩⟩
 all_goals (try simp only [LN] at hc)
 ·omega
 ·rw [zjs _ _ _ (by omega),if_neg (by simp)]; rfl
 ·simp only [ZJ] at hc ⊢; omega
 ·have e:k.2.2=i.toNat:=by omega
  rw [hk.2,e]
 ·have hF:=hF ⟨hi,hn,hr⟩ (by simpa using hf)
  simp only [LN] at hpart hwho hd
  obtain ⟨⟨w1,w2⟩,_⟩:=hwho
  obtain ⟨⟨d1,d2⟩,d3⟩:=hd
  rw [jj (by omega) (by omega)] at w2 hpart
  refine ⟨⟨⟨w1,by omega⟩,fun h0=>?_,d2,fun h0=>?_,hpart,hF.1⟩,hF.2⟩
  ·rw [if_neg h0] at hb
   rw [← hb]; exact d1
  ·rw [if_pos h0] at hb
   rw [← hb]
   rcases d3 with d3 | d3
   ·omega
   ·exact d3
theorem zej (r:jg) (f:jh) (i:Int):(fun (x:Int)=>((0≤i∧i < (f.signs.length:Int))∧f.signs.length≤40∧r.firms.length≤200∧zfj r f.bill)→(x=0→zja r f i.toNat∧ToQ r f i.toNat)) (ze7 r f i):=fun hP=>Sk.pval _ (zg1 r f i hP)
theorem zhN (r:jg) (f:jh) (i:Int) (hi:0≤i∧i < (f.signs.length:Int)) (hf:f.signs.length≤1000000) (hr:r.Small):(yR r f i).obs (fun _=>True):=by
 simp only [jh.Small,jg.Small] at hr
 refine Sk.obs_of _ ?_
 unfold yR
 simp only [Sk.obq,Sk.isLoop,reduceCtorEq,ON,kk,WM,jE,qr,forall_eq,jh.Small,jg.Small,maxLen]
 refine ⟨hi,fun _ hp hwho=>⟨⟨hi.1,by omega⟩,fun _=>⟨⟨⟨by omega,by simp⟩,fun k hk hl=>⟨fun hc=>⟨⟨by omega,of_decide_eq_true hc⟩,fun _ _=>⟨?_,⟨⟨?_,?_⟩,?_⟩⟩⟩,fun hc=>?_⟩⟩,?_⟩⟩⟩
 all_goals (try simp only [LN] at hc)
 ·exact jj (by simp only [ZJ] at hl; omega) (by simp only [ZJ] at hl; omega)
 ·omega
 ·rw [zjs _ _ _ (by omega),if_neg (by simp)]; rfl
 ·simp only [ZJ] at hc ⊢; omega
 ·have e:k.2.2=i.toNat:=by omega
  rw [hk.2,e]
 ·intro b hb hd
  exact ⟨hi,hf⟩
def Wm (r:jg) (f:jh) (i:Int):Ctr (Int):=kk tok mixed Tryz.func41 [av r.cells,av f.cells,iv i] (fun x=>iv x) true (yR r f i) (ze7 r f i) (fun (h:(0≤i∧i < (f.signs.length:Int))∧(f.signs.length≤1000000)∧(r.Small))=>zhN r f i h.1 h.2.1 h.2.2) (fun (x:Int)=>((0≤i∧i < (f.signs.length:Int))∧f.signs.length≤40∧r.firms.length≤200∧zfj r f.bill)→(x=0→zja r f i.toNat∧ToQ r f i.toNat)) (zej r f i)
def gW (r:jg) (f:jh) (a:jI):Sk (Bool) :=
 .r 1 (.dep ((jE a.at_ 0 (w64 (((f.signs.length:Nat):Int) - 1))).c) fun x1=>.wh x1 true ((uz f a.at_ a.part).c)) fun p11 =>
 .r 2 (.wh (p11.1&&p11.2) true (.p (ixP a.at_ f.signs.length))) fun _ =>
 .r 3 ((jE a.to_ 0 (w64 (((r.firms.length:Nat):Int) - 1))).c) fun x3 =>
 .r 4 ((jE a.who 0 (w64 (((r.firms.length:Nat):Int) - 1))).c) fun x4 =>
 .br ((!x4)||((a.kind != 4)&&(a.form != 0)))
 (.fin false)
 (.bind false (fun _=>True)
 (.br (a.kind == 0)
 (.fin (.inr (a.kind == 0)))
 (.br (a.kind == 1)
 (.fin (.inr (a.kind == 1)))
 (.fin (.inr (a.kind == 2)))))
 (fun (b5:Bool)=>⟨[(65,bv b5)],[]⟩) fun b5 =>
 .br b5
 (.fin ((x3&&(a.at_ == (-1)))&&(a.sum == 0)))
 (.bind false (fun _=>True)
 (.br (a.kind == 3)
 (.fin (.inr (a.kind == 3)))
 (.br (a.kind == 5)
 (.fin (.inr (a.kind == 5)))
 (.fin (.inr (a.kind == 4)))))
 (fun (b6:Bool)=>⟨[(80,bv b6)],[]⟩) fun b6 =>
 .br b6
 (.r 14 (.dep (.wh (x3&&(a.at_ == (-1))) true ((jE a.sum 0 1099511627776).c)) fun x7=>.wh ((x3&&(a.at_ == (-1)))&&x7) true ((jE a.form 0 1).c)) fun p9 =>
 .fin (((x3&&(a.at_ == (-1)))&&p9.1)&&p9.2))
 (.br (a.kind == 6)
 (.r 16 (.wh (x3&&((p11.1&&p11.2)&&(((f.signs.getD a.at_.toNat default).who) == a.who))) true ((jE a.sum 1 1099511627776).c)) fun x10 =>
 .fin ((x3&&((p11.1&&p11.2)&&(((f.signs.getD a.at_.toNat default).who) == a.who)))&&x10))
 (.br (a.kind == 9)
 (.fin (((a.to_ == (-1))&&((p11.1&&p11.2)&&(((f.signs.getD a.at_.toNat default).who) == a.who)))&&(a.sum == 0)))
 (.fin (((a.to_ == (-1))&&(p11.1&&p11.2))&&(a.sum == 0)))))))
def zjG (r:jg) (f:jh) (a:jI):Bool:=(gW r f a).val
theorem zhw (r:jg) (f:jh) (a:jI) (hP:f.signs.length≤40):(gW r f a).pst (fun (x:Bool)=>x=true→(a.at_ = -1∨(0≤a.at_∧a.at_ < (f.signs.length:Int)))∧JH a.sum∧(a.kind=6→0≤a.at_∧(f.signs.getD a.at_.toNat default).who=a.who)):=by
 unfold gW
 try simp only [jE,uz,qr]
 exact okQ
theorem zfJ (r:jg) (f:jh) (a:jI):(fun (x:Bool)=>(f.signs.length≤40)→(x=true→(a.at_ = -1∨(0≤a.at_∧a.at_ < (f.signs.length:Int)))∧JH a.sum∧(a.kind=6→0≤a.at_∧(f.signs.getD a.at_.toNat default).who=a.who))) (zjG r f a):=fun hP=>Sk.pval _ (zhw r f a hP)
theorem zj3 (r:jg) (f:jh) (a:jI) (hf:f.signs.length≤1000000):(gW r f a).obs (fun _=>True):=by
 unfold gW
 try simp only [jE,uz,qr]
 exact okG
def XY (r:jg) (f:jh) (a:jI):Ctr (Bool):=kk tok mixed Tryz.func67 [av r.cells,av f.cells,av a.cells] (fun x=>bv x) true (gW r f a) (zjG r f a) (fun (h:(f.signs.length≤1000000))=>zj3 r f a h) (fun (x:Bool)=>(f.signs.length≤40)→(x=true→(a.at_ = -1∨(0≤a.at_∧a.at_ < (f.signs.length:Int)))∧JH a.sum∧(a.kind=6→0≤a.at_∧(f.signs.getD a.at_.toNat default).who=a.who))) (zfJ r f a)
def yS (r:jg) (f:jh):Sk (Int) :=
 .bind true (fun b1=>∀ q,q < f.acts.length→zcC f q)
 (.loop (default:Sum (Int) (Unit)) (fun i2=>i2≤f.acts.length∧∀ q,q < i2→zcC f q) (fun i2=>f.acts.length - i2) (0:Nat)
 (fun (i2:Nat)=>⟨[(11,iv (i2:Int))],[]⟩) fun i2 =>
 .bnd 9 0 f.acts.length <|
 .br (decide ((i2:Int) < ((f.acts.length:Nat):Int)))
 (.r 3 (.p (ixP (i2:Int) f.acts.length)) fun _ =>
 .r 4 ((jE ((f.acts.getD i2 default).part) 0 (w64 (f.bill.parts - 1))).c) fun x3 =>
 .br (!x3)
 (.fin (.inl (.inl 15)))
 (.r 6 (.dep ((jE ((f.acts.getD i2 default).city) 0 (w64 (((r.cities.length:Nat):Int) - 1))).c) fun x4=>.wh (!x4) false ((jE ((f.acts.getD i2 default).kind) 0 9).c)) fun p10 =>
 .br ((!p10.1)||(!p10.2))
 (.fin (.inl (.inl 1)))
 (.r 8 ((XY r f (f.acts.getD i2 default)).c) fun x6 =>
 .br (!x6)
 (.fin (.inl (.inl 14)))
 (.bind false (fun b7=>f.bill.day≤b7∧(0≤(f.acts.getD i2 default).at_→(f.signs.getD (f.acts.getD i2 default).at_.toNat default).day≤b7))
 (.br (((f.acts.getD i2 default).at_) != (-1))
 (.r 12 (.p (ixP ((f.acts.getD i2 default).at_) f.signs.length)) fun _ =>
 .fin (.inr (ki f.bill.day ((f.signs.getD (((f.acts.getD i2 default).at_).toNat) default).day))))
 (.fin (.inr f.bill.day)))
 (fun (b7:Int)=>⟨[(7,iv b7)],[]⟩) fun b7 =>
 .bind false (fun b8=>f.bill.day≤b8∧(0≤(f.acts.getD i2 default).at_→(f.signs.getD (f.acts.getD i2 default).at_.toNat default).day≤b8)∧(i2≠0→(f.acts.getD (i2 - 1) default).day≤b8))
 (.br (decide ((i2:Int) > 0))
 (.r 14 (.p (ixP (w64 ((i2:Int) - 1)) f.acts.length)) fun _ =>
 .fin (.inr (ki b7 ((f.acts.getD ((w64 ((i2:Int) - 1)).toNat) default).day))))
 (.fin (.inr b7)))
 (fun (b8:Int)=>⟨[(7,iv b8)],[]⟩) fun b8 =>
 .r 15 ((jE ((f.acts.getD i2 default).day) b8 100000).c) fun x9 =>
 .br (!x9)
 (.fin (.inl (.inl 13)))
 (.r 17 .z fun _ =>
 .wi 11 (w64 ((i2:Int)+1)) ((i2+1:Nat):Int) <|
 .fin (.inr (i2+1)))))))
 (.fin (.inl (.inr ()))))
 (fun (_:Unit)=>⟨[],[]⟩) fun _ =>
 .fin 0
def zf9 (r:jg) (f:jh):Int:=(yS r f).val
theorem zfe (r:jg) (f:jh) (hP:f.signs.length≤40∧f.acts.length≤100):(yS r f).pst (fun (x:Int)=>x=0→∀ q,q < f.acts.length→zcC f q):=by
 refine Sk.pst_of _ ?_
 unfold yS
 simp only [Sk.pstq,Sk.isLoop,reduceCtorEq,ON,kk,XY,jE,qr,forall_eq,maxLen]
 obtain ⟨hf,ha⟩:=hP
 refine ⟨⟨⟨by omega,fun q hq=>absurd hq (by omega)⟩,fun k hk=>⟨fun hc _=>⟨fun _ h=>absurd h (by decide),fun _=>⟨fun _ h=>absurd h (by decide),fun _ hact=>⟨fun _ h=>absurd h (by decide),fun ha2=>⟨⟨fun _ _=>⟨?_,fun _=>?_⟩,fun hne=>⟨Int.le_refl _,fun h=>?_⟩⟩,fun b _ hb=>⟨⟨fun hk0 _=>⟨?_,fun h=>?_,fun _=>?_⟩,fun hk0=>⟨hb.1,hb.2,fun h=>?_⟩⟩,fun c _ hcc=>⟨fun _ h=>absurd h (by decide),fun hd _=>⟨⟨?_,fun q hq=>?_⟩,?_⟩⟩⟩⟩⟩⟩⟩,fun hc q hq=>hk.2 q (by simp only [LN] at hc; omega)⟩⟩,?_⟩
 all_goals (try simp only [LN] at hc)
 ·unfold ki; omega
 ·unfold ki; omega
 ·simp only [LN] at hne; omega
 ·have:=hb.1; unfold ki; omega
 ·have:=hb.2 h; unfold ki; omega
 ·simp only [LN] at hk0
  have e:(w64 ((k:Int) - 1)).toNat=k - 1:=by rw [jj (by omega) (by omega)]; omega
  rw [e]; unfold ki; omega
 ·simp only [LN] at hk0; omega
 ·omega
 ·simp only [LN] at hd
  by_cases e:q=k
  ·subst e
   have A:=hact hf (by simpa using ha2)
   exact ⟨A.2.1,⟨by omega,hd.2⟩,fun h=>by have:=hcc.2.2 h; omega,fun h6=>⟨⟨(A.2.2 h6).1,by have:=(A.2.2 h6).1; have:=A.1; omega⟩,by have:=hcc.2.1 (A.2.2 h6).1; omega,(A.2.2 h6).2⟩⟩
  ·exact hk.2 q (by omega)
 ·omega
 ·first | exact fun _ hb=>hb | exact fun _ hb _=>hb | trivial
theorem zdx (r:jg) (f:jh):(fun (x:Int)=>(f.signs.length≤40∧f.acts.length≤100)→(x=0→∀ q,q < f.acts.length→zcC f q)) (zf9 r f):=fun hP=>Sk.pval _ (zfe r f hP)
theorem zhR (r:jg) (f:jh) (hf:f.signs.length≤40) (ha:f.acts.length≤1000000):(yS r f).obs (fun _=>True):=by
 refine Sk.obs_of _ ?_
 unfold yS
 simp only [Sk.obq,Sk.isLoop,reduceCtorEq,ON,kk,XY,jE,qr,forall_eq,maxLen]
 refine ⟨⟨by omega,fun q hq=>absurd hq (by omega)⟩,fun k hk hl=>⟨fun hc=>⟨⟨by omega,of_decide_eq_true hc⟩,fun _ _ _=>⟨by omega,fun hact ha2=>⟨⟨fun hne=>⟨?_,fun _=>⟨?_,fun _=>?_⟩⟩,fun hne=>⟨Int.le_refl _,fun h=>?_⟩⟩,fun b _ hb=>⟨⟨fun hk0=>⟨⟨?_,?_⟩,fun _=>⟨?_,fun h=>?_,fun _=>?_⟩⟩,fun hk0=>⟨hb.1,hb.2,fun h=>?_⟩⟩,fun c _ hcc hd _=>⟨?_,⟨?_,fun q hq=>?_⟩,?_⟩⟩⟩⟩⟩,fun hc q hq=>hk.2 q (by simp only [LN] at hc; omega)⟩⟩
 all_goals (try simp only [LN] at hc)
 ·simp only [LN] at hne
  have:=(hact hf (by simpa using ha2)).1
  omega
 ·unfold ki; omega
 ·unfold ki; omega
 ·simp only [LN] at hne; omega
 ·simp only [LN] at hk0; rw [jj (by omega) (by omega)]; omega
 ·simp only [LN] at hk0; rw [jj (by omega) (by omega)]; omega
 ·have:=hb.1; unfold ki; omega
 ·have:=hb.2 h; unfold ki; omega
 ·simp only [LN] at hk0
  have e:(w64 ((k:Int) - 1)).toNat=k - 1:=by rw [jj (by omega) (by omega)]; omega
  rw [e]; unfold ki; omega
 ·simp only [LN] at hk0; omega
 ·exact jj (by omega) (by omega)
 ·omega
 ·simp only [LN] at hd
  by_cases e:q=k
  ·subst e
   have A:=hact hf (by simpa using ha2)
   exact ⟨A.2.1,⟨by omega,hd.2⟩,fun h=>by have:=hcc.2.2 h; omega,fun h6=>⟨⟨(A.2.2 h6).1,by have:=(A.2.2 h6).1; have:=A.1; omega⟩,by have:=hcc.2.1 (A.2.2 h6).1; omega,(A.2.2 h6).2⟩⟩
  ·exact hk.2 q (by omega)
 ·omega
def Wh (r:jg) (f:jh):Ctr (Int):=kk tok mixed Tryz.func43 [av r.cells,av f.cells] (fun x=>iv x) true (yS r f) (zf9 r f) (fun (h:(f.signs.length≤40)∧(f.acts.length≤1000000))=>zhR r f h.1 h.2) (fun (x:Int)=>(f.signs.length≤40∧f.acts.length≤100)→(x=0→∀ q,q < f.acts.length→zcC f q)) (zdx r f)
def VE (x_:Int):Sk (Bool) :=
 .fin (x_ != x_)
def zjg (x_:Int):Bool:=(VE x_).val
theorem zkF (x_:Int):zjg x_=(x_ != x_):=rfl
theorem zjW (x_:Int):(VE x_).obs (fun _=>True):=by
 unfold VE
 exact okE
def XS (x_:Int):Ctr (Bool):=kk tok mixed Tryz.func101 [iv x_] (fun x=>bv x) true (VE x_) (zjg x_) (fun (_:True)=>zjW x_)
def Qj (x_:Int) (y:Int):Sk (Int) :=
 .r 1 ((XS x_).c) fun x1 =>
 .r 2 ((XS y).c) fun x2 =>
 .br x1
 (.br x2
 (.fin 0)
 (.fin (-1)))
 (.br x2
 (.fin 1)
 (.br (decide (x_ < y))
 (.fin (-1))
 (.br (decide (x_ > y))
 (.fin 1)
 (.fin 0))))
def zm1 (x_:Int) (y:Int):Int:=(Qj x_ y).val
theorem zfM (x_:Int) (y:Int):(Qj x_ y).obs (fun _=>True):=by
 unfold Qj
 try simp only [XS,zkF]
 exact okG
def YI (x_:Int) (y:Int):Ctr (Int):=kk tok mixed Tryz.func69 [iv x_,iv y] (fun x=>iv x) true (Qj x_ y) (zm1 x_ y) (fun (_:True)=>zfM x_ y)
def Fd (vals:List Int):Sk (Int) :=
 .bind true (fun _=>True)
 (.loop (default:Sum (Int) (Unit)) (fun i2=>i2≤vals.length) (fun i2=>vals.length - i2) (0:Nat)
 (fun (i2:Nat)=>⟨[(8,iv (i2:Int))],[]⟩) fun i2 =>
 .bnd 6 0 vals.length <|
 .br (decide ((i2:Int) < ((vals.length:Nat):Int)))
 (.r 4 (.p (ixP (i2:Int) vals.length)) fun _ =>
 .br ((vals.getD i2 default) != 0)
 (.fin (.inl (.inl (vals.getD i2 default))))
 (.r 7 .z fun _ =>
 .wi 8 (w64 ((i2:Int)+1)) ((i2+1:Nat):Int) <|
 .fin (.inr (i2+1))))
 (.fin (.inl (.inr ()))))
 (fun (_:Unit)=>⟨[],[]⟩) fun _ =>
 .fin 0
def zso (vals:List Int):Int:=(Fd vals).val
theorem zo1 (vals:List Int):(Fd vals).obs (fun _=>True):=by
 unfold Fd
 exact okD
def zlr (vals:List Int):Ctr (Int):=kk tok mixed Tryz.func68 [lv jC vals] (fun x=>iv x) true (Fd vals) (zso vals) (fun (_:True)=>zo1 vals)
def KT (f:jh):Sk (Int) :=
 .bind true (fun _=>True)
 (.loop (default:Sum (Int) (Unit)) (fun i2=>i2≤f.facts.length) (fun i2=>f.facts.length - i2) (0:Nat)
 (fun (i2:Nat)=>⟨[(9,iv (i2:Int))],[]⟩) fun i2 =>
 .bnd 7 0 f.facts.length <|
 .br (decide ((i2:Int) < ((f.facts.length:Nat):Int)))
 (.r 3 (.p (ixP (i2:Int) f.facts.length)) fun _ =>
 .r 4 (.dep ((jE ((f.facts.getD i2 default).kind) 0 4).c) fun x3=>.dep (.wh (!x3) false ((jE ((f.facts.getD i2 default).at_) 0 (w64 (((f.signs.length:Nat):Int) - 1))).c)) fun x4=>.wh ((!x3)||(!x4)) false ((jE ((f.facts.getD i2 default).n) 0 1).c)) fun p10 =>
 .br (((!p10.1)||(!p10.2.1))||(!p10.2.2))
 (.fin (.inl (.inl 1)))
 (.br ((i2:Int) == 0)
 (.r 10 .z fun _ =>
 .wi 9 (w64 ((i2:Int)+1)) ((i2+1:Nat):Int) <|
 .fin (.inr (i2+1)))
 (.r 7 (.p (ixP (w64 ((i2:Int) - 1)) f.facts.length)) fun _ =>
 .r 8 (.dep ((YI ((f.facts.getD ((w64 ((i2:Int) - 1)).toNat) default).at_) ((f.facts.getD i2 default).at_)).c) fun x6=>.dep ((YI ((f.facts.getD ((w64 ((i2:Int) - 1)).toNat) default).kind) ((f.facts.getD i2 default).kind)).c) fun x7=>.andl (.o [.nrm (qk kA [x6,x7])]) ((zlr [x6,x7]).c)) fun p9 =>
 .br (decide (p9.2.2≥0))
 (.fin (.inl (.inl 5)))
 (.r 10 .z fun _ =>
 .wi 9 (w64 ((i2:Int)+1)) ((i2+1:Nat):Int) <|
 .fin (.inr (i2+1))))))
 (.fin (.inl (.inr ()))))
 (fun (_:Unit)=>⟨[],[]⟩) fun _ =>
 .fin 0
def zlR (f:jh):Int:=(KT f).val
theorem zfa (f:jh):(KT f).obs (fun _=>True):=by
 unfold KT
 try simp only [YI,zlr,jE,qr]
 exact okG
def YO (f:jh):Ctr (Int):=kk tok mixed Tryz.func44 [av f.cells] (fun x=>iv x) true (KT f) (zlR f) (fun (_:True)=>zfa f)
def uB (r:jg) (f:jh):Sk (Int) :=
 .br ((((decide (((f.signs.length:Nat):Int) > 40))||(decide (((f.alters.length:Nat):Int) > 4)))||(decide (((f.acts.length:Nat):Int) > 100)))||(decide (((f.facts.length:Nat):Int) > 200)))
 (.fin 6)
 (.r 3 ((ZS r f.bill).c) fun x1 =>
 .br (x1 != 0)
 (.fin x1)
 (.br (((f.signs.length:Nat):Int) == 0)
 (.fin 14)
 (.bind true (fun b2=>(r.firms.length≤200→∀ q,q < f.signs.length→zja r f q∧ToQ r f q))
 (.loop (default:Sum (Int) (Unit)) (fun i3=>i3≤f.signs.length∧(r.firms.length≤200→∀ q,q < i3→zja r f q∧ToQ r f q)) (fun i3=>f.signs.length - i3) (0:Nat)
 (fun (i3:Nat)=>⟨[(48,iv (i3:Int))],[]⟩) fun i3 =>
 .bnd 3 15 f.signs.length <|
 .br (decide ((i3:Int) < ((f.signs.length:Nat):Int)))
 (.r 11 ((Wm r f (i3:Int)).c) fun x4 =>
 .br (x4 != 0)
 (.fin (.inl (.inl x4)))
 (.r 14 .z fun _ =>
 .wi 48 (w64 ((i3:Int)+1)) ((i3+1:Nat):Int) <|
 .fin (.inr (i3+1))))
 (.fin (.inl (.inr ()))))
 (fun (_:Unit)=>⟨[],[]⟩) fun _ =>
 .bind true (fun b5=>(∀ q,q < f.alters.length→JH (f.alters.getD q default).sum))
 (.loop (default:Sum (Int) (Unit)) (fun i6=>i6.2≤f.alters.length∧(∀ q,q < i6.2→JH (f.alters.getD q default).sum)) (fun i6=>f.alters.length - i6.2) ((0,0):Int × Nat)
 (fun (i6:Int × Nat)=>⟨[(8,iv i6.1),(62,iv (i6.2:Int))],[]⟩) fun i6 =>
 .bnd 60 0 f.alters.length <|
 .br (decide ((i6.2:Int) < ((f.alters.length:Nat):Int)))
 (.r 18 (.p (ixP (i6.2:Int) f.alters.length)) fun _ =>
 .r 19 ((jE ((f.alters.getD i6.2 default).at_) (w64 (i6.1+1)) ((f.signs.length:Nat):Int)).c) fun x7 =>
 .br (!x7)
 (.fin (.inl (.inl 1)))
 (.r 21 ((jE ((f.alters.getD i6.2 default).sum) 1 1099511627776).c) fun x8 =>
 .br (!x8)
 (.fin (.inl (.inl 3)))
 (.r 24 .z fun _ =>
 .wi 62 (w64 ((i6.2:Int)+1)) ((i6.2+1:Nat):Int) <|
 .fin (.inr ((f.alters.getD i6.2 default).at_,i6.2+1)))))
 (.fin (.inl (.inr ()))))
 (fun (_:Unit)=>⟨[],[]⟩) fun _ =>
 .r 25 ((Wh r f).c) fun x9 =>
 .br (x9 != 0)
 (.fin x9)
 (.r 28 ((YO f).c) fun x10 =>
 .fin x10))))
def gx (r:jg) (f:jh):Int:=(uB r f).val
theorem zeq (r:jg) (f:jh) (hP:r.firms.length≤200):(uB r f).pst (fun (x:Int)=>x=0→jX r f∧ToF r f):=by
 refine Sk.pst_of _ ?_
 unfold uB
 simp only [Sk.pstq,Sk.isLoop,reduceCtorEq,ON,kk,Wh,YO,jE,Wm,ZS,qr,forall_eq,maxLen]
 refine ⟨fun _ h=>absurd h (by decide),fun hlen hw=>⟨fun h1 h2=>?_,fun hwz=>⟨fun _ h=>absurd h (by decide),fun hne=>⟨⟨⟨by omega,fun _ q hq=>absurd hq (by omega)⟩,fun k hk=>⟨fun hc hs=>⟨fun h1 h2=>?_,fun h1 _=>⟨⟨?_,fun hr q hq=>?_⟩,?_⟩⟩,fun hc hr q hq=>hk.2 hr q (by simp only [LN] at hc; omega)⟩⟩,fun _ hsg=>⟨⟨⟨by omega,fun q hq=>absurd hq (by omega)⟩,fun k hk=>⟨fun hc _=>⟨fun _ h=>absurd h (by decide),fun _=>⟨fun _ h=>absurd h (by decide),fun hs _=>⟨⟨?_,fun q hq=>?_⟩,?_⟩⟩⟩,fun hc q hq=>hk.2 q (by simp only [LN] at hc; omega)⟩⟩,fun _ hal hac=>⟨fun h1 h2=>?_,fun h1 h2=>?_⟩⟩⟩⟩⟩⟩
 all_goals simp only [LN] at hlen
 all_goals (try simp only [LN] at hc)
 ·rw [h2] at h1; exact absurd h1 (by decide)
 ·rw [h2] at h1; exact absurd h1 (by decide)
 ·omega
 ·by_cases e:q=k
  ·subst e
   have:=hs ⟨by omega,by omega,hP,(hw (by simpa using hwz)).1⟩ (by simpa using h1)
   simpa using this
  ·exact hk.2 hr q (by omega)
 ·omega
 ·omega
 ·by_cases e:q=k.2
  ·subst e
   simp only [LN] at hs
   exact ⟨by omega,by omega⟩
  ·exact hk.2 q (by omega)
 ·omega
 ·rw [h2] at h1; exact absurd h1 (by decide)
 ·have W:=hw (by simpa using hwz)
  simp only [LN] at hne
  exact ⟨⟨W.1,⟨by omega,by omega,by omega,by omega,by omega⟩,fun q hq=>(hsg hP q hq).1,hal,hac ⟨by omega,by omega⟩ (by simpa using h1)⟩,W.2,fun q hq=>(hsg hP q hq).2⟩
theorem QM (r:jg) (f:jh):(fun (x:Int)=>(r.firms.length≤200)→(x=0→jX r f∧ToF r f)) (gx r f):=fun hP=>Sk.pval _ (zeq r f hP)
theorem zhq (r:jg) (f:jh) (hr:r.Small):(uB r f).obs (fun _=>True):=by
 refine Sk.obs_of _ ?_
 unfold uB
 simp only [Sk.obq,Sk.isLoop,reduceCtorEq,ON,kk,Wh,YO,jE,Wm,ZS,qr,forall_eq,maxLen]
 intro hlen
 simp only [LN] at hlen
 refine ⟨hr,fun hw hwz hne=>⟨⟨⟨by omega,fun _ q hq=>absurd hq (by omega)⟩,fun k hk hl=>⟨fun hc=>⟨⟨⟨by omega,of_decide_eq_true hc⟩,by omega,hr⟩,fun hs h1 _=>⟨?_,⟨?_,fun hr2 q hq=>?_⟩,?_⟩⟩,fun hc hr2 q hq=>hk.2 hr2 q (by simp only [LN] at hc; omega)⟩⟩,fun _ hsg=>⟨⟨⟨by omega,fun q hq=>absurd hq (by omega)⟩,fun k hk hl=>⟨fun hc=>⟨⟨by omega,of_decide_eq_true hc⟩,fun _ _ hs _=>⟨?_,⟨?_,fun q hq=>?_⟩,?_⟩⟩,fun hc q hq=>hk.2 q (by simp only [LN] at hc; omega)⟩⟩,fun _ _=>⟨by omega,by omega⟩⟩⟩⟩
 all_goals (try simp only [LN] at hc)
 ·exact jj (by omega) (by omega)
 ·omega
 ·by_cases e:q=k
  ·subst e
   have:=hs ⟨by omega,by omega,hr2,(hw (by simpa using hwz)).1⟩ (by simpa using h1)
   simpa using this
  ·exact hk.2 hr2 q (by omega)
 ·omega
 ·exact jj (by omega) (by omega)
 ·omega
 ·by_cases e:q=k.2
  ·subst e
   simp only [LN] at hs
   exact ⟨by omega,by omega⟩
  ·exact hk.2 q (by omega)
 ·omega
def Yz (r:jg) (f:jh):Ctr (Int):=kk tok mixed Tryz.func23 [av r.cells,av f.cells] (fun x=>iv x) true (uB r f) (gx r f) (fun (h:(r.Small))=>zhq r f h) (fun (x:Int)=>(r.firms.length≤200)→(x=0→jX r f∧ToF r f)) (QM r f)
def Qe (r:jg) (n:Nat) (s:jM):Prop:=(0≤s.plaintiff∧s.plaintiff < r.firms.length)∧(0≤s.defendant∧s.defendant < r.firms.length)∧s.plaintiff≠s.defendant∧(0≤s.forum∧s.forum < r.orders.length)∧(0≤s.file∧s.file < n)∧(0≤s.sign∧s.sign < 40)∧(0≤s.day∧s.day < 100001)∧(0≤s.kind∧s.kind < 2)
def yL (r:jg) (files:List jh) (suits:List jM) (moves:List Move):Sk (Int) :=
 .br (((decide (((files.length:Nat):Int) > 50))||(decide (((suits.length:Nat):Int) > 30)))||(decide (((moves.length:Nat):Int) > 100)))
 (.fin 6)
 (.bind true (fun b1=>∀ q,q < files.length→gx r (files.getD q default)=0)
 (.loop (default:Sum (Int) (Unit)) (fun i2=>i2≤files.length∧∀ q,q < i2→gx r (files.getD q default)=0) (fun i2=>files.length - i2) (0:Nat)
 (fun (i2:Nat)=>⟨[(30,iv (i2:Int))],[]⟩) fun i2 =>
 .bnd 1 0 files.length <|
 .br (decide ((i2:Int) < ((files.length:Nat):Int)))
 (.r 5 (.p (ixP (i2:Int) files.length)) fun _ =>
 .r 6 ((Yz r (files.getD i2 default)).c) fun x3 =>
 .br (x3 != 0)
 (.fin (.inl (.inl x3)))
 (.r 9 .z fun _ =>
 .wi 30 (w64 ((i2:Int)+1)) ((i2+1:Nat):Int) <|
 .fin (.inr (i2+1))))
 (.fin (.inl (.inr ()))))
 (fun (_:Unit)=>⟨[],[]⟩) fun _ =>
 .bind true (fun b4=>∀ q,q < suits.length→Qe r files.length (suits.getD q default))
 (.loop (default:Sum (Int) (Unit)) (fun i5=>i5≤suits.length∧∀ q,q < i5→Qe r files.length (suits.getD q default)) (fun i5=>suits.length - i5) (0:Nat)
 (fun (i5:Nat)=>⟨[(43,iv (i5:Int))],[]⟩) fun i5 =>
 .bnd 41 0 suits.length <|
 .br (decide ((i5:Int) < ((suits.length:Nat):Int)))
 (.r 12 (.p (ixP (i5:Int) suits.length)) fun _ =>
 .r 13 (.dep ((qh ((suits.getD i5 default).plaintiff) ((r.firms.length:Nat):Int)).c) fun x6=>.wh x6 true ((qh ((suits.getD i5 default).defendant) ((r.firms.length:Nat):Int)).c)) fun p14 =>
 .r 14 (.dep (.wh (!((p14.1&&p14.2)&&(((suits.getD i5 default).plaintiff) != ((suits.getD i5 default).defendant)))) false ((qh ((suits.getD i5 default).forum) ((r.orders.length:Nat):Int)).c)) fun x8=>.dep (.wh ((!((p14.1&&p14.2)&&(((suits.getD i5 default).plaintiff) != ((suits.getD i5 default).defendant))))||(!x8)) false ((qh ((suits.getD i5 default).file) ((files.length:Nat):Int)).c)) fun x9=>.dep (.wh (((!((p14.1&&p14.2)&&(((suits.getD i5 default).plaintiff) != ((suits.getD i5 default).defendant))))||(!x8))||(!x9)) false ((qh ((suits.getD i5 default).sign) 40).c)) fun x10=>.dep (.wh ((((!((p14.1&&p14.2)&&(((suits.getD i5 default).plaintiff) != ((suits.getD i5 default).defendant))))||(!x8))||(!x9))||(!x10)) false ((qh ((suits.getD i5 default).day) 100001).c)) fun x11=>.wh (((((!((p14.1&&p14.2)&&(((suits.getD i5 default).plaintiff) != ((suits.getD i5 default).defendant))))||(!x8))||(!x9))||(!x10))||(!x11)) false ((qh ((suits.getD i5 default).kind) 2).c)) fun p13 =>
 .br ((((((!((p14.1&&p14.2)&&(((suits.getD i5 default).plaintiff) != ((suits.getD i5 default).defendant))))||(!p13.1))||(!p13.2.1))||(!p13.2.2.1))||(!p13.2.2.2.1))||(!p13.2.2.2.2))
 (.fin (.inl (.inl 1)))
 (.r 16 .z fun _ =>
 .wi 43 (w64 ((i5:Int)+1)) ((i5+1:Nat):Int) <|
 .fin (.inr (i5+1))))
 (.fin (.inl (.inr ()))))
 (fun (_:Unit)=>⟨[],[]⟩) fun _ =>
 .fin 0)
def yo (r:jg) (files:List jh) (suits:List jM) (moves:List Move):Int:=(yL r files suits moves).val
theorem zgP (r:jg) (files:List jh) (suits:List jM) (moves:List Move):(yL r files suits moves).pst (fun (x:Int)=>x=0↔(files.length≤50∧suits.length≤30∧moves.length≤100)∧(∀ q,q < files.length→gx r (files.getD q default)=0)∧∀ q,q < suits.length→Qe r files.length (suits.getD q default)):=by
 refine Sk.pst_of _ ?_
 unfold yL
 simp only [Sk.pstq,Sk.isLoop,reduceCtorEq,ON,kk,Yz,qh,Kn,forall_eq,maxLen]
 all_goals simp only [LN] at *
 have nx:∀ {p:Nat→Prop} {i:Nat},(∀ q,q < i→p q)→p i→∀ q,q < i+1→p q:=fun h h0 q hq=>by
  rcases Nat.lt_succ_iff_lt_or_eq.1 hq with h1 | rfl
  ·exact h q h1
  ·exact h0
 refine ⟨fun h=>⟨fun q=>absurd q (by omega),fun q=>absurd q.1 (by omega)⟩,fun hc=>⟨⟨⟨Nat.zero_le _,fun q hq=>absurd hq (by omega)⟩,fun i hi=>⟨fun hlt _ _=>⟨fun h=>⟨fun q=>absurd q h,fun q=>absurd (q.2.1 i (by omega)) h⟩,fun h _=>⟨⟨by omega,nx hi.2 h⟩,by omega⟩⟩,fun hge q hq=>hi.2 q (by omega)⟩⟩,fun _ hf=>⟨⟨⟨Nat.zero_le _,fun q hq=>absurd hq (by omega)⟩,fun i hi=>⟨fun hlt _=>⟨fun h=>⟨fun q=>absurd q (by omega),fun q=>?_⟩,fun h _=>⟨⟨by omega,nx hi.2 ?_⟩,by omega⟩⟩,fun hge q hq=>hi.2 q (by omega)⟩⟩,fun _ hs=>⟨fun _=>⟨⟨by omega,by omega,by omega⟩,hf,hs⟩,fun _=>trivial⟩⟩⟩⟩
 ·have:=q.2.2 i (by omega)
  unfold Qe at this
  omega
 ·unfold Qe
  omega
theorem vt (r:jg) (files:List jh) (suits:List jM) (moves:List Move):(fun (x:Int)=>x=0↔(files.length≤50∧suits.length≤30∧moves.length≤100)∧(∀ q,q < files.length→gx r (files.getD q default)=0)∧∀ q,q < suits.length→Qe r files.length (suits.getD q default)) (yo r files suits moves):=have h:=Sk.pval _ (zgP r files suits moves); h
theorem zh7 (r:jg) (files:List jh) (suits:List jM) (moves:List Move) (h_r_Small:r.Small):(yL r files suits moves).obs (fun _=>True):=by
 refine Sk.obs_of _ ?_
 unfold yL
 simp only [Sk.obq,Sk.isLoop,reduceCtorEq,ON,kk,Yz,qh,Kn,forall_eq,maxLen]
 all_goals simp only [LN] at *
 have nx:∀ {p:Nat→Prop} {i:Nat},(∀ q,q < i→p q)→p i→∀ q,q < i+1→p q:=fun h h0 q hq=>by
  rcases Nat.lt_succ_iff_lt_or_eq.1 hq with h1 | rfl
  ·exact h q h1
  ·exact h0
 refine fun hc=>⟨⟨⟨Nat.zero_le _,fun q hq=>absurd hq (by omega)⟩,fun i hi _=>⟨fun hlt=>⟨by omega,fun _=>⟨h_r_Small,fun _ h _=>⟨?_,⟨by omega,nx hi.2 h⟩,by omega⟩⟩⟩,fun hge q hq=>hi.2 q (by omega)⟩⟩,fun _ hf=>⟨⟨Nat.zero_le _,fun q hq=>absurd hq (by omega)⟩,fun i hi _=>⟨fun hlt=>⟨by omega,fun _ h _=>⟨?_,⟨by omega,nx hi.2 ?_⟩,by omega⟩⟩,fun hge q hq=>hi.2 q (by omega)⟩⟩⟩
 ·rw [jj (by omega) (by omega)]; omega
 ·rw [jj (by omega) (by omega)]; omega
 ·unfold Qe
  omega
def vR (r:jg) (files:List jh) (suits:List jM) (moves:List Move):Ctr (Int):=kk tok mixed Tryz.func11 [av r.cells,lv jh.cells files,lv jM.cells suits,lv Move.cells moves] (fun x=>iv x) true (yL r files suits moves) (yo r files suits moves) (fun (h:(r.Small))=>zh7 r files suits moves h) (fun (x:Int)=>x=0↔(files.length≤50∧suits.length≤30∧moves.length≤100)∧(∀ q,q < files.length→gx r (files.getD q default)=0)∧∀ q,q < suits.length→Qe r files.length (suits.getD q default)) (vt r files suits moves)
def uE (suit:Int) (s:Int × List Int × List Int × Bool) (m:Move) (e:Int):Int × List Int × List Int × Bool :=
 if e≠0∨m.suit≠suit then s
 else if m.kind=1 then (s.1,s.2.1,s.2.2.1++[m.no],s.2.2.2)
 else if m.kind=5 then (s.1,s.2.1,s.2.2.1,true)
 else if m.kind=4 then (m.day,s.2.2.1.filter (fun d=>s.2.2.2||d == 0||d == 1||d == 2),s.2.2.1,s.2.2.2)
 else s
def UK (suit:Int) (w:Bool) (moves:List Move) (errors:List Int):Nat→Int × List Int × List Int × Bool
 | 0=>(0,[],[],w)
 | n+1=>uE suit (UK suit w moves errors n) (moves.getD n default) (errors.getD n default)
theorem zpH (suit:Int) (s:Int × List Int × List Int × Bool) (m:Move) (e:Int) (n:Nat) (h:s.2.2.1.length≤n∧s.2.1.length≤n):(uE suit s m e).2.2.1.length≤n+1∧(uE suit s m e).2.1.length≤n+1:=by
 have:=List.length_filter_le (fun d=>s.2.2.2||d == 0||d == 1||d == 2) s.2.2.1
 unfold uE
 repeat' split
 ·omega
 ·rw [List.length_append]; simp only [List.length_cons,List.length_nil]; omega
 ·simp only; omega
 ·simp only; omega
 ·omega
theorem zqr (suit:Int) (w:Bool) (moves:List Move) (errors:List Int) (n:Nat):(UK suit w moves errors n).2.2.1.length≤n∧(UK suit w moves errors n).2.1.length≤n:=by
 induction n with
 | zero=>exact ⟨Nat.le_refl _,Nat.le_refl _⟩
 | succ n ih=>exact zpH _ _ _ _ _ ih
def zR (s:jM) (suit:Int) (moves:List Move) (errors:List Int):Sk (Int × (List Int)) :=
 .bind true (fun b1=>(UK suit (s.kind == 1) moves errors moves.length).1=b1.1∧(UK suit (s.kind == 1) moves errors moves.length).2.1=b1.2)
 (.loop (default:Sum (Int × (List Int)) (Int × (List Int))) (fun i2=>i2.2.2.2.2≤moves.length∧UK suit (s.kind == 1) moves errors i2.2.2.2.2=(i2.1,i2.2.1,i2.2.2.1,i2.2.2.2.1)) (fun i2=>moves.length - i2.2.2.2.2) ((0,[],[],s.kind == 1,0):Int × (List Int) × (List Int) × Bool × Nat)
 (fun (i2:Int × (List Int) × (List Int) × Bool × Nat)=>⟨[(8,iv i2.1),(9,ow 100075 i2.2.1),(10,ow 100076 i2.2.2.1),(11,bv i2.2.2.2.1),(21,iv (i2.2.2.2.2:Int))],[(100075,jz 3 1 jC i2.2.1),(100076,jz 3 1 jC i2.2.2.1)]⟩) fun i2 =>
 .bnd 19 0 moves.length <|
 .br (decide ((i2.2.2.2.2:Int) < ((moves.length:Nat):Int)))
 (.bind true (fun b3=>(b3.1,b3.2.1,b3.2.2.1,b3.2.2.2)=uE suit (i2.1,i2.2.1,i2.2.2.1,i2.2.2.2.1) (moves.getD i2.2.2.2.2 default) (errors.getD i2.2.2.2.2 default))
 (.r 5 (.p (ixP (i2.2.2.2.2:Int) moves.length)) fun _ =>
 .r 6 (.p (ixP (i2.2.2.2.2:Int) errors.length)) fun _ =>
 .br (((errors.getD i2.2.2.2.2 default) != 0)||(((moves.getD i2.2.2.2.2 default).suit) != suit))
 (.fin (.inr (i2.1,i2.2.1,i2.2.2.1,i2.2.2.2.1)))
 (.bind true (fun b4=>(b4.1,b4.2.1,b4.2.2.1,b4.2.2.2)=uE suit (i2.1,i2.2.1,i2.2.2.1,i2.2.2.2.1) (moves.getD i2.2.2.2.2 default) (errors.getD i2.2.2.2.2 default))
 (.br (((moves.getD i2.2.2.2.2 default).kind) == 1)
 (.r 9 (.andl (.o [.nrm (qk kA [(moves.getD i2.2.2.2.2 default).no])]) (.andl (.o [.nrm (gy kA i2.2.2.1 [(moves.getD i2.2.2.2.2 default).no])]) (.andl (.t (kA.ones [(moves.getD i2.2.2.2.2 default).no])) (.p (szP i2.2.2.1.length [(moves.getD i2.2.2.2.2 default).no].length 8))))) fun _ =>
 .fin (.inr (i2.1,i2.2.1,i2.2.2.1++[(moves.getD i2.2.2.2.2 default).no],i2.2.2.2.1)))
 (.br (((moves.getD i2.2.2.2.2 default).kind) == 5)
 (.fin (.inr (i2.1,i2.2.1,i2.2.2.1,true)))
 (.br (((moves.getD i2.2.2.2.2 default).kind) == 4)
 (.bind true (fun b5=>b5.1=i2.2.2.1.filter (fun d=>i2.2.2.2.1||d == 0||d == 1||d == 2))
 (.loop (default:Sum (Sum (Sum (Sum (Sum (Int × (List Int)) (Int × (List Int))) (Int × (List Int) × (List Int) × Bool × Nat)) (Int × (List Int) × (List Int) × Bool)) (Int × (List Int) × (List Int) × Bool)) ((List Int) × Int)) (fun i6=>i6.2≤i2.2.2.1.length∧i6.1=(i2.2.2.1.take i6.2).filter (fun d=>i2.2.2.2.1||d == 0||d == 1||d == 2)) (fun i6=>i2.2.2.1.length - i6.2) (([],0):(List Int) × Nat)
 (fun (i6:(List Int) × Nat)=>⟨[(9,ow 100112 i6.1),(54,iv (i6.2:Int))],[(100112,jz 3 1 jC i6.1)]⟩) fun i6 =>
 .bnd 10 0 i2.2.2.1.length <|
 .br (decide ((i6.2:Int) < ((i2.2.2.1.length:Nat):Int)))
 (.r 16 (.andl (.p (ixP (i6.2:Int) i2.2.2.1.length)) (.p (i6.2 < i2.2.2.1.length))) fun _ =>
 .br (((i2.2.2.2.1||((i2.2.2.1.getD i6.2 default) == 0))||((i2.2.2.1.getD i6.2 default) == 1))||((i2.2.2.1.getD i6.2 default) == 2))
 (.r 18 (.andl (.o [.nrm (qk kA [i2.2.2.1.getD i6.2 default])]) (.andl (.o [.nrm (gy kA i6.1 [i2.2.2.1.getD i6.2 default])]) (.andl (.t (kA.ones [i2.2.2.1.getD i6.2 default])) (.p (szP i6.1.length [i2.2.2.1.getD i6.2 default].length 8))))) fun _ =>
 .r 19 .z fun _ =>
 .wi 54 (w64 ((i6.2:Int)+1)) ((i6.2+1:Nat):Int) <|
 .fin (.inr (i6.1++[i2.2.2.1.getD i6.2 default],i6.2+1)))
 (.r 19 .z fun _ =>
 .wi 54 (w64 ((i6.2:Int)+1)) ((i6.2+1:Nat):Int) <|
 .fin (.inr (i6.1,i6.2+1))))
 (.fin (.inl (.inr (i6.1,(i6.2:Int))))))
 (fun (b5:(List Int) × Int)=>⟨[(9,ow 100111 b5.1),(54,iv b5.2)],[(100111,jz 3 1 jC b5.1)]⟩) fun b5 =>
 .fin (.inr ((moves.getD i2.2.2.2.2 default).day,b5.1,i2.2.2.1,i2.2.2.2.1)))
 (.fin (.inr (i2.1,i2.2.1,i2.2.2.1,i2.2.2.2.1))))))
 (fun (b4:Int × (List Int) × (List Int) × Bool)=>⟨[(8,iv b4.1),(9,ow 100108 b4.2.1),(10,ow 100109 b4.2.2.1),(11,bv b4.2.2.2)],[(100108,jz 3 1 jC b4.2.1),(100109,jz 3 1 jC b4.2.2.1)]⟩) fun b4 =>
 .fin (.inr (b4.1,b4.2.1,b4.2.2.1,b4.2.2.2))))
 (fun (b3:Int × (List Int) × (List Int) × Bool)=>⟨[(8,iv b3.1),(9,ow 100103 b3.2.1),(10,ow 100104 b3.2.2.1),(11,bv b3.2.2.2)],[(100103,jz 3 1 jC b3.2.1),(100104,jz 3 1 jC b3.2.2.1)]⟩) fun b3 =>
 .r 20 .z fun _ =>
 .wi 21 (w64 ((i2.2.2.2.2:Int)+1)) ((i2.2.2.2.2+1:Nat):Int) <|
 .fin (.inr (b3.1,b3.2.1,b3.2.2.1,b3.2.2.2,i2.2.2.2.2+1)))
 (.fin (.inl (.inr (i2.1,i2.2.1)))))
 (fun (b1:Int × (List Int))=>⟨[(8,iv b1.1),(9,ow 100056 b1.2)],[(100056,jz 3 1 jC b1.2)]⟩) fun b1 =>
 .fin (b1.1,b1.2)
def Za (s:jM) (suit:Int) (moves:List Move) (errors:List Int):Int × (List Int):=(zR s suit moves errors).val
theorem zbj (s:jM) (suit:Int) (moves:List Move) (errors:List Int):(zR s suit moves errors).pst (fun (x:Int × (List Int))=>x=((UK suit (s.kind == 1) moves errors moves.length).1,(UK suit (s.kind == 1) moves errors moves.length).2.1)):=by
 refine Sk.pst_of _ ?_
 unfold zR
 simp only [Sk.pstq,Sk.isLoop,reduceCtorEq,ON,kk,maxLen]
 all_goals simp only [LN] at *
 have fl:∀ (p:Int→Bool) (l:List Int) (n:Nat),n < l.length→(l.take (n+1)).filter p=(l.take n).filter p++if p (l.getD n default)=true then [l.getD n default] else []:=fun p l n h=>by
  rw [yE h,List.filter_append]; simp [List.filter_cons]
 refine ⟨⟨⟨Nat.zero_le _,rfl⟩,fun i hi=>⟨fun hlt=>⟨fun _ _=>⟨fun h=>?_,fun h=>⟨⟨fun h1 _=>?_,fun h1=>⟨fun h5=>?_,fun h5=>⟨fun h4=>⟨⟨⟨Nat.zero_le _,by simp⟩,fun j hj=>⟨fun hl _=>⟨fun hp _ _=>⟨⟨by omega,?_⟩,by omega⟩,fun hp _=>⟨⟨by omega,?_⟩,by omega⟩⟩,fun hg=>?_⟩⟩,fun b hb=>?_⟩,fun h4=>?_⟩⟩⟩,fun b _ hb=>hb⟩⟩,fun b _ hb _=>⟨⟨by omega,?_⟩,by omega⟩⟩,fun hge=>?_⟩⟩,fun b hb=>?_⟩
 ·unfold uE; rw [if_pos h]
 ·unfold uE; rw [if_neg (fun q=>q.elim (fun a=>a h.1) (fun a=>a h.2)),if_pos h1]
 ·unfold uE; rw [if_neg (fun q=>q.elim (fun a=>a h.1) (fun a=>a h.2)),if_neg h1,if_pos h5]
 ·rw [fl _ _ _ (by omega),← hj.2,if_pos (by simpa only [Bool.or_eq_true,beq_iff_eq] using hp)]
 ·rw [fl _ _ _ (by omega),← hj.2,if_neg (by simp only [Bool.or_eq_true,beq_iff_eq]; rw [hp.1.1.1]; simp only [reduceCtorEq,false_or]; rintro ((q | q) | q); exact hp.1.1.2 q; exact hp.1.2 q; exact hp.2 q),List.append_nil]
 ·rw [hj.2,List.take_of_length_le (by omega)]
 ·unfold uE; rw [if_neg (fun q=>q.elim (fun a=>a h.1) (fun a=>a h.2)),if_neg h1,if_neg h5,if_pos h4,hb]
 ·unfold uE; rw [if_neg (fun q=>q.elim (fun a=>a h.1) (fun a=>a h.2)),if_neg h1,if_neg h5,if_neg h4]
 ·simp only [UK]
  rw [hi.2]
  exact hb.symm
 ·have e:i.2.2.2.2=moves.length:=by omega
  have h:=hi.2
  rw [e] at h
  rw [h]; exact ⟨rfl,rfl⟩
 ·rw [hb.1,hb.2]
theorem BH (s:jM) (suit:Int) (moves:List Move) (errors:List Int):(fun (x:Int × (List Int))=>x=((UK suit (s.kind == 1) moves errors moves.length).1,(UK suit (s.kind == 1) moves errors moves.length).2.1)) (Za s suit moves errors):=have h:=Sk.pval _ (zbj s suit moves errors); h
theorem zcm (s:jM) (suit:Int) (moves:List Move) (errors:List Int) (he:errors.length=moves.length) (hm:moves.length≤1000):(zR s suit moves errors).obs (fun _=>True):=by
 refine Sk.obs_of _ ?_
 unfold zR
 simp only [Sk.obq,Sk.isLoop,reduceCtorEq,ON,kk,maxLen]
 all_goals simp only [LN] at *
 have fl:∀ (p:Int→Bool) (l:List Int) (n:Nat),n < l.length→(l.take (n+1)).filter p=(l.take n).filter p++if p (l.getD n default)=true then [l.getD n default] else []:=fun p l n h=>by
  rw [yE h,List.filter_append]; simp [List.filter_cons]
 have wi:∀ n:Nat,n≤1000→w64 ((n:Int)+1)=((n+1:Nat):Int):=fun n h=>by rw [jj (by omega) (by omega)]; omega
 refine ⟨⟨Nat.zero_le _,rfl⟩,fun i hi _=>?_⟩
 have hr:=(zqr suit (s.kind == 1) moves errors i.2.2.2.2).1
 rw [hi.2] at hr
 simp only at hr
 refine ⟨fun hlt=>⟨⟨⟨by omega,by omega⟩,fun _=>⟨⟨by omega,by omega⟩,fun _=>⟨fun h=>?_,fun h=>⟨⟨fun h1=>⟨⟨by omega,by omega⟩,fun _=>?_⟩,fun h1=>⟨fun h5=>?_,fun h5=>⟨fun h4=>⟨⟨⟨Nat.zero_le _,by simp⟩,fun j hj _=>⟨fun hl=>⟨⟨⟨by omega,by omega⟩,by omega⟩,fun _=>⟨fun hp=>⟨?_,fun _ _=>⟨wi _ (by omega),⟨by omega,?_⟩,by omega⟩⟩,fun hp _=>⟨wi _ (by omega),⟨by omega,?_⟩,by omega⟩⟩⟩,fun hg=>?_⟩⟩,fun b hb=>?_⟩,fun h4=>?_⟩⟩⟩,fun b _ hb=>hb⟩⟩⟩⟩,fun b _ hb _=>⟨wi _ (by omega),⟨by omega,?_⟩,by omega⟩⟩,fun hge=>?_⟩
 ·unfold uE; rw [if_pos h]
 ·unfold uE; rw [if_neg (fun q=>q.elim (fun a=>a h.1) (fun a=>a h.2)),if_pos h1]
 ·unfold uE; rw [if_neg (fun q=>q.elim (fun a=>a h.1) (fun a=>a h.2)),if_neg h1,if_pos h5]
 ·have h9:j.1.length≤j.2:=by
   rw [hj.2]
   refine Nat.le_trans (List.length_filter_le _ _) ?_
   rw [List.length_take]; omega
  omega
 ·rw [fl _ _ _ (by omega),← hj.2,if_pos (by simpa only [Bool.or_eq_true,beq_iff_eq] using hp)]
 ·rw [fl _ _ _ (by omega),← hj.2,if_neg (by simp only [Bool.or_eq_true,beq_iff_eq]; rw [hp.1.1.1]; simp only [reduceCtorEq,false_or]; rintro ((q | q) | q); exact hp.1.1.2 q; exact hp.1.2 q; exact hp.2 q),List.append_nil]
 ·rw [hj.2,List.take_of_length_le (by omega)]
 ·unfold uE; rw [if_neg (fun q=>q.elim (fun a=>a h.1) (fun a=>a h.2)),if_neg h1,if_neg h5,if_pos h4,hb]
 ·unfold uE; rw [if_neg (fun q=>q.elim (fun a=>a h.1) (fun a=>a h.2)),if_neg h1,if_neg h5,if_neg h4]
 ·simp only [UK]
  rw [hi.2]
  exact hb.symm
 ·have e:i.2.2.2.2=moves.length:=by omega
  have h:=hi.2
  rw [e] at h
  rw [h]; exact ⟨rfl,rfl⟩
def Vf (s:jM) (suit:Int) (moves:List Move) (errors:List Int):Ctr (Int × (List Int)):=kk tok mixed Tryz.func24 [av s.cells,iv suit,lv Move.cells moves,lv jC errors] (fun x=>.tup [iv x.1,lv jC x.2]) false (zR s suit moves errors) (Za s suit moves errors) (fun (h:(errors.length=moves.length)∧(moves.length≤1000))=>zcm s suit moves errors h.1 h.2) (fun (x:Int × (List Int))=>x=((UK suit (s.kind == 1) moves errors moves.length).1,(UK suit (s.kind == 1) moves errors moves.length).2.1)) (BH s suit moves errors)
structure Claim where
 debtor:Int
 creditor:Int
 part:Int
 sign:Int
 by_:Int
 turn:Int
 sum:Int
 currency:Int
 state:Int
 deriving Inhabited
def Claim.cells (c:Claim):List D:=[dI c.debtor,dI c.creditor,dI c.part,dI c.sign,dI c.by_,dI c.turn,dI c.sum,dI c.currency,dI c.state]
def Claim.E:Enc Claim:=⟨Claim.cells,9,fun _=>rfl,fun _=>rfl⟩
def gT (i:Int) (n:Int):Sk (Bool) :=
 .fin ((decide (i≥0))&&(decide (i < n)))
def Bb (i:Int) (n:Int):Bool:=(gT i n).val
theorem uv (i:Int) (n:Int):Bb i n=((decide (i≥0))&&(decide (i < n))):=rfl
theorem zcP (i:Int) (n:Int):(gT i n).obs (fun _=>True):=by
 unfold gT
 exact okE
def ql (i:Int) (n:Int):Ctr (Bool):=kk tok mixed Tryz.func70 [iv i,iv n] (fun x=>bv x) true (gT i n) (Bb i n) (fun (_:True)=>zcP i n)
def uT (f:jh) (day:Int):Sk (jh) :=
 .bind true (fun b1=>b1.length≤f.signs.length)
 (.loop (default:Sum (jh) ((List qt))) (fun i2=>i2.2.length≤i2.1∧i2.1≤f.signs.length) (fun i2=>f.signs.length - i2.1) ((0,[]):Nat × (List qt))
 (fun (i2:Nat × (List qt))=>⟨[(20,iv (i2.1:Int))],[(100002,jz 147 9 qt.cells i2.2),(5,.box (f.bill.cells.map .d++[ow 100002 i2.2]++[nv,nv,nv]))]⟩) fun i2 =>
 .bnd 18 0 f.signs.length <|
 .br (decide ((i2.1:Int) < ((f.signs.length:Nat):Int)))
 (.r 4 (.p (ixP (i2.1:Int) f.signs.length)) fun _ =>
 .br (decide (((f.signs.getD i2.1 default).day) > day))
 (.fin (.inl (.inr i2.2)))
 (.r 6 (.andl (.o [.nrm (qk qt.E [f.signs.getD i2.1 default])]) (.andl (.o [.nrm (gy qt.E i2.2 [f.signs.getD i2.1 default])]) (.andl (.t (qt.E.ones [f.signs.getD i2.1 default])) (.p (szP i2.2.length [f.signs.getD i2.1 default].length 72))))) fun _ =>
 .r 7 .z fun _ =>
 .wi 20 (w64 ((i2.1:Int)+1)) ((i2.1+1:Nat):Int) <|
 .fin (.inr (i2.1+1,i2.2++[f.signs.getD i2.1 default]))))
 (.fin (.inl (.inr i2.2))))
 (fun (b1:(List qt))=>⟨[],[(100001,jz 147 9 qt.cells b1),(5,.box (f.bill.cells.map .d++[ow 100001 b1]++[nv,nv,nv]))]⟩) fun b1 =>
 .bind true (fun b3=>b3.length≤f.acts.length)
 (.loop (default:Sum (jh) ((List jI))) (fun i4=>i4.2.length≤i4.1∧i4.1≤f.acts.length) (fun i4=>f.acts.length - i4.1) ((0,[]):Nat × (List jI))
 (fun (i4:Nat × (List jI))=>⟨[(38,iv (i4.1:Int))],[(100005,jz 108 9 jI.cells i4.2),(5,.box (f.bill.cells.map .d++[ow 100001 b1]++[nv,ow 100005 i4.2]++[nv]))]⟩) fun i4 =>
 .bnd 36 0 f.acts.length <|
 .br (decide ((i4.1:Int) < ((f.acts.length:Nat):Int)))
 (.r 10 (.p (ixP (i4.1:Int) f.acts.length)) fun _ =>
 .br (decide (((f.acts.getD i4.1 default).day) > day))
 (.fin (.inl (.inr i4.2)))
 (.r 12 (.andl (.o [.nrm (qk jI.E [f.acts.getD i4.1 default])]) (.andl (.o [.nrm (gy jI.E i4.2 [f.acts.getD i4.1 default])]) (.andl (.t (jI.E.ones [f.acts.getD i4.1 default])) (.p (szP i4.2.length [f.acts.getD i4.1 default].length 72))))) fun _ =>
 .r 13 .z fun _ =>
 .wi 38 (w64 ((i4.1:Int)+1)) ((i4.1+1:Nat):Int) <|
 .fin (.inr (i4.1+1,i4.2++[f.acts.getD i4.1 default]))))
 (.fin (.inl (.inr i4.2))))
 (fun (b3:(List jI))=>⟨[],[(100004,jz 108 9 jI.cells b3),(5,.box (f.bill.cells.map .d++[ow 100001 b1]++[nv,ow 100004 b3]++[nv]))]⟩) fun b3 =>
 .bind true (fun b5=>b5.length≤f.alters.length)
 (.loop (default:Sum (jh) ((List kC))) (fun i6=>i6.2.length≤i6.1∧i6.1≤f.alters.length) (fun i6=>f.alters.length - i6.1) ((0,[]):Nat × (List kC))
 (fun (i6:Nat × (List kC))=>⟨[(56,iv (i6.1:Int))],[(100008,jz 102 2 kC.cells i6.2),(5,.box (f.bill.cells.map .d++[ow 100001 b1,ow 100008 i6.2,ow 100004 b3]++[nv]))]⟩) fun i6 =>
 .bnd 54 0 f.alters.length <|
 .br (decide ((i6.1:Int) < ((f.alters.length:Nat):Int)))
 (.r 16 (.p (ixP (i6.1:Int) f.alters.length)) fun _ =>
 .br (decide (((f.alters.getD i6.1 default).at_)≤((b1.length:Nat):Int)))
 (.r 18 (.andl (.o [.nrm (qk kC.E [f.alters.getD i6.1 default])]) (.andl (.o [.nrm (gy kC.E i6.2 [f.alters.getD i6.1 default])]) (.andl (.t (kC.E.ones [f.alters.getD i6.1 default])) (.p (szP i6.2.length [f.alters.getD i6.1 default].length 16))))) fun _ =>
 .r 19 .z fun _ =>
 .wi 56 (w64 ((i6.1:Int)+1)) ((i6.1+1:Nat):Int) <|
 .fin (.inr (i6.1+1,i6.2++[f.alters.getD i6.1 default])))
 (.r 19 .z fun _ =>
 .wi 56 (w64 ((i6.1:Int)+1)) ((i6.1+1:Nat):Int) <|
 .fin (.inr (i6.1+1,i6.2))))
 (.fin (.inl (.inr i6.2))))
 (fun (b5:(List kC))=>⟨[],[(100007,jz 102 2 kC.cells b5),(5,.box (f.bill.cells.map .d++[ow 100001 b1,ow 100007 b5,ow 100004 b3]++[nv]))]⟩) fun b5 =>
 .bind true (fun b7=>b7.length≤f.facts.length)
 (.loop (default:Sum (jh) ((List vS))) (fun i8=>i8.2.length≤i8.1∧i8.1≤f.facts.length) (fun i8=>f.facts.length - i8.1) ((0,[]):Nat × (List vS))
 (fun (i8:Nat × (List vS))=>⟨[(76,iv (i8.1:Int))],[(100011,jz 72 3 vS.cells i8.2),(5,.box (f.bill.cells.map .d++[ow 100001 b1,ow 100007 b5,ow 100004 b3,ow 100011 i8.2]))]⟩) fun i8 =>
 .bnd 74 0 f.facts.length <|
 .br (decide ((i8.1:Int) < ((f.facts.length:Nat):Int)))
 (.r 22 (.p (ixP (i8.1:Int) f.facts.length)) fun _ =>
 .r 23 ((ql ((f.facts.getD i8.1 default).at_) ((b1.length:Nat):Int)).c) fun x9 =>
 .br x9
 (.r 24 (.andl (.o [.nrm (qk vS.E [f.facts.getD i8.1 default])]) (.andl (.o [.nrm (gy vS.E i8.2 [f.facts.getD i8.1 default])]) (.andl (.t (vS.E.ones [f.facts.getD i8.1 default])) (.p (szP i8.2.length [f.facts.getD i8.1 default].length 24))))) fun _ =>
 .r 25 .z fun _ =>
 .wi 76 (w64 ((i8.1:Int)+1)) ((i8.1+1:Nat):Int) <|
 .fin (.inr (i8.1+1,i8.2++[f.facts.getD i8.1 default])))
 (.r 25 .z fun _ =>
 .wi 76 (w64 ((i8.1:Int)+1)) ((i8.1+1:Nat):Int) <|
 .fin (.inr (i8.1+1,i8.2))))
 (.fin (.inl (.inr i8.2))))
 (fun (b7:(List vS))=>⟨[],[(100010,jz 72 3 vS.cells b7),(5,.box (f.bill.cells.map .d++[ow 100001 b1,ow 100007 b5,ow 100004 b3,ow 100010 b7]))]⟩) fun b7 =>
 .fin ({ f with signs:=b1,alters:=b5,acts:=b3,facts:=b7 })
def ji (f:jh) (day:Int):jh:=(uT f day).val
theorem ziy (f:jh) (day:Int):(uT f day).pst (fun (x:jh)=>x.signs.length≤f.signs.length∧x.acts.length≤f.acts.length∧x.alters.length≤f.alters.length∧x.facts.length≤f.facts.length):=by
 unfold uT
 try simp only [ql,uv,jh.Small,jg.Small]
 exact okQ
theorem Um (f:jh) (day:Int):(fun (x:jh)=>x.signs.length≤f.signs.length∧x.acts.length≤f.acts.length∧x.alters.length≤f.alters.length∧x.facts.length≤f.facts.length) (ji f day):=have h:=Sk.pval _ (ziy f day); h
theorem zkh (f:jh) (day:Int) (hf:f.Small):(uT f day).obs (fun _=>True):=by
 simp only [jh.Small,jg.Small] at hf
 unfold uT
 try simp only [ql,uv,jh.Small,jg.Small]
 exact okG
def ju (f:jh) (day:Int):Ctr (jh):=kk tok mixed Tryz.func46 [av f.cells,iv day] (fun x=>av x.cells) false (uT f day) (ji f day) (fun (h:(f.Small))=>zkh f day h) (fun (x:jh)=>x.signs.length≤f.signs.length∧x.acts.length≤f.acts.length∧x.alters.length≤f.alters.length∧x.facts.length≤f.facts.length) (Um f day)
theorem Yn {α:Type} (p:α→Bool):∀ (l s:List α),l.foldl (fun s x=>bif p x then s++[x] else s) s=s++l.filter p
 | [],s=>by simp
 | x :: r,s=>by
  simp only [List.foldl_cons,List.filter_cons]
  cases h:p x with
  | true=>simp [Yn p r]
  | false=>simp [Yn p r]
theorem BV {α β:Type} (p:α→Bool) (g:List α→β):∀ (l s:List α),walk (fun x s=>bif !(p x) then Sum.inl (g s) else Sum.inr (s++[x])) g l s=g (s++l.takeWhile p)
 | [],s=>by simp [walk]
 | x :: r,s=>by
  simp only [walk,List.takeWhile_cons]
  cases h:p x with
  | true =>
   show walk (fun x s=>bif !(p x) then Sum.inl (g s) else Sum.inr (s++[x])) g r (s++[x])=_
   rw [BV p g r (s++[x])]
   simp
  | false=>simp
theorem Qc (f:jh) (day:Int):ji f day=jh.mk f.bill (f.signs.takeWhile (fun s=>decide (s.day≤day)))
  (f.alters.filter (fun a=>decide (a.at_≤((f.signs.takeWhile (fun s=>decide (s.day≤day))).length:Int)))) (f.acts.takeWhile (fun a=>decide (a.day≤day)))
  (f.facts.filter (fun x=>decide (x.at_≥0)&&decide (x.at_ < ((f.signs.takeWhile (fun s=>decide (s.day≤day))).length:Int)))):=by
 simp only [ji,uT,Sk.val_bind,Sk.val_loop,Sk.val_bnd,Sk.val_br,Sk.val_r,Sk.val_wi,Sk.val_fin,Ctr.c_v,kk,ql,uv]
 have h1:∀ (n:Nat) (d:jh ⊕ List qt),f.signs.length < n→iter (fun i2:Nat × List qt=>bif decide ((i2.1:Int) < (f.signs.length:Int)) then (bif decide ((f.signs.getD i2.1 default).day > day) then (Sum.inl (Sum.inr i2.2)) else (Sum.inr (i2.1+1,i2.2++[f.signs.getD i2.1 default]))) else Sum.inl (Sum.inr i2.2)) d n (0,[])=(Sum.inr (f.signs.takeWhile (fun s=>decide (s.day≤day))):jh ⊕ List qt):=by
  intro n d hn
  rw [Qz f.signs (fun s i=>(i,s)) (fun x s=>bif !(decide (x.day≤day)) then Sum.inl (Sum.inr s) else Sum.inr (s++[x])) (fun s=>Sum.inr s) (fun s i hi=>?_) (fun s=>?_) hn []]
  ·exact BV _ (fun s=>(Sum.inr s:jh ⊕ List qt)) f.signs []
  ·rw [decide_eq_true (by omega),cond_true]
   by_cases c:(f.signs.getD i default).day > day
   ·rw [decide_eq_true c,decide_eq_false (by omega)]; rfl
   ·rw [decide_eq_false c,decide_eq_true (by omega)]; rfl
  ·rw [decide_eq_false (by omega),cond_false]
 rw [h1 _ _ (by simp)]
 have h2:∀ (n:Nat) (d:jh ⊕ List jI),f.acts.length < n→iter (fun i2:Nat × List jI=>bif decide ((i2.1:Int) < (f.acts.length:Int)) then (bif decide ((f.acts.getD i2.1 default).day > day) then (Sum.inl (Sum.inr i2.2)) else (Sum.inr (i2.1+1,i2.2++[f.acts.getD i2.1 default]))) else Sum.inl (Sum.inr i2.2)) d n (0,[])=(Sum.inr (f.acts.takeWhile (fun s=>decide (s.day≤day))):jh ⊕ List jI):=by
  intro n d hn
  rw [Qz f.acts (fun s i=>(i,s)) (fun x s=>bif !(decide (x.day≤day)) then Sum.inl (Sum.inr s) else Sum.inr (s++[x])) (fun s=>Sum.inr s) (fun s i hi=>?_) (fun s=>?_) hn []]
  ·exact BV _ (fun s=>(Sum.inr s:jh ⊕ List jI)) f.acts []
  ·rw [decide_eq_true (by omega),cond_true]
   by_cases c:(f.acts.getD i default).day > day
   ·rw [decide_eq_true c,decide_eq_false (by omega)]; rfl
   ·rw [decide_eq_false c,decide_eq_true (by omega)]; rfl
  ·rw [decide_eq_false (by omega),cond_false]
 simp only [VQ]
 rw [h2 _ _ (by simp)]
 simp only [VQ]
 generalize f.signs.takeWhile (fun s=>decide (s.day≤day))=b1
 have h3:∀ (n:Nat) (d:jh ⊕ List kC),f.alters.length < n→iter (fun i2:Nat × List kC=>bif decide ((i2.1:Int) < (f.alters.length:Int)) then (bif decide ((f.alters.getD i2.1 default).at_≤(b1.length:Int)) then (Sum.inr (i2.1+1,i2.2++[f.alters.getD i2.1 default])) else (Sum.inr (i2.1+1,i2.2))) else Sum.inl (Sum.inr i2.2)) d n (0,[])=(Sum.inr (f.alters.filter (fun a=>decide (a.at_≤(b1.length:Int)))):jh ⊕ List kC):=by
  intro n d hn
  rw [Qz f.alters (fun s i=>(i,s)) (fun x s=>Sum.inr (bif decide (x.at_≤(b1.length:Int)) then s++[x] else s)) (fun s=>Sum.inr s) (fun s i hi=>?_) (fun s=>?_) hn []]
  ·rw [GM (fun (x:kC) s=>bif decide (x.at_≤(b1.length:Int)) then s++[x] else s),Yn]; rfl
  ·rw [decide_eq_true (by omega),cond_true]
   cases decide ((f.alters.getD i default).at_≤(b1.length:Int)) <;> rfl
  ·rw [decide_eq_false (by omega),cond_false]
 rw [h3 _ _ (by simp)]
 simp only [VQ]
 have h4:∀ (n:Nat) (d:jh ⊕ List vS),f.facts.length < n→iter (fun i2:Nat × List vS=>bif decide ((i2.1:Int) < (f.facts.length:Int)) then (bif (decide ((f.facts.getD i2.1 default).at_≥0)&&decide ((f.facts.getD i2.1 default).at_ < (b1.length:Int))) then (Sum.inr (i2.1+1,i2.2++[f.facts.getD i2.1 default])) else (Sum.inr (i2.1+1,i2.2))) else Sum.inl (Sum.inr i2.2)) d n (0,[])=(Sum.inr (f.facts.filter (fun a=>decide (a.at_≥0)&&decide (a.at_ < (b1.length:Int)))):jh ⊕ List vS):=by
  intro n d hn
  rw [Qz f.facts (fun s i=>(i,s)) (fun x s=>Sum.inr (bif (decide (x.at_≥0)&&decide (x.at_ < (b1.length:Int))) then s++[x] else s)) (fun s=>Sum.inr s) (fun s i hi=>?_) (fun s=>?_) hn []]
  ·rw [GM (fun (x:vS) s=>bif (decide (x.at_≥0)&&decide (x.at_ < (b1.length:Int))) then s++[x] else s),Yn]; rfl
  ·rw [decide_eq_true (by omega),cond_true]
   cases (decide ((f.facts.getD i default).at_≥0)&&decide ((f.facts.getD i default).at_ < (b1.length:Int))) <;> rfl
  ·rw [decide_eq_false (by omega),cond_false]
 rw [h4 _ _ (by simp)]
 rfl
theorem HS {α:Type} [Inhabited α] (p:α→Bool):∀ (l:List α) (i:Nat),i < (l.takeWhile p).length→(l.takeWhile p).getD i default=l.getD i default∧i < l.length∧p (l.getD i default)=true
 | [],i,h=>by simp at h
 | x :: r,i,h=>by
  rw [List.takeWhile_cons] at h ⊢
  cases hp:p x with
  | false=>rw [hp] at h; simp at h
  | true =>
   rw [hp] at h
   simp only [if_true,List.length_cons] at h ⊢
   cases i with
   | zero=>exact ⟨rfl,by simp,hp⟩
   | succ i =>
    have:=HS p r i (by omega)
    exact ⟨by simpa using this.1,by simpa using this.2.1,by simpa using this.2.2⟩
structure kS where
 all:jh
 now:jh
 day:Int
 lead:List Int
 deriving Inhabited
def kS.cells (c:kS):List D:=c.all.cells++c.now.cells++[dI c.day,slD jC c.lead]
def kS.E:Enc kS:=⟨kS.cells,40,fun _=>rfl,fun _=>rfl⟩
def kS.BaseOK (v:kS):Prop:=∀ i,i < v.now.signs.length→((v.now.signs.getD i default).kind=3∨(v.now.signs.getD i default).kind=4)→0≤(v.now.signs.getD i default).for_∧(v.now.signs.getD i default).for_ < (i:Int)
structure qc where
 view:kS
 r:jg
 forum:Int
 due:Int
 deriving Inhabited
def qc.cells (c:qc):List D:=c.view.cells++c.r.cells++[dI c.forum,dI c.due]
def qc.E:Enc qc:=⟨qc.cells,50,fun _=>rfl,fun _=>rfl⟩
end
end Go.Proofs.YtilbddpghnnmhaaGreatDoor
