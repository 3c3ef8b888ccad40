/- Functions, as sketches. -/
import Derived.Test.YtilbddpghnnmhaaGreatDoorSa1
namespace Go.Proofs.YtilbddpghnnmhaaGreatDoor
noncomputable section
open Go Go.Av
set_option linter.unusedSimpArgs false
set_option linter.unusedVariables false
set_option maxHeartbeats 1000000
set_option maxRecDepth 100000
def zN (r:jg) (b:vP):Sk (Int) :=
 .r 1 ((ye r).c) fun x1 =>
 .br (x1 != 0)
 (.fin x1)
 (.r 5 (.dep ((qf b.drawer ((r.firms.length:Nat):Int)).c) fun x2=>.dep (.wh x2 true ((qf b.drawee ((r.firms.length:Nat):Int)).c)) fun x3=>.dep (.wh (x2&&x3) true (.wh (b.payee == (-1)) false ((qf b.payee ((r.firms.length:Nat):Int)).c))) fun x4=>.wh ((x2&&x3)&&((b.payee == (-1))||x4)) true (.wh (b.need == (-1)) false ((qf b.need ((r.firms.length:Nat):Int)).c))) fun p12 =>
 .r 6 (.dep (.wh (!(((p12.1&&p12.2.1)&&((b.payee == (-1))||p12.2.2.1))&&((b.need == (-1))||p12.2.2.2))) false ((qf b.currency ((r.currencies.length:Nat):Int)).c)) fun x6=>.dep (.wh ((!(((p12.1&&p12.2.1)&&((b.payee == (-1))||p12.2.2.1))&&((b.need == (-1))||p12.2.2.2)))||(!x6)) false ((qf b.city ((r.cities.length:Nat):Int)).c)) fun x7=>.wh (((!(((p12.1&&p12.2.1)&&((b.payee == (-1))||p12.2.2.1))&&((b.need == (-1))||p12.2.2.2)))||(!x6))||(!x7)) false ((qf b.pay ((r.cities.length:Nat):Int)).c)) fun p11 =>
 .br ((((!(((p12.1&&p12.2.1)&&((b.payee == (-1))||p12.2.2.1))&&((b.need == (-1))||p12.2.2.2)))||(!p11.1))||(!p11.2.1))||(!p11.2.2))
 (.fin 1)
 (.br ((((((decide (b.sum < 1))||(decide (b.sum > 1099511627776)))||(decide (b.day < 0)))||(decide (b.day > 100000)))||(decide (b.rate < 0)))||(decide (b.rate > 1000)))
 (.fin 3)
 (.br ((decide (b.parts < 1))||(decide (b.parts > 4)))
 (.fin 15)
 (.r 12 (.wh (((decide (b.flags < 0))||(decide (b.flags > 7)))||(((kY .i64 b.flags 4) != 0)&&(b.payee == (-1)))) false ((ZK b).c)) fun x9 =>
 .br ((((decide (b.flags < 0))||(decide (b.flags > 7)))||(((kY .i64 b.flags 4) != 0)&&(b.payee == (-1))))||(!x9))
 (.fin 2)
 (.br (b.tenor.kind == 4)
 (.r 15 ((yR r b.city b.pay).c) fun x10 =>
 .fin x10.2)
 (.fin 0))))))
def FT (r:jg) (b:vP):Int:=(zN r b).val
theorem BP (r:jg) (b:vP):(zN r b).pst (fun (x:Int)=>x=0→zf2 r b∧(b.payee = -1∨(0≤b.payee∧b.payee < r.firms.length))):=by
 unfold zN
 try simp only [ye,yR,qf,ZK,Gn,jh.Small,jg.Small,jg.HaltOK]
 exact okQ
theorem Bb (r:jg) (b:vP):(fun (x:Int)=>x=0→zf2 r b∧(b.payee = -1∨(0≤b.payee∧b.payee < r.firms.length))) (FT r b):=have h:=Sk.pval _ (BP r b); h
theorem zb8 (r:jg) (b:vP) (h_r_Small:r.Small):(zN r b).obs (fun _=>True):=by
 simp only [jh.Small,jg.Small,jg.HaltOK] at h_r_Small
 unfold zN
 try simp only [ye,yR,qf,ZK,Gn,jh.Small,jg.Small,jg.HaltOK]
 exact okG
def ZM (r:jg) (b:vP):Ctr (Int):=kk tok mixed Tryz.func40 [av r.cells,av b.cells] (fun x=>iv x) true (zN r b) (FT r b) (fun (h:(r.Small))=>zb8 r b h) (fun (x:Int)=>x=0→zf2 r b∧(b.payee = -1∨(0≤b.payee∧b.payee < r.firms.length))) (Bb r b)
def Yc (n:Int) (low:Int) (high:Int):Sk (Bool) :=
 .fin ((decide (n≥low))&&(decide (n≤high)))
def zmI (n:Int) (low:Int) (high:Int):Bool:=(Yc n low high).val
theorem qn (n:Int) (low:Int) (high:Int):zmI n low high=((decide (n≥low))&&(decide (n≤high))):=rfl
theorem zlE (n:Int) (low:Int) (high:Int):(Yc n low high).obs (fun _=>True):=by
 unfold Yc
 exact okE
def jz (n:Int) (low:Int) (high:Int):Ctr (Bool):=kk tok mixed Tryz.func42 [iv n,iv low,iv high] (fun x=>bv x) true (Yc n low high) (zmI n low high) (fun (_:True)=>zlE n low high)
def JH (f:jh) (i:Int) (part:Int):Sk (Bool) :=
 .r 1 (.wh (i == 0) false (.p (ixP i f.signs.length))) fun _ =>
 .fin ((i == 0)||(((f.signs.getD i.toNat default).part) == part))
def zkL (f:jh) (i:Int) (part:Int):Bool:=(JH f i part).val
theorem zdu (f:jh) (i:Int) (part:Int) (hi:i=0∨(0≤i∧i < (f.signs.length:Int))):(JH f i part).obs (fun _=>True):=by
 unfold JH
 exact okD
def uq (f:jh) (i:Int) (part:Int):Ctr (Bool):=kk tok mixed Tryz.func100 [av f.cells,iv i,iv part] (fun x=>bv x) true (JH f i part) (zkL f i part) (fun (h:(i=0∨(0≤i∧i < (f.signs.length:Int))))=>zdu f i part h)
def vr (s:List Int) (v:Int):Sk (Int) :=
 .bind true (fun b1=>∀ q,q < s.length→(s.getD q default == v)=false)
 (.loop (default:Sum (Int) (Unit)) (fun i2=>∀ q,q < i2→(s.getD q default == v)=false) (fun i2=>s.length - i2) (0:Nat)
 (fun (i2:Nat)=>⟨[(8,iv (i2:Int))],[]⟩) fun i2 =>
 .bnd 0 0 s.length <|
 .br (decide ((i2:Int) < ((s.length:Nat):Int)))
 (.r 4 (.p (ixP (i2:Int) s.length)) fun _ =>
 .br (v == (s.getD i2 default))
 (.fin (.inl (.inl (i2:Int))))
 (.r 6 .z fun _ =>
 .wi 8 (w64 ((i2:Int)+1)) ((i2+1:Nat):Int) <|
 .fin (.inr (i2+1))))
 (.fin (.inl (.inr ()))))
 (fun (_:Unit)=>⟨[],[]⟩) fun _ =>
 .fin (-1)
def slices_Index (s:List Int) (v:Int):Int:=(vr s v).val
theorem zbO (s:List Int) (v:Int):(vr s v).pst (fun (x:Int)=>(x = -1∧∀ q,q < s.length→(s.getD q default == v)=false)∨(0≤x∧x < s.length∧(s.getD x.toNat default == v)=true∧∀ q,(q:Nat) < x.toNat→(s.getD q default == v)=false)):=by
 unfold vr
 exact okP
theorem za3 (s:List Int) (v:Int):(fun (x:Int)=>(x = -1∧∀ q,q < s.length→(s.getD q default == v)=false)∨(0≤x∧x < s.length∧(s.getD x.toNat default == v)=true∧∀ q,(q:Nat) < x.toNat→(s.getD q default == v)=false)) (slices_Index s v):=have h:=Sk.pval _ (zbO s v); h
theorem zd4 (s:List Int) (v:Int):(vr s v).obs (fun _=>True):=by
 unfold vr
 exact okD
def UA (s:List Int) (v:Int):Ctr (Int):=kk tok mixed Tryz.func163 [lv jA s,iv v] (fun x=>iv x) true (vr s v) (slices_Index s v) (fun (_:True)=>zd4 s v) (fun (x:Int)=>(x = -1∧∀ q,q < s.length→(s.getD q default == v)=false)∨(0≤x∧x < s.length∧(s.getD x.toNat default == v)=true∧∀ q,(q:Nat) < x.toNat→(s.getD q default == v)=false)) (za3 s v)
def qR (s:List Int) (v:Int):Sk (Bool) :=
 .r 1 ((UA s v).c) fun x1 =>
 .fin (decide (x1≥0))
def slices_Contains (s:List Int) (v:Int):Bool:=(qR s v).val
theorem Fy (s:List Int) (v:Int):(qR s v).pst (fun (x:Bool)=>(x=true↔∃ q,q < s.length∧(s.getD q default == v)=true)):=by
 unfold qR
 try simp only [UA]
 exact okP
theorem QZ (s:List Int) (v:Int):(fun (x:Bool)=>(x=true↔∃ q,q < s.length∧(s.getD q default == v)=true)) (slices_Contains s v):=have h:=Sk.pval _ (Fy s v); h
theorem Bg (s:List Int) (v:Int):(qR s v).obs (fun _=>True):=by
 unfold qR
 try simp only [UA]
 exact okE
def jq (s:List Int) (v:Int):Ctr (Bool):=kk tok mixed Tryz.func131 [lv jA s,iv v] (fun x=>bv x) true (qR s v) (slices_Contains s v) (fun (_:True)=>Bg s v) (fun (x:Bool)=>(x=true↔∃ q,q < s.length∧(s.getD q default == v)=true)) (QZ s v)
def uh (f:jh) (i:Int) (kinds:List Int):Sk (Bool) :=
 .r 1 (.p (ixP i f.signs.length)) fun _ =>
 .r 2 (.dep ((jz ((f.signs.getD i.toNat default).for_) 0 (w64 (i - 1))).c) fun x1=>.andl (.wh x1 true (.p (ixP i f.signs.length))) (.dep (.wh x1 true ((uq f ((f.signs.getD i.toNat default).for_) ((f.signs.getD i.toNat default).part)).c)) fun x2=>.andl (.wh (x1&&x2) true (.p (ixP ((f.signs.getD i.toNat default).for_) f.signs.length))) (.wh (x1&&x2) true ((jq kinds ((f.signs.getD (((f.signs.getD i.toNat default).for_).toNat) default).kind)).c)))) fun p4 =>
 .fin ((p4.1&&p4.2.1)&&p4.2.2)
def zdg (f:jh) (i:Int) (kinds:List Int):Bool:=(uh f i kinds).val
theorem zes (f:jh) (i:Int) (kinds:List Int) (hP:(0≤i∧i < (f.signs.length:Int))∧f.signs.length≤40):(uh f i kinds).pst (fun (x:Bool)=>x=true→0≤(f.signs.getD i.toNat default).for_∧(f.signs.getD i.toNat default).for_ < i):=by
 unfold uh
 try simp only [jz,uq,jq,qn]
 exact okQ
theorem zbz (f:jh) (i:Int) (kinds:List Int):(fun (x:Bool)=>((0≤i∧i < (f.signs.length:Int))∧f.signs.length≤40)→(x=true→0≤(f.signs.getD i.toNat default).for_∧(f.signs.getD i.toNat default).for_ < i)) (zdg f i kinds):=fun hP=>Sk.pval _ (zes f i kinds hP)
theorem zgw (f:jh) (i:Int) (kinds:List Int) (hi:0≤i∧i < (f.signs.length:Int)) (hf:f.signs.length≤1000000):(uh f i kinds).obs (fun _=>True):=by
 unfold uh
 try simp only [jz,uq,jq,qn]
 exact okG
def QR (f:jh) (i:Int) (kinds:List Int):Ctr (Bool):=kk tok mixed Tryz.func99 [av f.cells,iv i,lv jA kinds] (fun x=>bv x) true (uh f i kinds) (zdg f i kinds) (fun (h:(0≤i∧i < (f.signs.length:Int))∧(f.signs.length≤1000000))=>zgw f i kinds h.1 h.2) (fun (x:Bool)=>((0≤i∧i < (f.signs.length:Int))∧f.signs.length≤40)→(x=true→0≤(f.signs.getD i.toNat default).for_∧(f.signs.getD i.toNat default).for_ < i)) (zbz f i kinds)
def yh (r:jg) (f:jh) (i:Int):Sk (Bool) :=
 .r 1 (.p (ixP i f.signs.length)) fun _ =>
 .br ((!((i == 0) == (((f.signs.getD i.toNat default).kind) == 0)))||((((f.signs.getD i.toNat default).kind) != 2)&&(((f.signs.getD i.toNat default).to_) != (-1))))
 (.fin false)
 (.br (((((f.signs.getD i.toNat default).kind) != 3)&&(((f.signs.getD i.toNat default).kind) != 4))&&(((f.signs.getD i.toNat default).for_) != (-1)))
 (.fin false)
 (.r 7 ((jz ((f.signs.getD i.toNat default).sum) 1 1099511627776).c) fun x1 =>
 .br (((f.signs.getD i.toNat default).kind) == 0)
 (.fin ((((((((f.signs.getD i.toNat default).who) == f.bill.drawer)&&(((f.signs.getD i.toNat default).sum) == 0))&&((orK .i64 ((f.signs.getD i.toNat default).flags) 1) == 1))&&(((f.signs.getD i.toNat default).part) == 0))&&(((f.signs.getD i.toNat default).day) == f.bill.day))&&(((f.signs.getD i.toNat default).city) == f.bill.city)))
 (.br (((f.signs.getD i.toNat default).kind) == 1)
 (.fin ((((f.signs.getD i.toNat default).who) == f.bill.drawee)&&(x1&&(((f.signs.getD i.toNat default).flags) == 0))))
 (.br (((f.signs.getD i.toNat default).kind) == 2)
 (.r 15 (.dep ((jz ((f.signs.getD i.toNat default).to_) (-1) (w64 (((r.firms.length:Nat):Int) - 1))).c) fun x2=>.wh (x2&&(((f.signs.getD i.toNat default).sum) == 0)) true ((jz ((f.signs.getD i.toNat default).flags) 0 7).c)) fun p4 =>
 .fin (((p4.1&&(((f.signs.getD i.toNat default).sum) == 0))&&p4.2)&&((kY .i64 ((f.signs.getD i.toNat default).flags) 6) != 6)))
 (.br (((f.signs.getD i.toNat default).kind) == 3)
 (.r 17 (.andl (.wh ((((f.signs.getD i.toNat default).sum) == 0)&&(((f.signs.getD i.toNat default).flags) == 0)) true (.o [.nrm (qt ky [0,1,2,4])])) (.wh ((((f.signs.getD i.toNat default).sum) == 0)&&(((f.signs.getD i.toNat default).flags) == 0)) true ((QR f i [0,1,2,4]).c))) fun x5 =>
 .fin (((((f.signs.getD i.toNat default).sum) == 0)&&(((f.signs.getD i.toNat default).flags) == 0))&&x5))
 (.br (((f.signs.getD i.toNat default).kind) == 4)
 (.r 19 (.andl (.wh ((x1&&(((f.signs.getD i.toNat default).flags) == 0))&&(((f.signs.getD i.toNat default).who) != f.bill.drawee)) true (.o [.nrm (qt ky [0,2])])) (.wh ((x1&&(((f.signs.getD i.toNat default).flags) == 0))&&(((f.signs.getD i.toNat default).who) != f.bill.drawee)) true ((QR f i [0,2]).c))) fun x6 =>
 .fin (((x1&&(((f.signs.getD i.toNat default).flags) == 0))&&(((f.signs.getD i.toNat default).who) != f.bill.drawee))&&x6))
 (.fin false)))))))
def zg0 (r:jg) (f:jh) (i:Int):Bool:=(yh r f i).val
theorem zfA (r:jg) (f:jh) (i:Int) (hP:(0≤i∧i < (f.signs.length:Int))∧f.signs.length≤40∧r.firms.length≤200):(yh r f i).pst (fun (x:Bool)=>x=true→zmc f i.toNat∧ToQ r f i.toNat):=by
 refine Sk.pst_of _ ?_
 unfold yh
 simp only [Sk.pstq,Sk.isLoop,reduceCtorEq,ON,kk,QR,jz,qn,forall_eq,maxLen]
 intro _ h1 h2
 obtain ⟨hi,hn,hr⟩:=hP
 have hw:w64 ((r.firms.length:Int) - 1)=(r.firms.length:Int) - 1:=jj (by omega) (by omega)
 rw [hw]
 unfold zmc ToQ yO
 generalize f.signs.getD i.toNat default=s at *
 have hk0:(s.kind=0↔i.toNat=0)∧(s.kind=2∨s.to_ = -1):=by
  by_cases a:i=0 <;> by_cases b:s.kind=0 <;> simp [a,b] at h1 ⊢ <;> omega
 clear h1
 obtain ⟨q1,q2⟩:=hk0
 refine ⟨fun k0 h=>?_,fun k0=>⟨fun k1 h=>?_,fun k1=>⟨fun k2 h=>?_,fun k2=>⟨fun k3 hb h=>?_,fun k3 k4 hb h=>?_⟩⟩⟩⟩
 all_goals simp only [LN] at *
 ·exact ⟨⟨by omega,by omega,q1,by omega⟩,by omega⟩
 ·exact ⟨⟨by omega,by omega,q1,by omega⟩,by omega⟩
 ·exact ⟨⟨by omega,by omega,q1,by omega⟩,by omega⟩
 ·have:=hb ⟨hi,hn⟩ h.2
  exact ⟨⟨by omega,by omega,q1,fun _=>by omega⟩,by omega⟩
 ·have:=hb ⟨hi,hn⟩ h.2
  exact ⟨⟨by omega,by omega,q1,fun _=>by omega⟩,by omega⟩
theorem zd8 (r:jg) (f:jh) (i:Int):(fun (x:Bool)=>((0≤i∧i < (f.signs.length:Int))∧f.signs.length≤40∧r.firms.length≤200)→(x=true→zmc f i.toNat∧ToQ r f i.toNat)) (zg0 r f i):=fun hP=>Sk.pval _ (zfA r f i hP)
theorem zh4 (r:jg) (f:jh) (i:Int) (hi:0≤i∧i < (f.signs.length:Int)) (hf:f.signs.length≤1000000):(yh r f i).obs (fun _=>True):=by
 unfold yh
 try simp only [QR,jz,qn]
 exact okG
def Wp (r:jg) (f:jh) (i:Int):Ctr (Bool):=kk tok mixed Tryz.func66 [av r.cells,av f.cells,iv i] (fun x=>bv x) true (yh r f i) (zg0 r f i) (fun (h:(0≤i∧i < (f.signs.length:Int))∧(f.signs.length≤1000000))=>zh4 r f i h.1 h.2) (fun (x:Bool)=>((0≤i∧i < (f.signs.length:Int))∧f.signs.length≤40∧r.firms.length≤200)→(x=true→zmc f i.toNat∧ToQ r f i.toNat)) (zd8 r f i)
theorem zje {α:Type} [Inhabited α] (L:List α) (n i:Nat) (h:i < n):(uI L 0 n).getD i default=L.getD i default:=by
 simp [uI,List.getD,h]
def ym (r:jg) (f:jh) (i:Int):Sk (Int) :=
 .r 1 (.p (ixP i f.signs.length)) fun _ =>
 .r 2 ((jz ((f.signs.getD i.toNat default).part) 0 (w64 (f.bill.parts - 1))).c) fun x1 =>
 .br (!x1)
 (.fin 15)
 (.r 4 (.dep ((jz ((f.signs.getD i.toNat default).who) 0 (w64 (((r.firms.length:Nat):Int) - 1))).c) fun x2=>.wh (!x2) false ((jz ((f.signs.getD i.toNat default).city) 0 (w64 (((r.cities.length:Nat):Int) - 1))).c)) fun p8 =>
 .br ((!p8.1)||(!p8.2))
 (.fin 1)
 (.r 7 (.andl (.o [.nrm (zsj ql.E f.signs 0 i.toNat)]) (.pt (0≤i∧i≤((f.signs.length:Nat):Int)) (ql.E.lens f.signs))) fun _ =>
 .bind true (fun b4=>b4.1=(if i.toNat=0 then f.bill.day else (f.signs.getD (i.toNat - 1) default).day))
 (.loop (default:Sum (Int) (Int × Bool)) (fun i5=>i5.2.2≤i.toNat∧i5.1=(if i5.2.2=0 then f.bill.day else (f.signs.getD (i5.2.2 - 1) default).day)) (fun i5=>(uI f.signs 0 i.toNat).length - i5.2.2) ((f.bill.day,false,0):Int × Bool × Nat)
 (fun (i5:Int × Bool × Nat)=>⟨[(8,iv i5.1),(9,bv i5.2.1),(51,iv (i5.2.2:Int))],[]⟩) fun i5 =>
 .bnd 49 0 ((uI f.signs 0 i.toNat).length) <|
 .br (decide ((i5.2.2:Int) < (((uI f.signs 0 i.toNat).length:Nat):Int)))
 (.r 9 (.p (ixP (i5.2.2:Int) ((uI f.signs 0 i.toNat).length))) fun _ =>
 .r 12 .z fun _ =>
 .wi 51 (w64 ((i5.2.2:Int)+1)) ((i5.2.2+1:Nat):Int) <|
 .fin (.inr (((uI f.signs 0 i.toNat).getD i5.2.2 default).day,i5.2.1||(((((f.signs.getD i.toNat default).kind) == 1)&&((((uI f.signs 0 i.toNat).getD i5.2.2 default).kind) == 1))&&((((uI f.signs 0 i.toNat).getD i5.2.2 default).part) == ((f.signs.getD i.toNat default).part))),i5.2.2+1)))
 (.fin (.inl (.inr (i5.1,i5.2.1)))))
 (fun (b4:Int × Bool)=>⟨[(8,iv b4.1),(9,bv b4.2)],[]⟩) fun b4 =>
 .r 13 ((jz ((f.signs.getD i.toNat default).day) b4.1 100000).c) fun x6 =>
 .br ((!x6)||((i == 0)&&(((f.signs.getD i.toNat default).day) != b4.1)))
 (.fin 13)
 (.r 15 ((Wp r f i).c) fun x7 =>
 .br (!x7)
 (.fin 14)
 (.br b4.2
 (.fin 5)
 (.fin 0)))))
def zgP (r:jg) (f:jh) (i:Int):Int:=(ym r f i).val
theorem zgr (r:jg) (f:jh) (i:Int) (hP:(0≤i∧i < (f.signs.length:Int))∧f.signs.length≤40∧r.firms.length≤200∧zf2 r f.bill):(ym r f i).pst (fun (x:Int)=>x=0→zjs r f i.toNat∧ToQ r f i.toNat):=by
 refine Sk.pst_of _ ?_
 unfold ym
 simp only [Sk.pstq,Sk.isLoop,reduceCtorEq,ON,kk,Wp,jz,qn,forall_eq,jh.Small,jg.Small,maxLen]
 intro _
 obtain ⟨hi,hn,hr,hB⟩:=hP
 have hB2:=hB.2.2.2.1
 refine ⟨fun _ h=>absurd h (by decide),fun hpart=>⟨fun _ h=>absurd h (by decide),fun hwho _=>⟨⟨⟨by omega,by simp⟩,fun k hk=>⟨fun hc _ _=>⟨⟨?_,?_⟩,?_⟩,fun hc=>?_⟩⟩,fun b hb=>⟨fun _ h=>absurd h (by decide),fun hd hF=>⟨fun _ h=>absurd h (by decide),fun hf=>⟨fun _ h=>absurd h (by decide),fun _=>?_⟩⟩⟩⟩⟩⟩
 all_goals (try simp only [LN] at hc)
 ·omega
 ·rw [zje _ _ _ (by omega),if_neg (by simp)]; rfl
 ·simp only [Zk] at hc ⊢; omega
 ·have e:k.2.2=i.toNat:=by omega
  rw [hk.2,e]
 ·have hF:=hF ⟨hi,hn,hr⟩ (by simpa using hf)
  simp only [LN] at hpart hwho hd
  obtain ⟨⟨w1,w2⟩,_⟩:=hwho
  obtain ⟨⟨d1,d2⟩,d3⟩:=hd
  rw [jj (by omega) (by omega)] at w2 hpart
  refine ⟨⟨⟨w1,by omega⟩,fun h0=>?_,d2,fun h0=>?_,hpart,hF.1⟩,hF.2⟩
  ·rw [if_neg h0] at hb
   rw [← hb]; exact d1
  ·rw [if_pos h0] at hb
   rw [← hb]
   rcases d3 with d3 | d3
   ·omega
   ·exact d3
theorem zel (r:jg) (f:jh) (i:Int):(fun (x:Int)=>((0≤i∧i < (f.signs.length:Int))∧f.signs.length≤40∧r.firms.length≤200∧zf2 r f.bill)→(x=0→zjs r f i.toNat∧ToQ r f i.toNat)) (zgP r f i):=fun hP=>Sk.pval _ (zgr r f i hP)
theorem zhE (r:jg) (f:jh) (i:Int) (hi:0≤i∧i < (f.signs.length:Int)) (hf:f.signs.length≤1000000) (hr:r.Small):(ym r f i).obs (fun _=>True):=by
 simp only [jh.Small,jg.Small] at hr
 refine Sk.obs_of _ ?_
 unfold ym
 simp only [Sk.obq,Sk.isLoop,reduceCtorEq,ON,kk,Wp,jz,qn,forall_eq,jh.Small,jg.Small,maxLen]
 refine ⟨hi,fun _ hp hwho=>⟨⟨hi.1,by omega⟩,fun _=>⟨⟨⟨by omega,by simp⟩,fun k hk hl=>⟨fun hc=>⟨⟨by omega,of_decide_eq_true hc⟩,fun _ _=>⟨?_,⟨⟨?_,?_⟩,?_⟩⟩⟩,fun hc=>?_⟩⟩,?_⟩⟩⟩
 all_goals (try simp only [LN] at hc)
 ·exact jj (by simp only [Zk] at hl; omega) (by simp only [Zk] at hl; omega)
 ·omega
 ·rw [zje _ _ _ (by omega),if_neg (by simp)]; rfl
 ·simp only [Zk] at hc ⊢; omega
 ·have e:k.2.2=i.toNat:=by omega
  rw [hk.2,e]
 ·intro b hb hd
  exact ⟨hi,hf⟩
def Wb (r:jg) (f:jh) (i:Int):Ctr (Int):=kk tok mixed Tryz.func41 [av r.cells,av f.cells,iv i] (fun x=>iv x) true (ym r f i) (zgP r f i) (fun (h:(0≤i∧i < (f.signs.length:Int))∧(f.signs.length≤1000000)∧(r.Small))=>zhE r f i h.1 h.2.1 h.2.2) (fun (x:Int)=>((0≤i∧i < (f.signs.length:Int))∧f.signs.length≤40∧r.firms.length≤200∧zf2 r f.bill)→(x=0→zjs r f i.toNat∧ToQ r f i.toNat)) (zel r f i)
def gr (r:jg) (f:jh) (a:jE):Sk (Bool) :=
 .r 1 (.dep ((jz a.at_ 0 (w64 (((f.signs.length:Nat):Int) - 1))).c) fun x1=>.wh x1 true ((uq f a.at_ a.part).c)) fun p11 =>
 .r 2 (.wh (p11.1&&p11.2) true (.p (ixP a.at_ f.signs.length))) fun _ =>
 .r 3 ((jz a.to_ 0 (w64 (((r.firms.length:Nat):Int) - 1))).c) fun x3 =>
 .r 4 ((jz a.who 0 (w64 (((r.firms.length:Nat):Int) - 1))).c) fun x4 =>
 .br ((!x4)||((a.kind != 4)&&(a.form != 0)))
 (.fin false)
 (.bind false (fun _=>True)
 (.br (a.kind == 0)
 (.fin (.inr (a.kind == 0)))
 (.br (a.kind == 1)
 (.fin (.inr (a.kind == 1)))
 (.fin (.inr (a.kind == 2)))))
 (fun (b5:Bool)=>⟨[(65,bv b5)],[]⟩) fun b5 =>
 .br b5
 (.fin ((x3&&(a.at_ == (-1)))&&(a.sum == 0)))
 (.bind false (fun _=>True)
 (.br (a.kind == 3)
 (.fin (.inr (a.kind == 3)))
 (.br (a.kind == 5)
 (.fin (.inr (a.kind == 5)))
 (.fin (.inr (a.kind == 4)))))
 (fun (b6:Bool)=>⟨[(80,bv b6)],[]⟩) fun b6 =>
 .br b6
 (.r 14 (.dep (.wh (x3&&(a.at_ == (-1))) true ((jz a.sum 0 1099511627776).c)) fun x7=>.wh ((x3&&(a.at_ == (-1)))&&x7) true ((jz a.form 0 1).c)) fun p9 =>
 .fin (((x3&&(a.at_ == (-1)))&&p9.1)&&p9.2))
 (.br (a.kind == 6)
 (.r 16 (.wh (x3&&((p11.1&&p11.2)&&(((f.signs.getD a.at_.toNat default).who) == a.who))) true ((jz a.sum 1 1099511627776).c)) fun x10 =>
 .fin ((x3&&((p11.1&&p11.2)&&(((f.signs.getD a.at_.toNat default).who) == a.who)))&&x10))
 (.br (a.kind == 9)
 (.fin (((a.to_ == (-1))&&((p11.1&&p11.2)&&(((f.signs.getD a.at_.toNat default).who) == a.who)))&&(a.sum == 0)))
 (.fin (((a.to_ == (-1))&&(p11.1&&p11.2))&&(a.sum == 0)))))))
def zjd (r:jg) (f:jh) (a:jE):Bool:=(gr r f a).val
theorem zik (r:jg) (f:jh) (a:jE) (hP:f.signs.length≤40):(gr r f a).pst (fun (x:Bool)=>x=true→(a.at_ = -1∨(0≤a.at_∧a.at_ < (f.signs.length:Int)))∧yO a.sum∧(a.kind=6→0≤a.at_∧(f.signs.getD a.at_.toNat default).who=a.who)):=by
 unfold gr
 try simp only [jz,uq,qn]
 exact okQ
theorem zhd (r:jg) (f:jh) (a:jE):(fun (x:Bool)=>(f.signs.length≤40)→(x=true→(a.at_ = -1∨(0≤a.at_∧a.at_ < (f.signs.length:Int)))∧yO a.sum∧(a.kind=6→0≤a.at_∧(f.signs.getD a.at_.toNat default).who=a.who))) (zjd r f a):=fun hP=>Sk.pval _ (zik r f a hP)
theorem zkn (r:jg) (f:jh) (a:jE) (hf:f.signs.length≤1000000):(gr r f a).obs (fun _=>True):=by
 unfold gr
 try simp only [jz,uq,qn]
 exact okG
def XP (r:jg) (f:jh) (a:jE):Ctr (Bool):=kk tok mixed Tryz.func67 [av r.cells,av f.cells,av a.cells] (fun x=>bv x) true (gr r f a) (zjd r f a) (fun (h:(f.signs.length≤1000000))=>zkn r f a h) (fun (x:Bool)=>(f.signs.length≤40)→(x=true→(a.at_ = -1∨(0≤a.at_∧a.at_ < (f.signs.length:Int)))∧yO a.sum∧(a.kind=6→0≤a.at_∧(f.signs.getD a.at_.toNat default).who=a.who))) (zhd r f a)
def yw (r:jg) (f:jh):Sk (Int) :=
 .bind true (fun b1=>∀ q,q < f.acts.length→zcy f q)
 (.loop (default:Sum (Int) (Unit)) (fun i2=>i2≤f.acts.length∧∀ q,q < i2→zcy f q) (fun i2=>f.acts.length - i2) (0:Nat)
 (fun (i2:Nat)=>⟨[(11,iv (i2:Int))],[]⟩) fun i2 =>
 .bnd 9 0 f.acts.length <|
 .br (decide ((i2:Int) < ((f.acts.length:Nat):Int)))
 (.r 3 (.p (ixP (i2:Int) f.acts.length)) fun _ =>
 .r 4 ((jz ((f.acts.getD i2 default).part) 0 (w64 (f.bill.parts - 1))).c) fun x3 =>
 .br (!x3)
 (.fin (.inl (.inl 15)))
 (.r 6 (.dep ((jz ((f.acts.getD i2 default).city) 0 (w64 (((r.cities.length:Nat):Int) - 1))).c) fun x4=>.wh (!x4) false ((jz ((f.acts.getD i2 default).kind) 0 9).c)) fun p10 =>
 .br ((!p10.1)||(!p10.2))
 (.fin (.inl (.inl 1)))
 (.r 8 ((XP r f (f.acts.getD i2 default)).c) fun x6 =>
 .br (!x6)
 (.fin (.inl (.inl 14)))
 (.bind false (fun b7=>f.bill.day≤b7∧(0≤(f.acts.getD i2 default).at_→(f.signs.getD (f.acts.getD i2 default).at_.toNat default).day≤b7))
 (.br (((f.acts.getD i2 default).at_) != (-1))
 (.r 12 (.p (ixP ((f.acts.getD i2 default).at_) f.signs.length)) fun _ =>
 .fin (.inr (jP f.bill.day ((f.signs.getD (((f.acts.getD i2 default).at_).toNat) default).day))))
 (.fin (.inr f.bill.day)))
 (fun (b7:Int)=>⟨[(7,iv b7)],[]⟩) fun b7 =>
 .bind false (fun b8=>f.bill.day≤b8∧(0≤(f.acts.getD i2 default).at_→(f.signs.getD (f.acts.getD i2 default).at_.toNat default).day≤b8)∧(i2≠0→(f.acts.getD (i2 - 1) default).day≤b8))
 (.br (decide ((i2:Int) > 0))
 (.r 14 (.p (ixP (w64 ((i2:Int) - 1)) f.acts.length)) fun _ =>
 .fin (.inr (jP b7 ((f.acts.getD ((w64 ((i2:Int) - 1)).toNat) default).day))))
 (.fin (.inr b7)))
 (fun (b8:Int)=>⟨[(7,iv b8)],[]⟩) fun b8 =>
 .r 15 ((jz ((f.acts.getD i2 default).day) b8 100000).c) fun x9 =>
 .br (!x9)
 (.fin (.inl (.inl 13)))
 (.r 17 .z fun _ =>
 .wi 11 (w64 ((i2:Int)+1)) ((i2+1:Nat):Int) <|
 .fin (.inr (i2+1)))))))
 (.fin (.inl (.inr ()))))
 (fun (_:Unit)=>⟨[],[]⟩) fun _ =>
 .fin 0
def zft (r:jg) (f:jh):Int:=(yw r f).val
theorem zhn (r:jg) (f:jh) (hP:f.signs.length≤40∧f.acts.length≤100):(yw r f).pst (fun (x:Int)=>x=0→∀ q,q < f.acts.length→zcy f q):=by
 refine Sk.pst_of _ ?_
 unfold yw
 simp only [Sk.pstq,Sk.isLoop,reduceCtorEq,ON,kk,XP,jz,qn,forall_eq,maxLen]
 obtain ⟨hf,ha⟩:=hP
 refine ⟨⟨⟨by omega,fun q hq=>absurd hq (by omega)⟩,fun k hk=>⟨fun hc _=>⟨fun _ h=>absurd h (by decide),fun _=>⟨fun _ h=>absurd h (by decide),fun _ hact=>⟨fun _ h=>absurd h (by decide),fun ha2=>⟨⟨fun _ _=>⟨?_,fun _=>?_⟩,fun hne=>⟨Int.le_refl _,fun h=>?_⟩⟩,fun b _ hb=>⟨⟨fun hk0 _=>⟨?_,fun h=>?_,fun _=>?_⟩,fun hk0=>⟨hb.1,hb.2,fun h=>?_⟩⟩,fun c _ hcc=>⟨fun _ h=>absurd h (by decide),fun hd _=>⟨⟨?_,fun q hq=>?_⟩,?_⟩⟩⟩⟩⟩⟩⟩,fun hc q hq=>hk.2 q (by simp only [LN] at hc; omega)⟩⟩,?_⟩
 all_goals (try simp only [LN] at hc)
 ·unfold jP; omega
 ·unfold jP; omega
 ·simp only [LN] at hne; omega
 ·have:=hb.1; unfold jP; omega
 ·have:=hb.2 h; unfold jP; omega
 ·simp only [LN] at hk0
  have e:(w64 ((k:Int) - 1)).toNat=k - 1:=by rw [jj (by omega) (by omega)]; omega
  rw [e]; unfold jP; omega
 ·simp only [LN] at hk0; omega
 ·omega
 ·simp only [LN] at hd
  by_cases e:q=k
  ·subst e
   have A:=hact hf (by simpa using ha2)
   exact ⟨A.2.1,⟨by omega,hd.2⟩,fun h=>by have:=hcc.2.2 h; omega,fun h6=>⟨⟨(A.2.2 h6).1,by have:=(A.2.2 h6).1; have:=A.1; omega⟩,by have:=hcc.2.1 (A.2.2 h6).1; omega,(A.2.2 h6).2⟩⟩
  ·exact hk.2 q (by omega)
 ·omega
 ·first | exact fun _ hb=>hb | exact fun _ hb _=>hb | trivial
theorem zdz (r:jg) (f:jh):(fun (x:Int)=>(f.signs.length≤40∧f.acts.length≤100)→(x=0→∀ q,q < f.acts.length→zcy f q)) (zft r f):=fun hP=>Sk.pval _ (zhn r f hP)
theorem zhF (r:jg) (f:jh) (hf:f.signs.length≤40) (ha:f.acts.length≤1000000):(yw r f).obs (fun _=>True):=by
 refine Sk.obs_of _ ?_
 unfold yw
 simp only [Sk.obq,Sk.isLoop,reduceCtorEq,ON,kk,XP,jz,qn,forall_eq,maxLen]
 refine ⟨⟨by omega,fun q hq=>absurd hq (by omega)⟩,fun k hk hl=>⟨fun hc=>⟨⟨by omega,of_decide_eq_true hc⟩,fun _ _ _=>⟨by omega,fun hact ha2=>⟨⟨fun hne=>⟨?_,fun _=>⟨?_,fun _=>?_⟩⟩,fun hne=>⟨Int.le_refl _,fun h=>?_⟩⟩,fun b _ hb=>⟨⟨fun hk0=>⟨⟨?_,?_⟩,fun _=>⟨?_,fun h=>?_,fun _=>?_⟩⟩,fun hk0=>⟨hb.1,hb.2,fun h=>?_⟩⟩,fun c _ hcc hd _=>⟨?_,⟨?_,fun q hq=>?_⟩,?_⟩⟩⟩⟩⟩,fun hc q hq=>hk.2 q (by simp only [LN] at hc; omega)⟩⟩
 all_goals (try simp only [LN] at hc)
 ·simp only [LN] at hne
  have:=(hact hf (by simpa using ha2)).1
  omega
 ·unfold jP; omega
 ·unfold jP; omega
 ·simp only [LN] at hne; omega
 ·simp only [LN] at hk0; rw [jj (by omega) (by omega)]; omega
 ·simp only [LN] at hk0; rw [jj (by omega) (by omega)]; omega
 ·have:=hb.1; unfold jP; omega
 ·have:=hb.2 h; unfold jP; omega
 ·simp only [LN] at hk0
  have e:(w64 ((k:Int) - 1)).toNat=k - 1:=by rw [jj (by omega) (by omega)]; omega
  rw [e]; unfold jP; omega
 ·simp only [LN] at hk0; omega
 ·exact jj (by omega) (by omega)
 ·omega
 ·simp only [LN] at hd
  by_cases e:q=k
  ·subst e
   have A:=hact hf (by simpa using ha2)
   exact ⟨A.2.1,⟨by omega,hd.2⟩,fun h=>by have:=hcc.2.2 h; omega,fun h6=>⟨⟨(A.2.2 h6).1,by have:=(A.2.2 h6).1; have:=A.1; omega⟩,by have:=hcc.2.1 (A.2.2 h6).1; omega,(A.2.2 h6).2⟩⟩
  ·exact hk.2 q (by omega)
 ·omega
def Ws (r:jg) (f:jh):Ctr (Int):=kk tok mixed Tryz.func43 [av r.cells,av f.cells] (fun x=>iv x) true (yw r f) (zft r f) (fun (h:(f.signs.length≤40)∧(f.acts.length≤1000000))=>zhF r f h.1 h.2) (fun (x:Int)=>(f.signs.length≤40∧f.acts.length≤100)→(x=0→∀ q,q < f.acts.length→zcy f q)) (zdz r f)
def Vh (x_:Int):Sk (Bool) :=
 .fin (x_ != x_)
def zi1 (x_:Int):Bool:=(Vh x_).val
theorem zkc (x_:Int):zi1 x_=(x_ != x_):=rfl
theorem zkJ (x_:Int):(Vh x_).obs (fun _=>True):=by
 unfold Vh
 exact okE
def HJ (x_:Int):Ctr (Bool):=kk tok mixed Tryz.func101 [iv x_] (fun x=>bv x) true (Vh x_) (zi1 x_) (fun (_:True)=>zkJ x_)
def KX (x_:Int) (y:Int):Sk (Int) :=
 .r 1 ((HJ x_).c) fun x1 =>
 .r 2 ((HJ y).c) fun x2 =>
 .br x1
 (.br x2
 (.fin 0)
 (.fin (-1)))
 (.br x2
 (.fin 1)
 (.br (decide (x_ < y))
 (.fin (-1))
 (.br (decide (x_ > y))
 (.fin 1)
 (.fin 0))))
def zlr (x_:Int) (y:Int):Int:=(KX x_ y).val
theorem zeZ (x_:Int) (y:Int):(KX x_ y).obs (fun _=>True):=by
 unfold KX
 try simp only [HJ,zkc]
 exact okG
def Yz (x_:Int) (y:Int):Ctr (Int):=kk tok mixed Tryz.func69 [iv x_,iv y] (fun x=>iv x) true (KX x_ y) (zlr x_ y) (fun (_:True)=>zeZ x_ y)
def HN (vals:List Int):Sk (Int) :=
 .bind true (fun _=>True)
 (.loop (default:Sum (Int) (Unit)) (fun i2=>i2≤vals.length) (fun i2=>vals.length - i2) (0:Nat)
 (fun (i2:Nat)=>⟨[(8,iv (i2:Int))],[]⟩) fun i2 =>
 .bnd 6 0 vals.length <|
 .br (decide ((i2:Int) < ((vals.length:Nat):Int)))
 (.r 4 (.p (ixP (i2:Int) vals.length)) fun _ =>
 .br ((vals.getD i2 default) != 0)
 (.fin (.inl (.inl (vals.getD i2 default))))
 (.r 7 .z fun _ =>
 .wi 8 (w64 ((i2:Int)+1)) ((i2+1:Nat):Int) <|
 .fin (.inr (i2+1))))
 (.fin (.inl (.inr ()))))
 (fun (_:Unit)=>⟨[],[]⟩) fun _ =>
 .fin 0
def zsf (vals:List Int):Int:=(HN vals).val
theorem zoF (vals:List Int):(HN vals).obs (fun _=>True):=by
 unfold HN
 exact okD
def zk9 (vals:List Int):Ctr (Int):=kk tok mixed Tryz.func68 [lv jA vals] (fun x=>iv x) true (HN vals) (zsf vals) (fun (_:True)=>zoF vals)
def KG (f:jh):Sk (Int) :=
 .bind true (fun _=>True)
 (.loop (default:Sum (Int) (Unit)) (fun i2=>i2≤f.facts.length) (fun i2=>f.facts.length - i2) (0:Nat)
 (fun (i2:Nat)=>⟨[(9,iv (i2:Int))],[]⟩) fun i2 =>
 .bnd 7 0 f.facts.length <|
 .br (decide ((i2:Int) < ((f.facts.length:Nat):Int)))
 (.r 3 (.p (ixP (i2:Int) f.facts.length)) fun _ =>
 .r 4 (.dep ((jz ((f.facts.getD i2 default).kind) 0 4).c) fun x3=>.dep (.wh (!x3) false ((jz ((f.facts.getD i2 default).at_) 0 (w64 (((f.signs.length:Nat):Int) - 1))).c)) fun x4=>.wh ((!x3)||(!x4)) false ((jz ((f.facts.getD i2 default).n) 0 1).c)) fun p10 =>
 .br (((!p10.1)||(!p10.2.1))||(!p10.2.2))
 (.fin (.inl (.inl 1)))
 (.br ((i2:Int) == 0)
 (.r 10 .z fun _ =>
 .wi 9 (w64 ((i2:Int)+1)) ((i2+1:Nat):Int) <|
 .fin (.inr (i2+1)))
 (.r 7 (.p (ixP (w64 ((i2:Int) - 1)) f.facts.length)) fun _ =>
 .r 8 (.dep ((Yz ((f.facts.getD ((w64 ((i2:Int) - 1)).toNat) default).at_) ((f.facts.getD i2 default).at_)).c) fun x6=>.dep ((Yz ((f.facts.getD ((w64 ((i2:Int) - 1)).toNat) default).kind) ((f.facts.getD i2 default).kind)).c) fun x7=>.andl (.o [.nrm (qt ky [x6,x7])]) ((zk9 [x6,x7]).c)) fun p9 =>
 .br (decide (p9.2.2≥0))
 (.fin (.inl (.inl 5)))
 (.r 10 .z fun _ =>
 .wi 9 (w64 ((i2:Int)+1)) ((i2+1:Nat):Int) <|
 .fin (.inr (i2+1))))))
 (.fin (.inl (.inr ()))))
 (fun (_:Unit)=>⟨[],[]⟩) fun _ =>
 .fin 0
def zmx (f:jh):Int:=(KG f).val
theorem zeW (f:jh):(KG f).obs (fun _=>True):=by
 unfold KG
 try simp only [Yz,zk9,jz,qn]
 exact okG
def YH (f:jh):Ctr (Int):=kk tok mixed Tryz.func44 [av f.cells] (fun x=>iv x) true (KG f) (zmx f) (fun (_:True)=>zeW f)
def ud (r:jg) (f:jh):Sk (Int) :=
 .br ((((decide (((f.signs.length:Nat):Int) > 40))||(decide (((f.alters.length:Nat):Int) > 4)))||(decide (((f.acts.length:Nat):Int) > 100)))||(decide (((f.facts.length:Nat):Int) > 200)))
 (.fin 6)
 (.r 3 ((ZM r f.bill).c) fun x1 =>
 .br (x1 != 0)
 (.fin x1)
 (.br (((f.signs.length:Nat):Int) == 0)
 (.fin 14)
 (.bind true (fun b2=>(r.firms.length≤200→∀ q,q < f.signs.length→zjs r f q∧ToQ r f q))
 (.loop (default:Sum (Int) (Unit)) (fun i3=>i3≤f.signs.length∧(r.firms.length≤200→∀ q,q < i3→zjs r f q∧ToQ r f q)) (fun i3=>f.signs.length - i3) (0:Nat)
 (fun (i3:Nat)=>⟨[(48,iv (i3:Int))],[]⟩) fun i3 =>
 .bnd 3 15 f.signs.length <|
 .br (decide ((i3:Int) < ((f.signs.length:Nat):Int)))
 (.r 11 ((Wb r f (i3:Int)).c) fun x4 =>
 .br (x4 != 0)
 (.fin (.inl (.inl x4)))
 (.r 14 .z fun _ =>
 .wi 48 (w64 ((i3:Int)+1)) ((i3+1:Nat):Int) <|
 .fin (.inr (i3+1))))
 (.fin (.inl (.inr ()))))
 (fun (_:Unit)=>⟨[],[]⟩) fun _ =>
 .bind true (fun b5=>(∀ q,q < f.alters.length→yO (f.alters.getD q default).sum))
 (.loop (default:Sum (Int) (Unit)) (fun i6=>i6.2≤f.alters.length∧(∀ q,q < i6.2→yO (f.alters.getD q default).sum)) (fun i6=>f.alters.length - i6.2) ((0,0):Int × Nat)
 (fun (i6:Int × Nat)=>⟨[(8,iv i6.1),(62,iv (i6.2:Int))],[]⟩) fun i6 =>
 .bnd 60 0 f.alters.length <|
 .br (decide ((i6.2:Int) < ((f.alters.length:Nat):Int)))
 (.r 18 (.p (ixP (i6.2:Int) f.alters.length)) fun _ =>
 .r 19 ((jz ((f.alters.getD i6.2 default).at_) (w64 (i6.1+1)) ((f.signs.length:Nat):Int)).c) fun x7 =>
 .br (!x7)
 (.fin (.inl (.inl 1)))
 (.r 21 ((jz ((f.alters.getD i6.2 default).sum) 1 1099511627776).c) fun x8 =>
 .br (!x8)
 (.fin (.inl (.inl 3)))
 (.r 24 .z fun _ =>
 .wi 62 (w64 ((i6.2:Int)+1)) ((i6.2+1:Nat):Int) <|
 .fin (.inr ((f.alters.getD i6.2 default).at_,i6.2+1)))))
 (.fin (.inl (.inr ()))))
 (fun (_:Unit)=>⟨[],[]⟩) fun _ =>
 .r 25 ((Ws r f).c) fun x9 =>
 .br (x9 != 0)
 (.fin x9)
 (.r 28 ((YH f).c) fun x10 =>
 .fin x10))))
def yP (r:jg) (f:jh):Int:=(ud r f).val
theorem zem (r:jg) (f:jh) (hP:r.firms.length≤200):(ud r f).pst (fun (x:Int)=>x=0→jU r f∧ToF r f):=by
 refine Sk.pst_of _ ?_
 unfold ud
 simp only [Sk.pstq,Sk.isLoop,reduceCtorEq,ON,kk,Ws,YH,jz,Wb,ZM,qn,forall_eq,maxLen]
 refine ⟨fun _ h=>absurd h (by decide),fun hlen hw=>⟨fun h1 h2=>?_,fun hwz=>⟨fun _ h=>absurd h (by decide),fun hne=>⟨⟨⟨by omega,fun _ q hq=>absurd hq (by omega)⟩,fun k hk=>⟨fun hc hs=>⟨fun h1 h2=>?_,fun h1 _=>⟨⟨?_,fun hr q hq=>?_⟩,?_⟩⟩,fun hc hr q hq=>hk.2 hr q (by simp only [LN] at hc; omega)⟩⟩,fun _ hsg=>⟨⟨⟨by omega,fun q hq=>absurd hq (by omega)⟩,fun k hk=>⟨fun hc _=>⟨fun _ h=>absurd h (by decide),fun _=>⟨fun _ h=>absurd h (by decide),fun hs _=>⟨⟨?_,fun q hq=>?_⟩,?_⟩⟩⟩,fun hc q hq=>hk.2 q (by simp only [LN] at hc; omega)⟩⟩,fun _ hal hac=>⟨fun h1 h2=>?_,fun h1 h2=>?_⟩⟩⟩⟩⟩⟩
 all_goals simp only [LN] at hlen
 all_goals (try simp only [LN] at hc)
 ·rw [h2] at h1; exact absurd h1 (by decide)
 ·rw [h2] at h1; exact absurd h1 (by decide)
 ·omega
 ·by_cases e:q=k
  ·subst e
   have:=hs ⟨by omega,by omega,hP,(hw (by simpa using hwz)).1⟩ (by simpa using h1)
   simpa using this
  ·exact hk.2 hr q (by omega)
 ·omega
 ·omega
 ·by_cases e:q=k.2
  ·subst e
   simp only [LN] at hs
   exact ⟨by omega,by omega⟩
  ·exact hk.2 q (by omega)
 ·omega
 ·rw [h2] at h1; exact absurd h1 (by decide)
 ·have W:=hw (by simpa using hwz)
  simp only [LN] at hne
  exact ⟨⟨W.1,⟨by omega,by omega,by omega,by omega,by omega⟩,fun q hq=>(hsg hP q hq).1,hal,hac ⟨by omega,by omega⟩ (by simpa using h1)⟩,W.2,fun q hq=>(hsg hP q hq).2⟩
theorem gz (r:jg) (f:jh):(fun (x:Int)=>(r.firms.length≤200)→(x=0→jU r f∧ToF r f)) (yP r f):=fun hP=>Sk.pval _ (zem r f hP)
theorem zgn (r:jg) (f:jh) (hr:r.Small):(ud r f).obs (fun _=>True):=by
 refine Sk.obs_of _ ?_
 unfold ud
 simp only [Sk.obq,Sk.isLoop,reduceCtorEq,ON,kk,Ws,YH,jz,Wb,ZM,qn,forall_eq,maxLen]
 intro hlen
 simp only [LN] at hlen
 refine ⟨hr,fun hw hwz hne=>⟨⟨⟨by omega,fun _ q hq=>absurd hq (by omega)⟩,fun k hk hl=>⟨fun hc=>⟨⟨⟨by omega,of_decide_eq_true hc⟩,by omega,hr⟩,fun hs h1 _=>⟨?_,⟨?_,fun hr2 q hq=>?_⟩,?_⟩⟩,fun hc hr2 q hq=>hk.2 hr2 q (by simp only [LN] at hc; omega)⟩⟩,fun _ hsg=>⟨⟨⟨by omega,fun q hq=>absurd hq (by omega)⟩,fun k hk hl=>⟨fun hc=>⟨⟨by omega,of_decide_eq_true hc⟩,fun _ _ hs _=>⟨?_,⟨?_,fun q hq=>?_⟩,?_⟩⟩,fun hc q hq=>hk.2 q (by simp only [LN] at hc; omega)⟩⟩,fun _ _=>⟨by omega,by omega⟩⟩⟩⟩
 all_goals (try simp only [LN] at hc)
 ·exact jj (by omega) (by omega)
 ·omega
 ·by_cases e:q=k
  ·subst e
   have:=hs ⟨by omega,by omega,hr2,(hw (by simpa using hwz)).1⟩ (by simpa using h1)
   simpa using this
  ·exact hk.2 hr2 q (by omega)
 ·omega
 ·exact jj (by omega) (by omega)
 ·omega
 ·by_cases e:q=k.2
  ·subst e
   simp only [LN] at hs
   exact ⟨by omega,by omega⟩
  ·exact hk.2 q (by omega)
 ·omega
def YK (r:jg) (f:jh):Ctr (Int):=kk tok mixed Tryz.func23 [av r.cells,av f.cells] (fun x=>iv x) true (ud r f) (yP r f) (fun (h:(r.Small))=>zgn r f h) (fun (x:Int)=>(r.firms.length≤200)→(x=0→jU r f∧ToF r f)) (gz r f)
def KA (r:jg) (n:Nat) (s:jN):Prop:=(0≤s.plaintiff∧s.plaintiff < r.firms.length)∧(0≤s.defendant∧s.defendant < r.firms.length)∧s.plaintiff≠s.defendant∧(0≤s.forum∧s.forum < r.orders.length)∧(0≤s.file∧s.file < n)∧(0≤s.sign∧s.sign < 40)∧(0≤s.day∧s.day < 100001)∧(0≤s.kind∧s.kind < 2)
def yb (r:jg) (files:List jh) (suits:List jN) (moves:List Move):Sk (Int) :=
 .br (((decide (((files.length:Nat):Int) > 50))||(decide (((suits.length:Nat):Int) > 30)))||(decide (((moves.length:Nat):Int) > 100)))
 (.fin 6)
 (.bind true (fun b1=>∀ q,q < files.length→yP r (files.getD q default)=0)
 (.loop (default:Sum (Int) (Unit)) (fun i2=>i2≤files.length∧∀ q,q < i2→yP r (files.getD q default)=0) (fun i2=>files.length - i2) (0:Nat)
 (fun (i2:Nat)=>⟨[(30,iv (i2:Int))],[]⟩) fun i2 =>
 .bnd 1 0 files.length <|
 .br (decide ((i2:Int) < ((files.length:Nat):Int)))
 (.r 5 (.p (ixP (i2:Int) files.length)) fun _ =>
 .r 6 ((YK r (files.getD i2 default)).c) fun x3 =>
 .br (x3 != 0)
 (.fin (.inl (.inl x3)))
 (.r 9 .z fun _ =>
 .wi 30 (w64 ((i2:Int)+1)) ((i2+1:Nat):Int) <|
 .fin (.inr (i2+1))))
 (.fin (.inl (.inr ()))))
 (fun (_:Unit)=>⟨[],[]⟩) fun _ =>
 .bind true (fun b4=>∀ q,q < suits.length→KA r files.length (suits.getD q default))
 (.loop (default:Sum (Int) (Unit)) (fun i5=>i5≤suits.length∧∀ q,q < i5→KA r files.length (suits.getD q default)) (fun i5=>suits.length - i5) (0:Nat)
 (fun (i5:Nat)=>⟨[(43,iv (i5:Int))],[]⟩) fun i5 =>
 .bnd 41 0 suits.length <|
 .br (decide ((i5:Int) < ((suits.length:Nat):Int)))
 (.r 12 (.p (ixP (i5:Int) suits.length)) fun _ =>
 .r 13 (.dep ((qb ((suits.getD i5 default).plaintiff) ((r.firms.length:Nat):Int)).c) fun x6=>.wh x6 true ((qb ((suits.getD i5 default).defendant) ((r.firms.length:Nat):Int)).c)) fun p14 =>
 .r 14 (.dep (.wh (!((p14.1&&p14.2)&&(((suits.getD i5 default).plaintiff) != ((suits.getD i5 default).defendant)))) false ((qb ((suits.getD i5 default).forum) ((r.orders.length:Nat):Int)).c)) fun x8=>.dep (.wh ((!((p14.1&&p14.2)&&(((suits.getD i5 default).plaintiff) != ((suits.getD i5 default).defendant))))||(!x8)) false ((qb ((suits.getD i5 default).file) ((files.length:Nat):Int)).c)) fun x9=>.dep (.wh (((!((p14.1&&p14.2)&&(((suits.getD i5 default).plaintiff) != ((suits.getD i5 default).defendant))))||(!x8))||(!x9)) false ((qb ((suits.getD i5 default).sign) 40).c)) fun x10=>.dep (.wh ((((!((p14.1&&p14.2)&&(((suits.getD i5 default).plaintiff) != ((suits.getD i5 default).defendant))))||(!x8))||(!x9))||(!x10)) false ((qb ((suits.getD i5 default).day) 100001).c)) fun x11=>.wh (((((!((p14.1&&p14.2)&&(((suits.getD i5 default).plaintiff) != ((suits.getD i5 default).defendant))))||(!x8))||(!x9))||(!x10))||(!x11)) false ((qb ((suits.getD i5 default).kind) 2).c)) fun p13 =>
 .br ((((((!((p14.1&&p14.2)&&(((suits.getD i5 default).plaintiff) != ((suits.getD i5 default).defendant))))||(!p13.1))||(!p13.2.1))||(!p13.2.2.1))||(!p13.2.2.2.1))||(!p13.2.2.2.2))
 (.fin (.inl (.inl 1)))
 (.r 16 .z fun _ =>
 .wi 43 (w64 ((i5:Int)+1)) ((i5+1:Nat):Int) <|
 .fin (.inr (i5+1))))
 (.fin (.inl (.inr ()))))
 (fun (_:Unit)=>⟨[],[]⟩) fun _ =>
 .fin 0)
def gk (r:jg) (files:List jh) (suits:List jN) (moves:List Move):Int:=(yb r files suits moves).val
theorem ze6 (r:jg) (files:List jh) (suits:List jN) (moves:List Move):(yb r files suits moves).pst (fun (x:Int)=>x=0↔(files.length≤50∧suits.length≤30∧moves.length≤100)∧(∀ q,q < files.length→yP r (files.getD q default)=0)∧∀ q,q < suits.length→KA r files.length (suits.getD q default)):=by
 refine Sk.pst_of _ ?_
 unfold yb
 simp only [Sk.pstq,Sk.isLoop,reduceCtorEq,ON,kk,YK,qb,JW,forall_eq,maxLen]
 all_goals simp only [LN] at *
 have nx:∀ {p:Nat→Prop} {i:Nat},(∀ q,q < i→p q)→p i→∀ q,q < i+1→p q:=fun h h0 q hq=>by
  rcases Nat.lt_succ_iff_lt_or_eq.1 hq with h1 | rfl
  ·exact h q h1
  ·exact h0
 refine ⟨fun h=>⟨fun q=>absurd q (by omega),fun q=>absurd q.1 (by omega)⟩,fun hc=>⟨⟨⟨Nat.zero_le _,fun q hq=>absurd hq (by omega)⟩,fun i hi=>⟨fun hlt _ _=>⟨fun h=>⟨fun q=>absurd q h,fun q=>absurd (q.2.1 i (by omega)) h⟩,fun h _=>⟨⟨by omega,nx hi.2 h⟩,by omega⟩⟩,fun hge q hq=>hi.2 q (by omega)⟩⟩,fun _ hf=>⟨⟨⟨Nat.zero_le _,fun q hq=>absurd hq (by omega)⟩,fun i hi=>⟨fun hlt _=>⟨fun h=>⟨fun q=>absurd q (by omega),fun q=>?_⟩,fun h _=>⟨⟨by omega,nx hi.2 ?_⟩,by omega⟩⟩,fun hge q hq=>hi.2 q (by omega)⟩⟩,fun _ hs=>⟨fun _=>⟨⟨by omega,by omega,by omega⟩,hf,hs⟩,fun _=>trivial⟩⟩⟩⟩
 ·have:=q.2.2 i (by omega)
  unfold KA at this
  omega
 ·unfold KA
  omega
theorem Ju (r:jg) (files:List jh) (suits:List jN) (moves:List Move):(fun (x:Int)=>x=0↔(files.length≤50∧suits.length≤30∧moves.length≤100)∧(∀ q,q < files.length→yP r (files.getD q default)=0)∧∀ q,q < suits.length→KA r files.length (suits.getD q default)) (gk r files suits moves):=have h:=Sk.pval _ (ze6 r files suits moves); h
theorem ziM (r:jg) (files:List jh) (suits:List jN) (moves:List Move) (h_r_Small:r.Small):(yb r files suits moves).obs (fun _=>True):=by
 refine Sk.obs_of _ ?_
 unfold yb
 simp only [Sk.obq,Sk.isLoop,reduceCtorEq,ON,kk,YK,qb,JW,forall_eq,maxLen]
 all_goals simp only [LN] at *
 have nx:∀ {p:Nat→Prop} {i:Nat},(∀ q,q < i→p q)→p i→∀ q,q < i+1→p q:=fun h h0 q hq=>by
  rcases Nat.lt_succ_iff_lt_or_eq.1 hq with h1 | rfl
  ·exact h q h1
  ·exact h0
 refine fun hc=>⟨⟨⟨Nat.zero_le _,fun q hq=>absurd hq (by omega)⟩,fun i hi _=>⟨fun hlt=>⟨by omega,fun _=>⟨h_r_Small,fun _ h _=>⟨?_,⟨by omega,nx hi.2 h⟩,by omega⟩⟩⟩,fun hge q hq=>hi.2 q (by omega)⟩⟩,fun _ hf=>⟨⟨Nat.zero_le _,fun q hq=>absurd hq (by omega)⟩,fun i hi _=>⟨fun hlt=>⟨by omega,fun _ h _=>⟨?_,⟨by omega,nx hi.2 ?_⟩,by omega⟩⟩,fun hge q hq=>hi.2 q (by omega)⟩⟩⟩
 ·rw [jj (by omega) (by omega)]; omega
 ·rw [jj (by omega) (by omega)]; omega
 ·unfold KA
  omega
def vD (r:jg) (files:List jh) (suits:List jN) (moves:List Move):Ctr (Int):=kk tok mixed Tryz.func11 [av r.cells,lv jh.cells files,lv jN.cells suits,lv Move.cells moves] (fun x=>iv x) true (yb r files suits moves) (gk r files suits moves) (fun (h:(r.Small))=>ziM r files suits moves h) (fun (x:Int)=>x=0↔(files.length≤50∧suits.length≤30∧moves.length≤100)∧(∀ q,q < files.length→yP r (files.getD q default)=0)∧∀ q,q < suits.length→KA r files.length (suits.getD q default)) (Ju r files suits moves)
def yB (suit:Int) (s:Int × List Int × List Int × Bool) (m:Move) (e:Int):Int × List Int × List Int × Bool :=
 if e≠0∨m.suit≠suit then s
 else if m.kind=1 then (s.1,s.2.1,s.2.2.1++[m.no],s.2.2.2)
 else if m.kind=5 then (s.1,s.2.1,s.2.2.1,true)
 else if m.kind=4 then (m.day,s.2.2.1.filter (fun d=>s.2.2.2||d == 0||d == 1||d == 2),s.2.2.1,s.2.2.2)
 else s
def Ul (suit:Int) (w:Bool) (moves:List Move) (errors:List Int):Nat→Int × List Int × List Int × Bool
 | 0=>(0,[],[],w)
 | n+1=>yB suit (Ul suit w moves errors n) (moves.getD n default) (errors.getD n default)
theorem zoT (suit:Int) (s:Int × List Int × List Int × Bool) (m:Move) (e:Int) (n:Nat) (h:s.2.2.1.length≤n∧s.2.1.length≤n):(yB suit s m e).2.2.1.length≤n+1∧(yB suit s m e).2.1.length≤n+1:=by
 have:=List.length_filter_le (fun d=>s.2.2.2||d == 0||d == 1||d == 2) s.2.2.1
 unfold yB
 repeat' split
 ·omega
 ·rw [List.length_append]; simp only [List.length_cons,List.length_nil]; omega
 ·simp only; omega
 ·simp only; omega
 ·omega
theorem zqm (suit:Int) (w:Bool) (moves:List Move) (errors:List Int) (n:Nat):(Ul suit w moves errors n).2.2.1.length≤n∧(Ul suit w moves errors n).2.1.length≤n:=by
 induction n with
 | zero=>exact ⟨Nat.le_refl _,Nat.le_refl _⟩
 | succ n ih=>exact zoT _ _ _ _ _ ih
def zK (s:jN) (suit:Int) (moves:List Move) (errors:List Int):Sk (Int × (List Int)) :=
 .bind true (fun b1=>(Ul suit (s.kind == 1) moves errors moves.length).1=b1.1∧(Ul suit (s.kind == 1) moves errors moves.length).2.1=b1.2)
 (.loop (default:Sum (Int × (List Int)) (Int × (List Int))) (fun i2=>i2.2.2.2.2≤moves.length∧Ul suit (s.kind == 1) moves errors i2.2.2.2.2=(i2.1,i2.2.1,i2.2.2.1,i2.2.2.2.1)) (fun i2=>moves.length - i2.2.2.2.2) ((0,[],[],s.kind == 1,0):Int × (List Int) × (List Int) × Bool × Nat)
 (fun (i2:Int × (List Int) × (List Int) × Bool × Nat)=>⟨[(8,iv i2.1),(9,ow 100075 i2.2.1),(10,ow 100076 i2.2.2.1),(11,bv i2.2.2.2.1),(21,iv (i2.2.2.2.2:Int))],[(100075,jy 3 1 jA i2.2.1),(100076,jy 3 1 jA i2.2.2.1)]⟩) fun i2 =>
 .bnd 19 0 moves.length <|
 .br (decide ((i2.2.2.2.2:Int) < ((moves.length:Nat):Int)))
 (.bind true (fun b3=>(b3.1,b3.2.1,b3.2.2.1,b3.2.2.2)=yB suit (i2.1,i2.2.1,i2.2.2.1,i2.2.2.2.1) (moves.getD i2.2.2.2.2 default) (errors.getD i2.2.2.2.2 default))
 (.r 5 (.p (ixP (i2.2.2.2.2:Int) moves.length)) fun _ =>
 .r 6 (.p (ixP (i2.2.2.2.2:Int) errors.length)) fun _ =>
 .br (((errors.getD i2.2.2.2.2 default) != 0)||(((moves.getD i2.2.2.2.2 default).suit) != suit))
 (.fin (.inr (i2.1,i2.2.1,i2.2.2.1,i2.2.2.2.1)))
 (.bind true (fun b4=>(b4.1,b4.2.1,b4.2.2.1,b4.2.2.2)=yB suit (i2.1,i2.2.1,i2.2.2.1,i2.2.2.2.1) (moves.getD i2.2.2.2.2 default) (errors.getD i2.2.2.2.2 default))
 (.br (((moves.getD i2.2.2.2.2 default).kind) == 1)
 (.r 9 (.andl (.o [.nrm (qt ky [(moves.getD i2.2.2.2.2 default).no])]) (.andl (.o [.nrm (Ji ky i2.2.2.1 [(moves.getD i2.2.2.2.2 default).no])]) (.andl (.t (ky.ones [(moves.getD i2.2.2.2.2 default).no])) (.p (szP i2.2.2.1.length [(moves.getD i2.2.2.2.2 default).no].length 8))))) fun _ =>
 .fin (.inr (i2.1,i2.2.1,i2.2.2.1++[(moves.getD i2.2.2.2.2 default).no],i2.2.2.2.1)))
 (.br (((moves.getD i2.2.2.2.2 default).kind) == 5)
 (.fin (.inr (i2.1,i2.2.1,i2.2.2.1,true)))
 (.br (((moves.getD i2.2.2.2.2 default).kind) == 4)
 (.bind true (fun b5=>b5.1=i2.2.2.1.filter (fun d=>i2.2.2.2.1||d == 0||d == 1||d == 2))
 (.loop (default:Sum (Sum (Sum (Sum (Sum (Int × (List Int)) (Int × (List Int))) (Int × (List Int) × (List Int) × Bool × Nat)) (Int × (List Int) × (List Int) × Bool)) (Int × (List Int) × (List Int) × Bool)) ((List Int) × Int)) (fun i6=>i6.2≤i2.2.2.1.length∧i6.1=(i2.2.2.1.take i6.2).filter (fun d=>i2.2.2.2.1||d == 0||d == 1||d == 2)) (fun i6=>i2.2.2.1.length - i6.2) (([],0):(List Int) × Nat)
 (fun (i6:(List Int) × Nat)=>⟨[(9,ow 100112 i6.1),(54,iv (i6.2:Int))],[(100112,jy 3 1 jA i6.1)]⟩) fun i6 =>
 .bnd 10 0 i2.2.2.1.length <|
 .br (decide ((i6.2:Int) < ((i2.2.2.1.length:Nat):Int)))
 (.r 16 (.andl (.p (ixP (i6.2:Int) i2.2.2.1.length)) (.p (i6.2 < i2.2.2.1.length))) fun _ =>
 .br (((i2.2.2.2.1||((i2.2.2.1.getD i6.2 default) == 0))||((i2.2.2.1.getD i6.2 default) == 1))||((i2.2.2.1.getD i6.2 default) == 2))
 (.r 18 (.andl (.o [.nrm (qt ky [i2.2.2.1.getD i6.2 default])]) (.andl (.o [.nrm (Ji ky i6.1 [i2.2.2.1.getD i6.2 default])]) (.andl (.t (ky.ones [i2.2.2.1.getD i6.2 default])) (.p (szP i6.1.length [i2.2.2.1.getD i6.2 default].length 8))))) fun _ =>
 .r 19 .z fun _ =>
 .wi 54 (w64 ((i6.2:Int)+1)) ((i6.2+1:Nat):Int) <|
 .fin (.inr (i6.1++[i2.2.2.1.getD i6.2 default],i6.2+1)))
 (.r 19 .z fun _ =>
 .wi 54 (w64 ((i6.2:Int)+1)) ((i6.2+1:Nat):Int) <|
 .fin (.inr (i6.1,i6.2+1))))
 (.fin (.inl (.inr (i6.1,(i6.2:Int))))))
 (fun (b5:(List Int) × Int)=>⟨[(9,ow 100111 b5.1),(54,iv b5.2)],[(100111,jy 3 1 jA b5.1)]⟩) fun b5 =>
 .fin (.inr ((moves.getD i2.2.2.2.2 default).day,b5.1,i2.2.2.1,i2.2.2.2.1)))
 (.fin (.inr (i2.1,i2.2.1,i2.2.2.1,i2.2.2.2.1))))))
 (fun (b4:Int × (List Int) × (List Int) × Bool)=>⟨[(8,iv b4.1),(9,ow 100108 b4.2.1),(10,ow 100109 b4.2.2.1),(11,bv b4.2.2.2)],[(100108,jy 3 1 jA b4.2.1),(100109,jy 3 1 jA b4.2.2.1)]⟩) fun b4 =>
 .fin (.inr (b4.1,b4.2.1,b4.2.2.1,b4.2.2.2))))
 (fun (b3:Int × (List Int) × (List Int) × Bool)=>⟨[(8,iv b3.1),(9,ow 100103 b3.2.1),(10,ow 100104 b3.2.2.1),(11,bv b3.2.2.2)],[(100103,jy 3 1 jA b3.2.1),(100104,jy 3 1 jA b3.2.2.1)]⟩) fun b3 =>
 .r 20 .z fun _ =>
 .wi 21 (w64 ((i2.2.2.2.2:Int)+1)) ((i2.2.2.2.2+1:Nat):Int) <|
 .fin (.inr (b3.1,b3.2.1,b3.2.2.1,b3.2.2.2,i2.2.2.2.2+1)))
 (.fin (.inl (.inr (i2.1,i2.2.1)))))
 (fun (b1:Int × (List Int))=>⟨[(8,iv b1.1),(9,ow 100056 b1.2)],[(100056,jy 3 1 jA b1.2)]⟩) fun b1 =>
 .fin (b1.1,b1.2)
def QU (s:jN) (suit:Int) (moves:List Move) (errors:List Int):Int × (List Int):=(zK s suit moves errors).val
theorem zba (s:jN) (suit:Int) (moves:List Move) (errors:List Int):(zK s suit moves errors).pst (fun (x:Int × (List Int))=>x=((Ul suit (s.kind == 1) moves errors moves.length).1,(Ul suit (s.kind == 1) moves errors moves.length).2.1)):=by
 refine Sk.pst_of _ ?_
 unfold zK
 simp only [Sk.pstq,Sk.isLoop,reduceCtorEq,ON,kk,maxLen]
 all_goals simp only [LN] at *
 have fl:∀ (p:Int→Bool) (l:List Int) (n:Nat),n < l.length→(l.take (n+1)).filter p=(l.take n).filter p++if p (l.getD n default)=true then [l.getD n default] else []:=fun p l n h=>by
  rw [Kb h,List.filter_append]; simp [List.filter_cons]
 refine ⟨⟨⟨Nat.zero_le _,rfl⟩,fun i hi=>⟨fun hlt=>⟨fun _ _=>⟨fun h=>?_,fun h=>⟨⟨fun h1 _=>?_,fun h1=>⟨fun h5=>?_,fun h5=>⟨fun h4=>⟨⟨⟨Nat.zero_le _,by simp⟩,fun j hj=>⟨fun hl _=>⟨fun hp _ _=>⟨⟨by omega,?_⟩,by omega⟩,fun hp _=>⟨⟨by omega,?_⟩,by omega⟩⟩,fun hg=>?_⟩⟩,fun b hb=>?_⟩,fun h4=>?_⟩⟩⟩,fun b _ hb=>hb⟩⟩,fun b _ hb _=>⟨⟨by omega,?_⟩,by omega⟩⟩,fun hge=>?_⟩⟩,fun b hb=>?_⟩
 ·unfold yB; rw [if_pos h]
 ·unfold yB; rw [if_neg (fun q=>q.elim (fun a=>a h.1) (fun a=>a h.2)),if_pos h1]
 ·unfold yB; rw [if_neg (fun q=>q.elim (fun a=>a h.1) (fun a=>a h.2)),if_neg h1,if_pos h5]
 ·rw [fl _ _ _ (by omega),← hj.2,if_pos (by simpa only [Bool.or_eq_true,beq_iff_eq] using hp)]
 ·rw [fl _ _ _ (by omega),← hj.2,if_neg (by simp only [Bool.or_eq_true,beq_iff_eq]; rw [hp.1.1.1]; simp only [reduceCtorEq,false_or]; rintro ((q | q) | q); exact hp.1.1.2 q; exact hp.1.2 q; exact hp.2 q),List.append_nil]
 ·rw [hj.2,List.take_of_length_le (by omega)]
 ·unfold yB; rw [if_neg (fun q=>q.elim (fun a=>a h.1) (fun a=>a h.2)),if_neg h1,if_neg h5,if_pos h4,hb]
 ·unfold yB; rw [if_neg (fun q=>q.elim (fun a=>a h.1) (fun a=>a h.2)),if_neg h1,if_neg h5,if_neg h4]
 ·simp only [Ul]
  rw [hi.2]
  exact hb.symm
 ·have e:i.2.2.2.2=moves.length:=by omega
  have h:=hi.2
  rw [e] at h
  rw [h]; exact ⟨rfl,rfl⟩
 ·rw [hb.1,hb.2]
theorem BL (s:jN) (suit:Int) (moves:List Move) (errors:List Int):(fun (x:Int × (List Int))=>x=((Ul suit (s.kind == 1) moves errors moves.length).1,(Ul suit (s.kind == 1) moves errors moves.length).2.1)) (QU s suit moves errors):=have h:=Sk.pval _ (zba s suit moves errors); h
theorem zco (s:jN) (suit:Int) (moves:List Move) (errors:List Int) (he:errors.length=moves.length) (hm:moves.length≤1000):(zK s suit moves errors).obs (fun _=>True):=by
 refine Sk.obs_of _ ?_
 unfold zK
 simp only [Sk.obq,Sk.isLoop,reduceCtorEq,ON,kk,maxLen]
 all_goals simp only [LN] at *
 have fl:∀ (p:Int→Bool) (l:List Int) (n:Nat),n < l.length→(l.take (n+1)).filter p=(l.take n).filter p++if p (l.getD n default)=true then [l.getD n default] else []:=fun p l n h=>by
  rw [Kb h,List.filter_append]; simp [List.filter_cons]
 have wi:∀ n:Nat,n≤1000→w64 ((n:Int)+1)=((n+1:Nat):Int):=fun n h=>by rw [jj (by omega) (by omega)]; omega
 refine ⟨⟨Nat.zero_le _,rfl⟩,fun i hi _=>?_⟩
 have hr:=(zqm suit (s.kind == 1) moves errors i.2.2.2.2).1
 rw [hi.2] at hr
 simp only at hr
 refine ⟨fun hlt=>⟨⟨⟨by omega,by omega⟩,fun _=>⟨⟨by omega,by omega⟩,fun _=>⟨fun h=>?_,fun h=>⟨⟨fun h1=>⟨⟨by omega,by omega⟩,fun _=>?_⟩,fun h1=>⟨fun h5=>?_,fun h5=>⟨fun h4=>⟨⟨⟨Nat.zero_le _,by simp⟩,fun j hj _=>⟨fun hl=>⟨⟨⟨by omega,by omega⟩,by omega⟩,fun _=>⟨fun hp=>⟨?_,fun _ _=>⟨wi _ (by omega),⟨by omega,?_⟩,by omega⟩⟩,fun hp _=>⟨wi _ (by omega),⟨by omega,?_⟩,by omega⟩⟩⟩,fun hg=>?_⟩⟩,fun b hb=>?_⟩,fun h4=>?_⟩⟩⟩,fun b _ hb=>hb⟩⟩⟩⟩,fun b _ hb _=>⟨wi _ (by omega),⟨by omega,?_⟩,by omega⟩⟩,fun hge=>?_⟩
 ·unfold yB; rw [if_pos h]
 ·unfold yB; rw [if_neg (fun q=>q.elim (fun a=>a h.1) (fun a=>a h.2)),if_pos h1]
 ·unfold yB; rw [if_neg (fun q=>q.elim (fun a=>a h.1) (fun a=>a h.2)),if_neg h1,if_pos h5]
 ·have h9:j.1.length≤j.2:=by
   rw [hj.2]
   refine Nat.le_trans (List.length_filter_le _ _) ?_
   rw [List.length_take]; omega
  omega
 ·rw [fl _ _ _ (by omega),← hj.2,if_pos (by simpa only [Bool.or_eq_true,beq_iff_eq] using hp)]
 ·rw [fl _ _ _ (by omega),← hj.2,if_neg (by simp only [Bool.or_eq_true,beq_iff_eq]; rw [hp.1.1.1]; simp only [reduceCtorEq,false_or]; rintro ((q | q) | q); exact hp.1.1.2 q; exact hp.1.2 q; exact hp.2 q),List.append_nil]
 ·rw [hj.2,List.take_of_length_le (by omega)]
 ·unfold yB; rw [if_neg (fun q=>q.elim (fun a=>a h.1) (fun a=>a h.2)),if_neg h1,if_neg h5,if_pos h4,hb]
 ·unfold yB; rw [if_neg (fun q=>q.elim (fun a=>a h.1) (fun a=>a h.2)),if_neg h1,if_neg h5,if_neg h4]
 ·simp only [Ul]
  rw [hi.2]
  exact hb.symm
 ·have e:i.2.2.2.2=moves.length:=by omega
  have h:=hi.2
  rw [e] at h
  rw [h]; exact ⟨rfl,rfl⟩
def ZL (s:jN) (suit:Int) (moves:List Move) (errors:List Int):Ctr (Int × (List Int)):=kk tok mixed Tryz.func24 [av s.cells,iv suit,lv Move.cells moves,lv jA errors] (fun x=>.tup [iv x.1,lv jA x.2]) false (zK s suit moves errors) (QU s suit moves errors) (fun (h:(errors.length=moves.length)∧(moves.length≤1000))=>zco s suit moves errors h.1 h.2) (fun (x:Int × (List Int))=>x=((Ul suit (s.kind == 1) moves errors moves.length).1,(Ul suit (s.kind == 1) moves errors moves.length).2.1)) (BL s suit moves errors)
structure Claim where
 debtor:Int
 creditor:Int
 part:Int
 sign:Int
 by_:Int
 turn:Int
 sum:Int
 currency:Int
 state:Int
 deriving Inhabited
def Claim.cells (c:Claim):List D:=[dI c.debtor,dI c.creditor,dI c.part,dI c.sign,dI c.by_,dI c.turn,dI c.sum,dI c.currency,dI c.state]
def Claim.E:Enc Claim:=⟨Claim.cells,9,fun _=>rfl,fun _=>rfl⟩
def gG (i:Int) (n:Int):Sk (Bool) :=
 .fin ((decide (i≥0))&&(decide (i < n)))
def FO (i:Int) (n:Int):Bool:=(gG i n).val
theorem uz (i:Int) (n:Int):FO i n=((decide (i≥0))&&(decide (i < n))):=rfl
theorem zch (i:Int) (n:Int):(gG i n).obs (fun _=>True):=by
 unfold gG
 exact okE
def qe (i:Int) (n:Int):Ctr (Bool):=kk tok mixed Tryz.func70 [iv i,iv n] (fun x=>bv x) true (gG i n) (FO i n) (fun (_:True)=>zch i n)
def uJ (f:jh) (day:Int):Sk (jh) :=
 .bind true (fun b1=>b1.length≤f.signs.length)
 (.loop (default:Sum (jh) ((List ql))) (fun i2=>i2.2.length≤i2.1∧i2.1≤f.signs.length) (fun i2=>f.signs.length - i2.1) ((0,[]):Nat × (List ql))
 (fun (i2:Nat × (List ql))=>⟨[(20,iv (i2.1:Int))],[(100002,jy 147 9 ql.cells i2.2),(5,.box (f.bill.cells.map .d++[ow 100002 i2.2]++[nv,nv,nv]))]⟩) fun i2 =>
 .bnd 18 0 f.signs.length <|
 .br (decide ((i2.1:Int) < ((f.signs.length:Nat):Int)))
 (.r 4 (.p (ixP (i2.1:Int) f.signs.length)) fun _ =>
 .br (decide (((f.signs.getD i2.1 default).day) > day))
 (.fin (.inl (.inr i2.2)))
 (.r 6 (.andl (.o [.nrm (qt ql.E [f.signs.getD i2.1 default])]) (.andl (.o [.nrm (Ji ql.E i2.2 [f.signs.getD i2.1 default])]) (.andl (.t (ql.E.ones [f.signs.getD i2.1 default])) (.p (szP i2.2.length [f.signs.getD i2.1 default].length 72))))) fun _ =>
 .r 7 .z fun _ =>
 .wi 20 (w64 ((i2.1:Int)+1)) ((i2.1+1:Nat):Int) <|
 .fin (.inr (i2.1+1,i2.2++[f.signs.getD i2.1 default]))))
 (.fin (.inl (.inr i2.2))))
 (fun (b1:(List ql))=>⟨[],[(100001,jy 147 9 ql.cells b1),(5,.box (f.bill.cells.map .d++[ow 100001 b1]++[nv,nv,nv]))]⟩) fun b1 =>
 .bind true (fun b3=>b3.length≤f.acts.length)
 (.loop (default:Sum (jh) ((List jE))) (fun i4=>i4.2.length≤i4.1∧i4.1≤f.acts.length) (fun i4=>f.acts.length - i4.1) ((0,[]):Nat × (List jE))
 (fun (i4:Nat × (List jE))=>⟨[(38,iv (i4.1:Int))],[(100005,jy 108 9 jE.cells i4.2),(5,.box (f.bill.cells.map .d++[ow 100001 b1]++[nv,ow 100005 i4.2]++[nv]))]⟩) fun i4 =>
 .bnd 36 0 f.acts.length <|
 .br (decide ((i4.1:Int) < ((f.acts.length:Nat):Int)))
 (.r 10 (.p (ixP (i4.1:Int) f.acts.length)) fun _ =>
 .br (decide (((f.acts.getD i4.1 default).day) > day))
 (.fin (.inl (.inr i4.2)))
 (.r 12 (.andl (.o [.nrm (qt jE.E [f.acts.getD i4.1 default])]) (.andl (.o [.nrm (Ji jE.E i4.2 [f.acts.getD i4.1 default])]) (.andl (.t (jE.E.ones [f.acts.getD i4.1 default])) (.p (szP i4.2.length [f.acts.getD i4.1 default].length 72))))) fun _ =>
 .r 13 .z fun _ =>
 .wi 38 (w64 ((i4.1:Int)+1)) ((i4.1+1:Nat):Int) <|
 .fin (.inr (i4.1+1,i4.2++[f.acts.getD i4.1 default]))))
 (.fin (.inl (.inr i4.2))))
 (fun (b3:(List jE))=>⟨[],[(100004,jy 108 9 jE.cells b3),(5,.box (f.bill.cells.map .d++[ow 100001 b1]++[nv,ow 100004 b3]++[nv]))]⟩) fun b3 =>
 .bind true (fun b5=>b5.length≤f.alters.length)
 (.loop (default:Sum (jh) ((List kw))) (fun i6=>i6.2.length≤i6.1∧i6.1≤f.alters.length) (fun i6=>f.alters.length - i6.1) ((0,[]):Nat × (List kw))
 (fun (i6:Nat × (List kw))=>⟨[(56,iv (i6.1:Int))],[(100008,jy 102 2 kw.cells i6.2),(5,.box (f.bill.cells.map .d++[ow 100001 b1,ow 100008 i6.2,ow 100004 b3]++[nv]))]⟩) fun i6 =>
 .bnd 54 0 f.alters.length <|
 .br (decide ((i6.1:Int) < ((f.alters.length:Nat):Int)))
 (.r 16 (.p (ixP (i6.1:Int) f.alters.length)) fun _ =>
 .br (decide (((f.alters.getD i6.1 default).at_)≤((b1.length:Nat):Int)))
 (.r 18 (.andl (.o [.nrm (qt kw.E [f.alters.getD i6.1 default])]) (.andl (.o [.nrm (Ji kw.E i6.2 [f.alters.getD i6.1 default])]) (.andl (.t (kw.E.ones [f.alters.getD i6.1 default])) (.p (szP i6.2.length [f.alters.getD i6.1 default].length 16))))) fun _ =>
 .r 19 .z fun _ =>
 .wi 56 (w64 ((i6.1:Int)+1)) ((i6.1+1:Nat):Int) <|
 .fin (.inr (i6.1+1,i6.2++[f.alters.getD i6.1 default])))
 (.r 19 .z fun _ =>
 .wi 56 (w64 ((i6.1:Int)+1)) ((i6.1+1:Nat):Int) <|
 .fin (.inr (i6.1+1,i6.2))))
 (.fin (.inl (.inr i6.2))))
 (fun (b5:(List kw))=>⟨[],[(100007,jy 102 2 kw.cells b5),(5,.box (f.bill.cells.map .d++[ow 100001 b1,ow 100007 b5,ow 100004 b3]++[nv]))]⟩) fun b5 =>
 .bind true (fun b7=>b7.length≤f.facts.length)
 (.loop (default:Sum (jh) ((List vF))) (fun i8=>i8.2.length≤i8.1∧i8.1≤f.facts.length) (fun i8=>f.facts.length - i8.1) ((0,[]):Nat × (List vF))
 (fun (i8:Nat × (List vF))=>⟨[(76,iv (i8.1:Int))],[(100011,jy 72 3 vF.cells i8.2),(5,.box (f.bill.cells.map .d++[ow 100001 b1,ow 100007 b5,ow 100004 b3,ow 100011 i8.2]))]⟩) fun i8 =>
 .bnd 74 0 f.facts.length <|
 .br (decide ((i8.1:Int) < ((f.facts.length:Nat):Int)))
 (.r 22 (.p (ixP (i8.1:Int) f.facts.length)) fun _ =>
 .r 23 ((qe ((f.facts.getD i8.1 default).at_) ((b1.length:Nat):Int)).c) fun x9 =>
 .br x9
 (.r 24 (.andl (.o [.nrm (qt vF.E [f.facts.getD i8.1 default])]) (.andl (.o [.nrm (Ji vF.E i8.2 [f.facts.getD i8.1 default])]) (.andl (.t (vF.E.ones [f.facts.getD i8.1 default])) (.p (szP i8.2.length [f.facts.getD i8.1 default].length 24))))) fun _ =>
 .r 25 .z fun _ =>
 .wi 76 (w64 ((i8.1:Int)+1)) ((i8.1+1:Nat):Int) <|
 .fin (.inr (i8.1+1,i8.2++[f.facts.getD i8.1 default])))
 (.r 25 .z fun _ =>
 .wi 76 (w64 ((i8.1:Int)+1)) ((i8.1+1:Nat):Int) <|
 .fin (.inr (i8.1+1,i8.2))))
 (.fin (.inl (.inr i8.2))))
 (fun (b7:(List vF))=>⟨[],[(100010,jy 72 3 vF.cells b7),(5,.box (f.bill.cells.map .d++[ow 100001 b1,ow 100007 b5,ow 100004 b3,ow 100010 b7]))]⟩) fun b7 =>
 .fin ({ f with signs:=b1,alters:=b5,acts:=b3,facts:=b7 })
def ji (f:jh) (day:Int):jh:=(uJ f day).val
theorem zhT (f:jh) (day:Int):(uJ f day).pst (fun (x:jh)=>x.signs.length≤f.signs.length∧x.acts.length≤f.acts.length∧x.alters.length≤f.alters.length∧x.facts.length≤f.facts.length):=by
 unfold uJ
 try simp only [qe,uz,jh.Small,jg.Small]
 exact okQ
theorem Uq (f:jh) (day:Int):(fun (x:jh)=>x.signs.length≤f.signs.length∧x.acts.length≤f.acts.length∧x.alters.length≤f.alters.length∧x.facts.length≤f.facts.length) (ji f day):=have h:=Sk.pval _ (zhT f day); h
theorem zjY (f:jh) (day:Int) (hf:f.Small):(uJ f day).obs (fun _=>True):=by
 simp only [jh.Small,jg.Small] at hf
 unfold uJ
 try simp only [qe,uz,jh.Small,jg.Small]
 exact okG
def jt (f:jh) (day:Int):Ctr (jh):=kk tok mixed Tryz.func46 [av f.cells,iv day] (fun x=>av x.cells) false (uJ f day) (ji f day) (fun (h:(f.Small))=>zjY f day h) (fun (x:jh)=>x.signs.length≤f.signs.length∧x.acts.length≤f.acts.length∧x.alters.length≤f.alters.length∧x.facts.length≤f.facts.length) (Uq f day)
theorem UV {α:Type} (p:α→Bool):∀ (l s:List α),l.foldl (fun s x=>bif p x then s++[x] else s) s=s++l.filter p
 | [],s=>by simp
 | x :: r,s=>by
  simp only [List.foldl_cons,List.filter_cons]
  cases h:p x with
  | true=>simp [UV p r]
  | false=>simp [UV p r]
theorem Bd {α β:Type} (p:α→Bool) (g:List α→β):∀ (l s:List α),walk (fun x s=>bif !(p x) then Sum.inl (g s) else Sum.inr (s++[x])) g l s=g (s++l.takeWhile p)
 | [],s=>by simp [walk]
 | x :: r,s=>by
  simp only [walk,List.takeWhile_cons]
  cases h:p x with
  | true =>
   show walk (fun x s=>bif !(p x) then Sum.inl (g s) else Sum.inr (s++[x])) g r (s++[x])=_
   rw [Bd p g r (s++[x])]
   simp
  | false=>simp
theorem KQ (f:jh) (day:Int):ji f day=jh.mk f.bill (f.signs.takeWhile (fun s=>decide (s.day≤day)))
  (f.alters.filter (fun a=>decide (a.at_≤((f.signs.takeWhile (fun s=>decide (s.day≤day))).length:Int)))) (f.acts.takeWhile (fun a=>decide (a.day≤day)))
  (f.facts.filter (fun x=>decide (x.at_≥0)&&decide (x.at_ < ((f.signs.takeWhile (fun s=>decide (s.day≤day))).length:Int)))):=by
 simp only [ji,uJ,Sk.val_bind,Sk.val_loop,Sk.val_bnd,Sk.val_br,Sk.val_r,Sk.val_wi,Sk.val_fin,Ctr.c_v,kk,qe,uz]
 have h1:∀ (n:Nat) (d:jh ⊕ List ql),f.signs.length < n→iter (fun i2:Nat × List ql=>bif decide ((i2.1:Int) < (f.signs.length:Int)) then (bif decide ((f.signs.getD i2.1 default).day > day) then (Sum.inl (Sum.inr i2.2)) else (Sum.inr (i2.1+1,i2.2++[f.signs.getD i2.1 default]))) else Sum.inl (Sum.inr i2.2)) d n (0,[])=(Sum.inr (f.signs.takeWhile (fun s=>decide (s.day≤day))):jh ⊕ List ql):=by
  intro n d hn
  rw [Qv f.signs (fun s i=>(i,s)) (fun x s=>bif !(decide (x.day≤day)) then Sum.inl (Sum.inr s) else Sum.inr (s++[x])) (fun s=>Sum.inr s) (fun s i hi=>?_) (fun s=>?_) hn []]
  ·exact Bd _ (fun s=>(Sum.inr s:jh ⊕ List ql)) f.signs []
  ·rw [decide_eq_true (by omega),cond_true]
   by_cases c:(f.signs.getD i default).day > day
   ·rw [decide_eq_true c,decide_eq_false (by omega)]; rfl
   ·rw [decide_eq_false c,decide_eq_true (by omega)]; rfl
  ·rw [decide_eq_false (by omega),cond_false]
 rw [h1 _ _ (by simp)]
 have h2:∀ (n:Nat) (d:jh ⊕ List jE),f.acts.length < n→iter (fun i2:Nat × List jE=>bif decide ((i2.1:Int) < (f.acts.length:Int)) then (bif decide ((f.acts.getD i2.1 default).day > day) then (Sum.inl (Sum.inr i2.2)) else (Sum.inr (i2.1+1,i2.2++[f.acts.getD i2.1 default]))) else Sum.inl (Sum.inr i2.2)) d n (0,[])=(Sum.inr (f.acts.takeWhile (fun s=>decide (s.day≤day))):jh ⊕ List jE):=by
  intro n d hn
  rw [Qv f.acts (fun s i=>(i,s)) (fun x s=>bif !(decide (x.day≤day)) then Sum.inl (Sum.inr s) else Sum.inr (s++[x])) (fun s=>Sum.inr s) (fun s i hi=>?_) (fun s=>?_) hn []]
  ·exact Bd _ (fun s=>(Sum.inr s:jh ⊕ List jE)) f.acts []
  ·rw [decide_eq_true (by omega),cond_true]
   by_cases c:(f.acts.getD i default).day > day
   ·rw [decide_eq_true c,decide_eq_false (by omega)]; rfl
   ·rw [decide_eq_false c,decide_eq_true (by omega)]; rfl
  ·rw [decide_eq_false (by omega),cond_false]
 simp only [VC]
 rw [h2 _ _ (by simp)]
 simp only [VC]
 generalize f.signs.takeWhile (fun s=>decide (s.day≤day))=b1
 have h3:∀ (n:Nat) (d:jh ⊕ List kw),f.alters.length < n→iter (fun i2:Nat × List kw=>bif decide ((i2.1:Int) < (f.alters.length:Int)) then (bif decide ((f.alters.getD i2.1 default).at_≤(b1.length:Int)) then (Sum.inr (i2.1+1,i2.2++[f.alters.getD i2.1 default])) else (Sum.inr (i2.1+1,i2.2))) else Sum.inl (Sum.inr i2.2)) d n (0,[])=(Sum.inr (f.alters.filter (fun a=>decide (a.at_≤(b1.length:Int)))):jh ⊕ List kw):=by
  intro n d hn
  rw [Qv f.alters (fun s i=>(i,s)) (fun x s=>Sum.inr (bif decide (x.at_≤(b1.length:Int)) then s++[x] else s)) (fun s=>Sum.inr s) (fun s i hi=>?_) (fun s=>?_) hn []]
  ·rw [Ge (fun (x:kw) s=>bif decide (x.at_≤(b1.length:Int)) then s++[x] else s),UV]; rfl
  ·rw [decide_eq_true (by omega),cond_true]
   cases decide ((f.alters.getD i default).at_≤(b1.length:Int)) <;> rfl
  ·rw [decide_eq_false (by omega),cond_false]
 rw [h3 _ _ (by simp)]
 simp only [VC]
 have h4:∀ (n:Nat) (d:jh ⊕ List vF),f.facts.length < n→iter (fun i2:Nat × List vF=>bif decide ((i2.1:Int) < (f.facts.length:Int)) then (bif (decide ((f.facts.getD i2.1 default).at_≥0)&&decide ((f.facts.getD i2.1 default).at_ < (b1.length:Int))) then (Sum.inr (i2.1+1,i2.2++[f.facts.getD i2.1 default])) else (Sum.inr (i2.1+1,i2.2))) else Sum.inl (Sum.inr i2.2)) d n (0,[])=(Sum.inr (f.facts.filter (fun a=>decide (a.at_≥0)&&decide (a.at_ < (b1.length:Int)))):jh ⊕ List vF):=by
  intro n d hn
  rw [Qv f.facts (fun s i=>(i,s)) (fun x s=>Sum.inr (bif (decide (x.at_≥0)&&decide (x.at_ < (b1.length:Int))) then s++[x] else s)) (fun s=>Sum.inr s) (fun s i hi=>?_) (fun s=>?_) hn []]
  ·rw [Ge (fun (x:vF) s=>bif (decide (x.at_≥0)&&decide (x.at_ < (b1.length:Int))) then s++[x] else s),UV]; rfl
  ·rw [decide_eq_true (by omega),cond_true]
   cases (decide ((f.facts.getD i default).at_≥0)&&decide ((f.facts.getD i default).at_ < (b1.length:Int))) <;> rfl
  ·rw [decide_eq_false (by omega),cond_false]
 rw [h4 _ _ (by simp)]
 rfl
theorem XQ {α:Type} [Inhabited α] (p:α→Bool):∀ (l:List α) (i:Nat),i < (l.takeWhile p).length→(l.takeWhile p).getD i default=l.getD i default∧i < l.length∧p (l.getD i default)=true
 | [],i,h=>by simp at h
 | x :: r,i,h=>by
  rw [List.takeWhile_cons] at h ⊢
  cases hp:p x with
  | false=>rw [hp] at h; simp at h
  | true =>
   rw [hp] at h
   simp only [if_true,List.length_cons] at h ⊢
   cases i with
   | zero=>exact ⟨rfl,by simp,hp⟩
   | succ i =>
    have:=XQ p r i (by omega)
    exact ⟨by simpa using this.1,by simpa using this.2.1,by simpa using this.2.2⟩
structure kM where
 all:jh
 now:jh
 day:Int
 lead:List Int
 deriving Inhabited
def kM.cells (c:kM):List D:=c.all.cells++c.now.cells++[dI c.day,slD jA c.lead]
def kM.E:Enc kM:=⟨kM.cells,40,fun _=>rfl,fun _=>rfl⟩
def kM.BaseOK (v:kM):Prop:=∀ i,i < v.now.signs.length→((v.now.signs.getD i default).kind=3∨(v.now.signs.getD i default).kind=4)→0≤(v.now.signs.getD i default).for_∧(v.now.signs.getD i default).for_ < (i:Int)
structure kV where
 view:kM
 r:jg
 forum:Int
 due:Int
 deriving Inhabited
def kV.cells (c:kV):List D:=c.view.cells++c.r.cells++[dI c.forum,dI c.due]
def kV.E:Enc kV:=⟨kV.cells,50,fun _=>rfl,fun _=>rfl⟩
end
end Go.Proofs.YtilbddpghnnmhaaGreatDoor
