/- Functions, as sketches. -/
import Derived.Test.YtcpmocecjgipbaaGreatDoorLg
set_option linter.unusedSimpArgs false
set_option linter.unusedVariables false
set_option maxHeartbeats 1000000
set_option maxRecDepth 100000
namespace Go.Proofs.YtcpmocecjgipbaaGreatDoor
noncomputable section
open Go Go.Av
def lE (b:jT):Sk (Bool) :=
 .bind false (fun _=>True)
 (.br (b.aE.kind == 0)
 (.fin (.inr (b.aE.kind == 0)))
 (.fin (.inr (b.aE.kind == 4))))
 (fun (b1:Bool)=>⟨[(8,bv b1)],[]⟩) fun b1 =>
 .br b1
 (.fin ((b.aE.n == 0)&&(b.aE.unit == 0)))
 (.bind false (fun _=>True)
 (.br (b.aE.kind == 1)
 (.fin (.inr (b.aE.kind == 1)))
 (.fin (.inr (b.aE.kind == 2))))
 (fun (b2:Bool)=>⟨[(19,bv b2)],[]⟩) fun b2 =>
 .br b2
 (.fin (((decide (b.aE.n≥1))&&(decide (b.aE.n≤400)))&&((b.aE.unit == 0)||(b.aE.unit == 1))))
 (.br (b.aE.kind == 3)
 (.fin (((decide (b.aE.n≥b.day))&&(decide (b.aE.n≤100000)))&&(b.aE.unit == 0)))
 (.fin false)))
def Jg b:=(lE b).val
theorem Du (b:jT):(lE b).bE (fun _=>True):=by
 unfold lE
 exact mY
def qv b:=kk tok mixed Tryz.func76 [av b.cells] (fun x=>bv x) true (lE b) (Jg b) (u0 (Du b))
def gD (r:af) (b:jT):Sk (Int) :=
 .r 1 ((iO r).c) fun x1 =>
 .br (x1 != 0)
 (.fin x1)
 (.r 5 (.dep ((dY b.CV ((r.bg.length:Nat):Int)).c) fun x2=>.dep (.wh x2 true ((dY b.vo ((r.bg.length:Nat):Int)).c)) fun x3=>.dep (.wh (x2&&x3) true (.wh (b.gU == (-1)) false ((dY b.gU ((r.bg.length:Nat):Int)).c))) fun x4=>.wh ((x2&&x3)&&((b.gU == (-1))||x4)) true (.wh (b.need == (-1)) false ((dY b.need ((r.bg.length:Nat):Int)).c))) fun GM =>
 .r 6 (.dep (.wh (!(((GM.1&&GM.2.1)&&((b.gU == (-1))||GM.2.2.1))&&((b.need == (-1))||GM.2.2.2))) false ((dY b.aq ((r.aX.length:Nat):Int)).c)) fun x6=>.dep (.wh ((!(((GM.1&&GM.2.1)&&((b.gU == (-1))||GM.2.2.1))&&((b.need == (-1))||GM.2.2.2)))||(!x6)) false ((dY b.aJ ((r.aC.length:Nat):Int)).c)) fun x7=>.wh (((!(((GM.1&&GM.2.1)&&((b.gU == (-1))||GM.2.2.1))&&((b.need == (-1))||GM.2.2.2)))||(!x6))||(!x7)) false ((dY b.qC ((r.aC.length:Nat):Int)).c)) fun Ew =>
 .br ((((!(((GM.1&&GM.2.1)&&((b.gU == (-1))||GM.2.2.1))&&((b.need == (-1))||GM.2.2.2)))||(!Ew.1))||(!Ew.2.1))||(!Ew.2.2))
 (.fin 1)
 (.br ((((((decide (b.sum < 1))||(decide (b.sum > 1099511627776)))||(decide (b.day < 0)))||(decide (b.day > 100000)))||(decide (b.zd < 0)))||(decide (b.zd > 1000)))
 (.fin 3)
 (.br ((decide (b.parts < 1))||(decide (b.parts > 4)))
 (.fin 15)
 (.r 12 (.wh (((decide (b.flags < 0))||(decide (b.flags > 7)))||(((c9 .i64 b.flags 4) != 0)&&(b.gU == (-1)))) false ((qv b).c)) fun x9 =>
 .br ((((decide (b.flags < 0))||(decide (b.flags > 7)))||(((c9 .i64 b.flags 4) != 0)&&(b.gU == (-1))))||(!x9))
 (.fin 2)
 (.br (b.aE.kind == 4)
 (.r 15 ((kW r b.aJ b.qC).c) fun C0 =>
 .fin C0.2)
 (.fin 0))))))
def pj r b:=(gD r b).val
theorem B0 (r:af) (b:jT):(gD r b).dz (fun (x:Int)=>x=0→Nn r b∧(b.gU = -1∨(0≤b.gU∧b.gU < r.bg.length))):=by
 unfold gD
 try simp only [iO,kW,dY,qv,uS,aD.Small,af.Small,af.ba]
 exact Su
theorem Dv (r:af) (b:jT) (bG:r.Small):(gD r b).bE (fun _=>True):=by
 simp only [aD.Small,af.Small,af.ba] at bG
 unfold gD
 try simp only [iO,kW,dY,qv,uS,aD.Small,af.Small,af.ba]
 exact qJ
def mB r b:=kp tok mixed Tryz.func47 [av r.cells,av b.cells] (fun x=>iv x) true (pj r b) (Dv r b) (B0 r b)
def tl (n:Int) (low:Int) (high:Int):Sk (Bool) :=
 .fin ((decide (n≥low))&&(decide (n≤high)))
def NQ n low high:=(tl n low high).val
theorem eE (n:Int) (low:Int) (high:Int):NQ n low high=((decide (n≥low))&&(decide (n≤high))):=rfl
theorem NR (n:Int) (low:Int) (high:Int):(tl n low high).bE (fun _=>True):=by
 unfold tl
 exact mY
def bp n low high:=kk tok mixed Tryz.func49 [iv n,iv low,iv high] (fun x=>bv x) true (tl n low high) (NQ n low high) (u0 (NR n low high))
def mC (f:aD) (i:Int) (part:Int):Sk (Bool) :=
 .r 1 (.wh (i == 0) false (.p (bz i f.ai.length))) fun _ =>
 .fin ((i == 0)||(((f.ai.getD i.toNat default).part) == part))
def Lv f i part:=(mC f i part).val
theorem E3 (f:aD) (i:Int) (part:Int) (hi:i=0∨(0≤i∧i < (f.ai.length:Int))):(mC f i part).bE (fun _=>True):=by
 unfold mC
 exact oj
def jr f i part:=kk tok mixed Tryz.func121 [av f.cells,iv i,iv part] (fun x=>bv x) true (mC f i part) (Lv f i part) (E3 f i part)
def js (f:aD) (i:Int) (kinds:List Int):Sk (Bool) :=
 .r 1 (.p (bz i f.ai.length)) fun _ =>
 .r 2 (.dep ((bp ((f.ai.getD i.toNat default).for_) 0 (ar (i - 1))).c) fun x1=>.au (.wh x1 true (.p (bz i f.ai.length))) (.dep (.wh x1 true ((jr f ((f.ai.getD i.toNat default).for_) ((f.ai.getD i.toNat default).part)).c)) fun x2=>.au (.wh (x1&&x2) true (.p (bz ((f.ai.getD i.toNat default).for_) f.ai.length))) (.wh (x1&&x2) true ((bS kinds ((f.ai.getD (((f.ai.getD i.toNat default).for_).toNat) default).kind)).c)))) fun p4 =>
 .fin ((p4.1&&p4.2.1)&&p4.2.2)
def D5 f i kinds:=(js f i kinds).val
theorem E4 (f:aD) (i:Int) (kinds:List Int) (hP:(0≤i∧i < (f.ai.length:Int))∧f.ai.length≤40):(js f i kinds).dz (fun (x:Bool)=>x=true→0≤(f.ai.getD i.toNat default).for_∧(f.ai.getD i.toNat default).for_ < i):=by
 unfold js
 try simp only [bp,jr,bS,eE]
 exact Su
theorem Dw (f:aD) (i:Int) (kinds:List Int):(fun (x:Bool)=>((0≤i∧i < (f.ai.length:Int))∧f.ai.length≤40)→(x=true→0≤(f.ai.getD i.toNat default).for_∧(f.ai.getD i.toNat default).for_ < i)) (D5 f i kinds):=fun hP=>have h:=Sk.dA _ (E4 f i kinds hP); h
theorem Hr (f:aD) (i:Int) (kinds:List Int) (hi:0≤i∧i < (f.ai.length:Int)) (hf:f.ai.length≤1000000):(js f i kinds).bE (fun _=>True):=by
 unfold js
 try simp only [bp,jr,bS,eE]
 exact qJ
def pk f i kinds:=kk tok mixed Tryz.func120 [av f.cells,iv i,lv cM kinds] (fun x=>bv x) true (js f i kinds) (D5 f i kinds) (u2 (Hr f i kinds)) (fun (x:Bool)=>((0≤i∧i < (f.ai.length:Int))∧f.ai.length≤40)→(x=true→0≤(f.ai.getD i.toNat default).for_∧(f.ai.getD i.toNat default).for_ < i)) (Dw f i kinds)
def ka (r:af) (f:aD) (i:Int):Sk (Bool) :=
 .r 1 (.p (bz i f.ai.length)) fun _ =>
 .br ((!((i == 0) == (((f.ai.getD i.toNat default).kind) == 0)))||((((f.ai.getD i.toNat default).kind) != 2)&&(((f.ai.getD i.toNat default).bZ) != (-1))))
 (.fin false)
 (.br (((((f.ai.getD i.toNat default).kind) != 3)&&(((f.ai.getD i.toNat default).kind) != 4))&&(((f.ai.getD i.toNat default).for_) != (-1)))
 (.fin false)
 (.r 7 ((bp ((f.ai.getD i.toNat default).sum) 1 1099511627776).c) fun x1 =>
 .br (((f.ai.getD i.toNat default).kind) == 0)
 (.fin ((((((((f.ai.getD i.toNat default).nX) == f.aA.CV)&&(((f.ai.getD i.toNat default).sum) == 0))&&((O3 .i64 ((f.ai.getD i.toNat default).flags) 1) == 1))&&(((f.ai.getD i.toNat default).part) == 0))&&(((f.ai.getD i.toNat default).day) == f.aA.day))&&(((f.ai.getD i.toNat default).aJ) == f.aA.aJ)))
 (.br (((f.ai.getD i.toNat default).kind) == 1)
 (.fin ((((f.ai.getD i.toNat default).nX) == f.aA.vo)&&(x1&&(((f.ai.getD i.toNat default).flags) == 0))))
 (.br (((f.ai.getD i.toNat default).kind) == 2)
 (.r 15 (.dep ((bp ((f.ai.getD i.toNat default).bZ) (-1) (ar (((r.bg.length:Nat):Int) - 1))).c) fun x2=>.wh (x2&&(((f.ai.getD i.toNat default).sum) == 0)) true ((bp ((f.ai.getD i.toNat default).flags) 0 7).c)) fun p4 =>
 .fin (((p4.1&&(((f.ai.getD i.toNat default).sum) == 0))&&p4.2)&&((c9 .i64 ((f.ai.getD i.toNat default).flags) 6) != 6)))
 (.br (((f.ai.getD i.toNat default).kind) == 3)
 (.r 17 (.au (.wh ((((f.ai.getD i.toNat default).sum) == 0)&&(((f.ai.getD i.toNat default).flags) == 0)) true (.o [.dy (gr eZ [0,1,2,4])])) (.wh ((((f.ai.getD i.toNat default).sum) == 0)&&(((f.ai.getD i.toNat default).flags) == 0)) true ((pk f i [0,1,2,4]).c))) fun x5 =>
 .fin (((((f.ai.getD i.toNat default).sum) == 0)&&(((f.ai.getD i.toNat default).flags) == 0))&&x5))
 (.br (((f.ai.getD i.toNat default).kind) == 4)
 (.r 19 (.au (.wh ((x1&&(((f.ai.getD i.toNat default).flags) == 0))&&(((f.ai.getD i.toNat default).nX) != f.aA.vo)) true (.o [.dy (gr eZ [0,2])])) (.wh ((x1&&(((f.ai.getD i.toNat default).flags) == 0))&&(((f.ai.getD i.toNat default).nX) != f.aA.vo)) true ((pk f i [0,2]).c))) fun x6 =>
 .fin (((x1&&(((f.ai.getD i.toNat default).flags) == 0))&&(((f.ai.getD i.toNat default).nX) != f.aA.vo))&&x6))
 (.fin false)))))))
def Hs r f i:=(ka r f i).val
theorem Ht (r:af) (f:aD) (i:Int) (hP:(0≤i∧i < (f.ai.length:Int))∧f.ai.length≤40∧r.bg.length≤200):(ka r f i).dz (fun (x:Bool)=>x=true→Nm f i.toNat∧VG r f i.toNat):=by
 refine Sk.bq _ ?_
 unfold ka
 simp only [Sk.cV,Sk.aU,reduceCtorEq,ON,kk,kp,pk,bp,eE,forall_eq,maxLen]
 intro _ h1 h2
 obtain ⟨hi,hn,hr⟩:=hP
 have hw:ar ((r.bg.length:Int) - 1)=(r.bg.length:Int) - 1:=az (by omega) (by omega)
 rw [hw]
 unfold Nm VG La
 generalize f.ai.getD i.toNat default=s at *
 have MD:(s.kind=0↔i.toNat=0)∧(s.kind=2∨s.bZ = -1):=by
  by_cases a:i=0 <;> by_cases b:s.kind=0 <;> simp [a,b] at h1 ⊢ <;> omega
 clear h1
 obtain ⟨q1,q2⟩:=MD
 refine ⟨fun k0 h=>?_,fun k0=>⟨fun k1 h=>?_,fun k1=>⟨fun k2 h=>?_,fun k2=>⟨fun k3 hb h=>?_,fun k3 k4 hb h=>?_⟩⟩⟩⟩
 all_goals simp only [LN] at *
 ·exact ⟨⟨by omega,by omega,q1,by omega⟩,by omega⟩
 ·exact ⟨⟨by omega,by omega,q1,by omega⟩,by omega⟩
 ·exact ⟨⟨by omega,by omega,q1,by omega⟩,by omega⟩
 ·have:=hb ⟨hi,hn⟩ h.2
  exact ⟨⟨by omega,by omega,q1,fun _=>by omega⟩,by omega⟩
 ·have:=hb ⟨hi,hn⟩ h.2
  exact ⟨⟨by omega,by omega,q1,fun _=>by omega⟩,by omega⟩
theorem E5 (r:af) (f:aD) (i:Int):(fun (x:Bool)=>((0≤i∧i < (f.ai.length:Int))∧f.ai.length≤40∧r.bg.length≤200)→(x=true→Nm f i.toNat∧VG r f i.toNat)) (Hs r f i):=fun hP=>have h:=Sk.dA _ (Ht r f i hP); h
theorem Jh (r:af) (f:aD) (i:Int) (hi:0≤i∧i < (f.ai.length:Int)) (hf:f.ai.length≤1000000):(ka r f i).bE (fun _=>True):=by
 unfold ka
 try simp only [pk,bp,eE]
 exact qJ
def vN r f i:=kk tok mixed Tryz.func78 [av r.cells,av f.cells,iv i] (fun x=>bv x) true (ka r f i) (Hs r f i) (u2 (Jh r f i)) (fun (x:Bool)=>((0≤i∧i < (f.ai.length:Int))∧f.ai.length≤40∧r.bg.length≤200)→(x=true→Nm f i.toNat∧VG r f i.toNat)) (E5 r f i)
theorem Kk {α:Type} [Inhabited α] (L:List α) (n i:Nat) (h:i < n):(fI L 0 n).getD i default=L.getD i default:=by
 simp [fI,List.getD,h]
def kb (r:af) (f:aD) (i:Int):Sk (Int) :=
 .r 1 (.p (bz i f.ai.length)) fun _ =>
 .r 2 ((bp ((f.ai.getD i.toNat default).part) 0 (ar (f.aA.parts - 1))).c) fun x1 =>
 .br (!x1)
 (.fin 15)
 (.r 4 (.dep ((bp ((f.ai.getD i.toNat default).nX) 0 (ar (((r.bg.length:Nat):Int) - 1))).c) fun x2=>.wh (!x2) false ((bp ((f.ai.getD i.toNat default).aJ) 0 (ar (((r.aC.length:Nat):Int) - 1))).c)) fun p8 =>
 .br ((!p8.1)||(!p8.2))
 (.fin 1)
 (.r 7 (.au (.o [.dy (Uv Sign.E f.ai 0 i.toNat)]) (.pt (0≤i∧i≤((f.ai.length:Nat):Int)) (Sign.E.lens f.ai))) fun _ =>
 .bind true (fun b4=>b4.1=(if i.toNat=0 then f.aA.day else (f.ai.getD (i.toNat - 1) default).day))
 (.loop (default:Sum (Int) (Int × Bool)) (fun i5=>i5.2.2≤i.toNat∧i5.1=(if i5.2.2=0 then f.aA.day else (f.ai.getD (i5.2.2 - 1) default).day)) (fun i5=>(fI f.ai 0 i.toNat).length - i5.2.2) ((f.aA.day,false,0):Int × Bool × Nat)
 (fun (i5:Int × Bool × Nat)=>⟨[(8,iv i5.1),(9,bv i5.2.1),(51,iv (i5.2.2:Int))],[]⟩) fun i5 =>
 .lt 49 0 i5.2.2 ((fI f.ai 0 i.toNat).length)
 (.r 9 (.p (bz (i5.2.2:Int) ((fI f.ai 0 i.toNat).length))) fun _ =>
 .r 12 .z fun _ =>
 .wi 51 (ar ((i5.2.2:Int)+1)) ((i5.2.2+1:Nat):Int) <|
 .fin (.inr (((fI f.ai 0 i.toNat).getD i5.2.2 default).day,i5.2.1||(((((f.ai.getD i.toNat default).kind) == 1)&&((((fI f.ai 0 i.toNat).getD i5.2.2 default).kind) == 1))&&((((fI f.ai 0 i.toNat).getD i5.2.2 default).part) == ((f.ai.getD i.toNat default).part))),i5.2.2+1)))
 (.fin (.inl (.inr (i5.1,i5.2.1)))))
 (fun (b4:Int × Bool)=>⟨[(8,iv b4.1),(9,bv b4.2)],[]⟩) fun b4 =>
 .r 13 ((bp ((f.ai.getD i.toNat default).day) b4.1 100000).c) fun x6 =>
 .br ((!x6)||((i == 0)&&(((f.ai.getD i.toNat default).day) != b4.1)))
 (.fin 13)
 (.r 15 ((vN r f i).c) fun x7 =>
 .br (!x7)
 (.fin 14)
 (.br b4.2
 (.fin 5)
 (.fin 0)))))
def Hu r f i:=(kb r f i).val
theorem Hv (r:af) (f:aD) (i:Int) (hP:(0≤i∧i < (f.ai.length:Int))∧f.ai.length≤40∧r.bg.length≤200∧Nn r f.aA):(kb r f i).dz (fun (x:Int)=>x=0→Ka r f i.toNat∧VG r f i.toNat):=by
 refine Sk.bq _ ?_
 unfold kb
 simp only [Sk.cV,Sk.aU,reduceCtorEq,ON,kk,kp,vN,bp,eE,forall_eq,aD.Small,af.Small,maxLen]
 intro _
 obtain ⟨hi,hn,hr,hB⟩:=hP
 have YX:=hB.2.2.2.1
 refine ⟨fun _ h=>absurd h (by decide),fun UR=>⟨fun _ h=>absurd h (by decide),fun YZ _=>⟨⟨⟨by omega,by simp⟩,fun k hk=>⟨fun hc _ _=>⟨⟨?_,?_⟩,?_⟩,fun hc=>?_⟩⟩,fun b hb=>⟨fun _ h=>absurd h (by decide),fun hd hF=>⟨fun _ h=>absurd h (by decide),fun hf=>⟨fun _ h=>absurd h (by decide),fun _=>?_⟩⟩⟩⟩⟩⟩
 all_goals (try simp only [LN] at hc)
 ·omega
 ·rw [Kk _ _ _ (by omega),if_neg (by simp)]; rfl
 ·simp only [mX] at hc ⊢; omega
 ·have e:k.2.2=i.toNat:=by omega
  rw [hk.2,e]
 ·have hF:=hF ⟨hi,hn,hr⟩ (by simpa using hf)
  simp only [LN] at UR YZ hd
  obtain ⟨⟨w1,w2⟩,_⟩:=YZ
  obtain ⟨⟨d1,d2⟩,d3⟩:=hd
  rw [az (by omega) (by omega)] at w2 UR
  refine ⟨⟨⟨w1,by omega⟩,fun h0=>?_,d2,fun h0=>?_,UR,hF.1⟩,hF.2⟩
  ·rw [if_neg h0] at hb
   rw [← hb]; exact d1
  ·rw [if_pos h0] at hb
   rw [← hb]
   rcases d3 with d3 | d3
   ·omega
   ·exact d3
theorem E6 (r:af) (f:aD) (i:Int):(fun (x:Int)=>((0≤i∧i < (f.ai.length:Int))∧f.ai.length≤40∧r.bg.length≤200∧Nn r f.aA)→(x=0→Ka r f i.toNat∧VG r f i.toNat)) (Hu r f i):=fun hP=>have h:=Sk.dA _ (Hv r f i hP); h
theorem Ji (r:af) (f:aD) (i:Int) (hi:0≤i∧i < (f.ai.length:Int)) (hf:f.ai.length≤1000000) (hr:r.Small):(kb r f i).bE (fun _=>True):=by
 simp only [aD.Small,af.Small] at hr
 refine Sk.bm _ ?_
 unfold kb
 simp only [Sk.j2,Sk.aU,reduceCtorEq,ON,kk,kp,vN,bp,eE,forall_eq,aD.Small,af.Small,maxLen]
 refine ⟨hi,fun _ hp YZ=>⟨⟨hi.1,by omega⟩,fun _=>⟨⟨⟨by omega,by simp⟩,fun k hk hl=>⟨fun hc=>⟨⟨by omega,of_decide_eq_true hc⟩,fun _ _=>⟨?_,⟨⟨?_,?_⟩,?_⟩⟩⟩,fun hc=>?_⟩⟩,?_⟩⟩⟩
 all_goals (try simp only [LN] at hc)
 ·exact az (by simp only [mX] at hl; omega) (by simp only [mX] at hl; omega)
 ·omega
 ·rw [Kk _ _ _ (by omega),if_neg (by simp)]; rfl
 ·simp only [mX] at hc ⊢; omega
 ·have e:k.2.2=i.toNat:=by omega
  rw [hk.2,e]
 ·intro b hb hd
  exact ⟨hi,hf⟩
def vO r f i:=kk tok mixed Tryz.func48 [av r.cells,av f.cells,iv i] (fun x=>iv x) true (kb r f i) (Hu r f i) (u3 (Ji r f i)) (fun (x:Int)=>((0≤i∧i < (f.ai.length:Int))∧f.ai.length≤40∧r.bg.length≤200∧Nn r f.aA)→(x=0→Ka r f i.toNat∧VG r f i.toNat)) (E6 r f i)
def lF (r:af) (f:aD) (a:fB):Sk (Bool) :=
 .r 1 (.dep ((bp a.at_ 0 (ar (((f.ai.length:Nat):Int) - 1))).c) fun x1=>.wh x1 true ((jr f a.at_ a.part).c)) fun Ew =>
 .r 2 (.wh (Ew.1&&Ew.2) true (.p (bz a.at_ f.ai.length))) fun _ =>
 .r 3 ((bp a.bZ 0 (ar (((r.bg.length:Nat):Int) - 1))).c) fun x3 =>
 .r 4 ((bp a.nX 0 (ar (((r.bg.length:Nat):Int) - 1))).c) fun x4 =>
 .br ((!x4)||((a.kind != 4)&&(a.form != 0)))
 (.fin false)
 (.bind false (fun _=>True)
 (.br (a.kind == 0)
 (.fin (.inr (a.kind == 0)))
 (.br (a.kind == 1)
 (.fin (.inr (a.kind == 1)))
 (.fin (.inr (a.kind == 2)))))
 (fun (b5:Bool)=>⟨[(65,bv b5)],[]⟩) fun b5 =>
 .br b5
 (.fin ((x3&&(a.at_ == (-1)))&&(a.sum == 0)))
 (.bind false (fun _=>True)
 (.br (a.kind == 3)
 (.fin (.inr (a.kind == 3)))
 (.br (a.kind == 5)
 (.fin (.inr (a.kind == 5)))
 (.fin (.inr (a.kind == 4)))))
 (fun (b6:Bool)=>⟨[(80,bv b6)],[]⟩) fun b6 =>
 .br b6
 (.r 14 (.dep (.wh (x3&&(a.at_ == (-1))) true ((bp a.sum 0 1099511627776).c)) fun x7=>.wh ((x3&&(a.at_ == (-1)))&&x7) true ((bp a.form 0 1).c)) fun p9 =>
 .fin (((x3&&(a.at_ == (-1)))&&p9.1)&&p9.2))
 (.br (a.kind == 6)
 (.r 16 (.wh (x3&&((Ew.1&&Ew.2)&&(((f.ai.getD a.at_.toNat default).nX) == a.nX))) true ((bp a.sum 1 1099511627776).c)) fun C0 =>
 .fin ((x3&&((Ew.1&&Ew.2)&&(((f.ai.getD a.at_.toNat default).nX) == a.nX)))&&C0))
 (.br (a.kind == 9)
 (.fin (((a.bZ == (-1))&&((Ew.1&&Ew.2)&&(((f.ai.getD a.at_.toNat default).nX) == a.nX)))&&(a.sum == 0)))
 (.fin (((a.bZ == (-1))&&(Ew.1&&Ew.2))&&(a.sum == 0)))))))
def Kl r f a:=(lF r f a).val
theorem Jj (r:af) (f:aD) (a:fB) (hP:f.ai.length≤40):(lF r f a).dz (fun (x:Bool)=>x=true→(a.at_ = -1∨(0≤a.at_∧a.at_ < (f.ai.length:Int)))∧La a.sum∧(a.kind=6→0≤a.at_∧(f.ai.getD a.at_.toNat default).nX=a.nX)):=by
 unfold lF
 try simp only [bp,jr,eE]
 exact Su
theorem Hw (r:af) (f:aD) (a:fB):(fun (x:Bool)=>(f.ai.length≤40)→(x=true→(a.at_ = -1∨(0≤a.at_∧a.at_ < (f.ai.length:Int)))∧La a.sum∧(a.kind=6→0≤a.at_∧(f.ai.getD a.at_.toNat default).nX=a.nX))) (Kl r f a):=fun hP=>have h:=Sk.dA _ (Jj r f a hP); h
theorem Lw (r:af) (f:aD) (a:fB) (hf:f.ai.length≤1000000):(lF r f a).bE (fun _=>True):=by
 unfold lF
 try simp only [bp,jr,eE]
 exact qJ
def xW r f a:=kk tok mixed Tryz.func79 [av r.cells,av f.cells,av a.cells] (fun x=>bv x) true (lF r f a) (Kl r f a) (Lw r f a) (fun (x:Bool)=>(f.ai.length≤40)→(x=true→(a.at_ = -1∨(0≤a.at_∧a.at_ < (f.ai.length:Int)))∧La a.sum∧(a.kind=6→0≤a.at_∧(f.ai.getD a.at_.toNat default).nX=a.nX))) (Hw r f a)
def kd (r:af) (f:aD):Sk (Int) :=
 .bind true (fun b1=>∀ q,q < f.bo.length→CW f q)
 (.loop (default:Sum (Int) (Unit)) (fun i2=>i2≤f.bo.length∧∀ q,q < i2→CW f q) (fun i2=>f.bo.length - i2) (0:Nat)
 (fun (i2:Nat)=>⟨[(11,iv (i2:Int))],[]⟩) fun i2 =>
 .lt 9 0 i2 f.bo.length
 (.r 3 (.p (bz (i2:Int) f.bo.length)) fun _ =>
 .r 4 ((bp ((f.bo.getD i2 default).part) 0 (ar (f.aA.parts - 1))).c) fun x3 =>
 .br (!x3)
 (.fin (.inl (.inl 15)))
 (.r 6 (.dep ((bp ((f.bo.getD i2 default).aJ) 0 (ar (((r.aC.length:Nat):Int) - 1))).c) fun x4=>.wh (!x4) false ((bp ((f.bo.getD i2 default).kind) 0 9).c)) fun Sv =>
 .br ((!Sv.1)||(!Sv.2))
 (.fin (.inl (.inl 1)))
 (.r 8 ((xW r f (f.bo.getD i2 default)).c) fun x6 =>
 .br (!x6)
 (.fin (.inl (.inl 14)))
 (.bind false (fun b7=>f.aA.day≤b7∧(0≤(f.bo.getD i2 default).at_→(f.ai.getD (f.bo.getD i2 default).at_.toNat default).day≤b7))
 (.br (((f.bo.getD i2 default).at_) != (-1))
 (.r 12 (.p (bz ((f.bo.getD i2 default).at_) f.ai.length)) fun _ =>
 .fin (.inr (cp f.aA.day ((f.ai.getD (((f.bo.getD i2 default).at_).toNat) default).day))))
 (.fin (.inr f.aA.day)))
 (fun (b7:Int)=>⟨[(7,iv b7)],[]⟩) fun b7 =>
 .bind false (fun b8=>f.aA.day≤b8∧(0≤(f.bo.getD i2 default).at_→(f.ai.getD (f.bo.getD i2 default).at_.toNat default).day≤b8)∧(i2≠0→(f.bo.getD (i2 - 1) default).day≤b8))
 (.br (decide ((i2:Int) > 0))
 (.r 14 (.p (bz (ar ((i2:Int) - 1)) f.bo.length)) fun _ =>
 .fin (.inr (cp b7 ((f.bo.getD ((ar ((i2:Int) - 1)).toNat) default).day))))
 (.fin (.inr b7)))
 (fun (b8:Int)=>⟨[(7,iv b8)],[]⟩) fun b8 =>
 .r 15 ((bp ((f.bo.getD i2 default).day) b8 100000).c) fun x9 =>
 .br (!x9)
 (.fin (.inl (.inl 13)))
 (.nx 17 11 i2 (i2+1))))))
 (.fin (.inl (.inr ()))))
 (fun (_:Unit)=>⟨[],[]⟩) fun _ =>
 .fin 0
def Hx r f:=(kd r f).val
theorem Hy (r:af) (f:aD) (hP:f.ai.length≤40∧f.bo.length≤100):(kd r f).dz (fun (x:Int)=>x=0→∀ q,q < f.bo.length→CW f q):=by
 refine Sk.bq _ ?_
 unfold kd
 simp only [Sk.cV,Sk.aU,reduceCtorEq,ON,kk,kp,xW,bp,eE,forall_eq,maxLen]
 obtain ⟨hf,ha⟩:=hP
 refine ⟨⟨⟨by omega,fun q hq=>absurd hq (by omega)⟩,fun k hk=>⟨fun hc _=>⟨fun _ h=>absurd h (by decide),fun _=>⟨fun _ h=>absurd h (by decide),fun _ WB=>⟨fun _ h=>absurd h (by decide),fun ha2=>⟨⟨fun _ _=>⟨?_,fun _=>?_⟩,fun rA=>⟨Int.le_refl _,fun h=>?_⟩⟩,fun b _ hb=>⟨⟨fun MD _=>⟨?_,fun h=>?_,fun _=>?_⟩,fun MD=>⟨hb.1,hb.2,fun h=>?_⟩⟩,fun c _ Uf=>⟨fun _ h=>absurd h (by decide),fun hd _=>⟨⟨?_,fun q hq=>?_⟩,?_⟩⟩⟩⟩⟩⟩⟩,fun hc q hq=>hk.2 q (by simp only [LN] at hc; omega)⟩⟩,?_⟩
 all_goals (try simp only [LN] at hc)
 ·unfold cp; omega
 ·unfold cp; omega
 ·simp only [LN] at rA; omega
 ·have:=hb.1; unfold cp; omega
 ·have:=hb.2 h; unfold cp; omega
 ·simp only [LN] at MD
  have e:(ar ((k:Int) - 1)).toNat=k - 1:=by rw [az (by omega) (by omega)]; omega
  rw [e]; unfold cp; omega
 ·simp only [LN] at MD; omega
 ·omega
 ·simp only [LN] at hd
  by_cases e:q=k
  ·subst e
   have A:=WB hf (by simpa using ha2)
   exact ⟨A.2.1,⟨by omega,hd.2⟩,fun h=>by have:=Uf.2.2 h; omega,fun h6=>⟨⟨(A.2.2 h6).1,by have:=(A.2.2 h6).1; have:=A.1; omega⟩,by have:=Uf.2.1 (A.2.2 h6).1; omega,(A.2.2 h6).2⟩⟩
  ·exact hk.2 q (by omega)
 ·omega
 ·first | exact fun _ hb=>hb | exact fun _ hb _=>hb | trivial
theorem E7 (r:af) (f:aD):(fun (x:Int)=>(f.ai.length≤40∧f.bo.length≤100)→(x=0→∀ q,q < f.bo.length→CW f q)) (Hx r f):=fun hP=>have h:=Sk.dA _ (Hy r f hP); h
theorem Jk (r:af) (f:aD) (hf:f.ai.length≤40) (ha:f.bo.length≤1000000):(kd r f).bE (fun _=>True):=by
 refine Sk.bm _ ?_
 unfold kd
 simp only [Sk.j2,Sk.aU,reduceCtorEq,ON,kk,kp,xW,bp,eE,forall_eq,maxLen]
 refine ⟨⟨by omega,fun q hq=>absurd hq (by omega)⟩,fun k hk hl=>⟨fun hc=>⟨⟨by omega,of_decide_eq_true hc⟩,fun _ _ _=>⟨by omega,fun WB ha2=>⟨⟨fun rA=>⟨?_,fun _=>⟨?_,fun _=>?_⟩⟩,fun rA=>⟨Int.le_refl _,fun h=>?_⟩⟩,fun b _ hb=>⟨⟨fun MD=>⟨⟨?_,?_⟩,fun _=>⟨?_,fun h=>?_,fun _=>?_⟩⟩,fun MD=>⟨hb.1,hb.2,fun h=>?_⟩⟩,fun c _ Uf hd _=>⟨?_,⟨?_,fun q hq=>?_⟩,?_⟩⟩⟩⟩⟩,fun hc q hq=>hk.2 q (by simp only [LN] at hc; omega)⟩⟩
 all_goals (try simp only [LN] at hc)
 ·simp only [LN] at rA
  have:=(WB hf (by simpa using ha2)).1
  omega
 ·unfold cp; omega
 ·unfold cp; omega
 ·simp only [LN] at rA; omega
 ·simp only [LN] at MD; rw [az (by omega) (by omega)]; omega
 ·simp only [LN] at MD; rw [az (by omega) (by omega)]; omega
 ·have:=hb.1; unfold cp; omega
 ·have:=hb.2 h; unfold cp; omega
 ·simp only [LN] at MD
  have e:(ar ((k:Int) - 1)).toNat=k - 1:=by rw [az (by omega) (by omega)]; omega
  rw [e]; unfold cp; omega
 ·simp only [LN] at MD; omega
 ·exact az (by omega) (by omega)
 ·omega
 ·simp only [LN] at hd
  by_cases e:q=k
  ·subst e
   have A:=WB hf (by simpa using ha2)
   exact ⟨A.2.1,⟨by omega,hd.2⟩,fun h=>by have:=Uf.2.2 h; omega,fun h6=>⟨⟨(A.2.2 h6).1,by have:=(A.2.2 h6).1; have:=A.1; omega⟩,by have:=Uf.2.1 (A.2.2 h6).1; omega,(A.2.2 h6).2⟩⟩
  ·exact hk.2 q (by omega)
 ·omega
def vP r f:=kk tok mixed Tryz.func50 [av r.cells,av f.cells] (fun x=>iv x) true (kd r f) (Hx r f) (u2 (Jk r f)) (fun (x:Int)=>(f.ai.length≤40∧f.bo.length≤100)→(x=0→∀ q,q < f.bo.length→CW f q)) (E7 r f)
def qP (x_:Int):Sk (Bool) :=
 .fin (x_ != x_)
def Km x_:=(qP x_).val
theorem Lx (x_:Int):Km x_=(x_ != x_):=rfl
theorem Ly (x_:Int):(qP x_).bE (fun _=>True):=by
 unfold qP
 exact mY
def xX x_:=kk tok mixed Tryz.func122 [iv x_] (fun x=>bv x) true (qP x_) (Km x_) (u0 (Ly x_))
def nL (x_:Int) (y:Int):Sk (Int) :=
 .r 1 ((xX x_).c) fun x1 =>
 .r 2 ((xX y).c) fun x2 =>
 .br x1
 (.br x2
 (.fin 0)
 (.fin (-1)))
 (.br x2
 (.fin 1)
 (.br (decide (x_ < y))
 (.fin (-1))
 (.br (decide (x_ > y))
 (.fin 1)
 (.fin 0))))
def NS x_ y:=(nL x_ y).val
theorem Hz (x_:Int) (y:Int):(nL x_ y).bE (fun _=>True):=by
 unfold nL
 try simp only [xX,Lx]
 exact qJ
def tZ x_ y:=kk tok mixed Tryz.func81 [iv x_,iv y] (fun x=>iv x) true (nL x_ y) (NS x_ y) (u0 (Hz x_ y))
def yK (dp:List Int):Sk (Int) :=
 .bt
 (.loop (default:Sum (Int) (Unit)) (fun i2=>i2≤dp.length) (fun i2=>dp.length - i2) (0:Nat)
 (fun (i2:Nat)=>⟨[(8,iv (i2:Int))],[]⟩) fun i2 =>
 .lt 6 0 i2 dp.length
 (.r 4 (.p (bz (i2:Int) dp.length)) fun _ =>
 .br ((dp.getD i2 default) != 0)
 (.fin (.inl (.inl (dp.getD i2 default))))
 (.nx 7 8 i2 (i2+1)))
 (.fin (.inl (.inr ()))))
 (fun (_:Unit)=>⟨[],[]⟩) fun _ =>
 .fin 0
def Y0 dp:=(yK dp).val
theorem SJ (dp:List Int):(yK dp).bE (fun _=>True):=by
 unfold yK
 exact oj
def NT dp:=kk tok mixed Tryz.func80 [lv cM dp] (fun x=>iv x) true (yK dp) (Y0 dp) (u0 (SJ dp))
def nM (f:aD):Sk (Int) :=
 .bt
 (.loop (default:Sum (Int) (Unit)) (fun i2=>i2≤f.facts.length) (fun i2=>f.facts.length - i2) (0:Nat)
 (fun (i2:Nat)=>⟨[(9,iv (i2:Int))],[]⟩) fun i2 =>
 .lt 7 0 i2 f.facts.length
 (.r 3 (.p (bz (i2:Int) f.facts.length)) fun _ =>
 .r 4 (.dep ((bp ((f.facts.getD i2 default).kind) 0 4).c) fun x3=>.dep (.wh (!x3) false ((bp ((f.facts.getD i2 default).at_) 0 (ar (((f.ai.length:Nat):Int) - 1))).c)) fun x4=>.wh ((!x3)||(!x4)) false ((bp ((f.facts.getD i2 default).n) 0 1).c)) fun Sv =>
 .br (((!Sv.1)||(!Sv.2.1))||(!Sv.2.2))
 (.fin (.inl (.inl 1)))
 (.br ((i2:Int) == 0)
 (.nx 10 9 i2 (i2+1))
 (.r 7 (.p (bz (ar ((i2:Int) - 1)) f.facts.length)) fun _ =>
 .r 8 (.dep ((tZ ((f.facts.getD ((ar ((i2:Int) - 1)).toNat) default).at_) ((f.facts.getD i2 default).at_)).c) fun x6=>.dep ((tZ ((f.facts.getD ((ar ((i2:Int) - 1)).toNat) default).kind) ((f.facts.getD i2 default).kind)).c) fun x7=>.au (.o [.dy (gr eZ [x6,x7])]) ((NT [x6,x7]).c)) fun p9 =>
 .br (decide (p9.2.2≥0))
 (.fin (.inl (.inl 5)))
 (.nx 10 9 i2 (i2+1)))))
 (.fin (.inl (.inr ()))))
 (fun (_:Unit)=>⟨[],[]⟩) fun _ =>
 .fin 0
def NU f:=(nM f).val
theorem HA (f:aD):(nM f).bE (fun _=>True):=by
 unfold nM
 try simp only [tZ,NT,bp,eE]
 exact qJ
def ua f:=kk tok mixed Tryz.func51 [av f.cells] (fun x=>iv x) true (nM f) (NU f) (u0 (HA f))
def gN (r:af) (f:aD):Sk (Int) :=
 .br ((((decide (((f.ai.length:Nat):Int) > 40))||(decide (((f.a8.length:Nat):Int) > 4)))||(decide (((f.bo.length:Nat):Int) > 100)))||(decide (((f.facts.length:Nat):Int) > 200)))
 (.fin 6)
 (.r 3 ((mB r f.aA).c) fun x1 =>
 .br (x1 != 0)
 (.fin x1)
 (.br (((f.ai.length:Nat):Int) == 0)
 (.fin 14)
 (.bind true (fun b2=>(r.bg.length≤200→∀ q,q < f.ai.length→Ka r f q∧VG r f q))
 (.loop (default:Sum (Int) (Unit)) (fun i3=>i3≤f.ai.length∧(r.bg.length≤200→∀ q,q < i3→Ka r f q∧VG r f q)) (fun i3=>f.ai.length - i3) (0:Nat)
 (fun (i3:Nat)=>⟨[(48,iv (i3:Int))],[]⟩) fun i3 =>
 .lt 3 15 i3 f.ai.length
 (.r 11 ((vO r f (i3:Int)).c) fun x4 =>
 .br (x4 != 0)
 (.fin (.inl (.inl x4)))
 (.nx 14 48 i3 (i3+1)))
 (.fin (.inl (.inr ()))))
 (fun (_:Unit)=>⟨[],[]⟩) fun _ =>
 .bind true (fun b5=>(∀ q,q < f.a8.length→La (f.a8.getD q default).sum))
 (.loop (default:Sum (Int) (Unit)) (fun i6=>i6.2≤f.a8.length∧(∀ q,q < i6.2→La (f.a8.getD q default).sum)) (fun i6=>f.a8.length - i6.2) ((0,0):Int × Nat)
 (fun (i6:Int × Nat)=>⟨[(8,iv i6.1),(62,iv (i6.2:Int))],[]⟩) fun i6 =>
 .lt 60 0 i6.2 f.a8.length
 (.r 18 (.p (bz (i6.2:Int) f.a8.length)) fun _ =>
 .r 19 ((bp ((f.a8.getD i6.2 default).at_) (ar (i6.1+1)) ((f.ai.length:Nat):Int)).c) fun x7 =>
 .br (!x7)
 (.fin (.inl (.inl 1)))
 (.r 21 ((bp ((f.a8.getD i6.2 default).sum) 1 1099511627776).c) fun x8 =>
 .br (!x8)
 (.fin (.inl (.inl 3)))
 (.nx 24 62 i6.2 ((f.a8.getD i6.2 default).at_,i6.2+1))))
 (.fin (.inl (.inr ()))))
 (fun (_:Unit)=>⟨[],[]⟩) fun _ =>
 .r 25 ((vP r f).c) fun x9 =>
 .br (x9 != 0)
 (.fin x9)
 (.r 28 ((ua f).c) fun C0 =>
 .fin C0))))
def m7 r f:=(gN r f).val
theorem E8 (r:af) (f:aD) (hP:r.bg.length≤200):(gN r f).dz (fun (x:Int)=>x=0→CX r f∧ToF r f):=by
 refine Sk.bq _ ?_
 unfold gN
 simp only [Sk.cV,Sk.aU,reduceCtorEq,ON,kk,kp,vP,ua,bp,vO,mB,eE,forall_eq,maxLen]
 refine ⟨fun _ h=>absurd h (by decide),fun hlen hw=>⟨fun h1 h2=>?_,fun hwz=>⟨fun _ h=>absurd h (by decide),fun rA=>⟨⟨⟨by omega,fun _ q hq=>absurd hq (by omega)⟩,fun k hk=>⟨fun hc hs=>⟨fun h1 h2=>?_,fun h1 _=>⟨⟨?_,fun hr q hq=>?_⟩,?_⟩⟩,fun hc hr q hq=>hk.2 hr q (by simp only [LN] at hc; omega)⟩⟩,fun _ hsg=>⟨⟨⟨by omega,fun q hq=>absurd hq (by omega)⟩,fun k hk=>⟨fun hc _=>⟨fun _ h=>absurd h (by decide),fun _=>⟨fun _ h=>absurd h (by decide),fun hs _=>⟨⟨?_,fun q hq=>?_⟩,?_⟩⟩⟩,fun hc q hq=>hk.2 q (by simp only [LN] at hc; omega)⟩⟩,fun _ hal hac=>⟨fun h1 h2=>?_,fun h1 h2=>?_⟩⟩⟩⟩⟩⟩
 all_goals simp only [LN] at hlen
 all_goals (try simp only [LN] at hc)
 ·rw [h2] at h1; exact absurd h1 (by decide)
 ·rw [h2] at h1; exact absurd h1 (by decide)
 ·omega
 ·by_cases e:q=k
  ·subst e
   have:=hs ⟨by omega,by omega,hP,(hw (by simpa using hwz)).1⟩ (by simpa using h1)
   simpa using this
  ·exact hk.2 hr q (by omega)
 ·omega
 ·omega
 ·by_cases e:q=k.2
  ·subst e
   simp only [LN] at hs
   exact ⟨by omega,by omega⟩
  ·exact hk.2 q (by omega)
 ·omega
 ·rw [h2] at h1; exact absurd h1 (by decide)
 ·have W:=hw (by simpa using hwz)
  simp only [LN] at rA
  exact ⟨⟨W.1,⟨by omega,by omega,by omega,by omega,by omega⟩,fun q hq=>(hsg hP q hq).1,hal,hac ⟨by omega,by omega⟩ (by simpa using h1)⟩,W.2,fun q hq=>(hsg hP q hq).2⟩
theorem Dx (r:af) (f:aD):(fun (x:Int)=>(r.bg.length≤200)→(x=0→CX r f∧ToF r f)) (m7 r f):=fun hP=>have h:=Sk.dA _ (E8 r f hP); h
theorem HB (r:af) (f:aD) (hr:r.Small):(gN r f).bE (fun _=>True):=by
 refine Sk.bm _ ?_
 unfold gN
 simp only [Sk.j2,Sk.aU,reduceCtorEq,ON,kk,kp,vP,ua,bp,vO,mB,eE,forall_eq,maxLen]
 intro hlen
 simp only [LN] at hlen
 refine ⟨hr,fun hw hwz rA=>⟨⟨⟨by omega,fun _ q hq=>absurd hq (by omega)⟩,fun k hk hl=>⟨fun hc=>⟨⟨⟨by omega,of_decide_eq_true hc⟩,by omega,hr⟩,fun hs h1 _=>⟨?_,⟨?_,fun Y1 q hq=>?_⟩,?_⟩⟩,fun hc Y1 q hq=>hk.2 Y1 q (by simp only [LN] at hc; omega)⟩⟩,fun _ hsg=>⟨⟨⟨by omega,fun q hq=>absurd hq (by omega)⟩,fun k hk hl=>⟨fun hc=>⟨⟨by omega,of_decide_eq_true hc⟩,fun _ _ hs _=>⟨?_,⟨?_,fun q hq=>?_⟩,?_⟩⟩,fun hc q hq=>hk.2 q (by simp only [LN] at hc; omega)⟩⟩,fun _ _=>⟨by omega,by omega⟩⟩⟩⟩
 all_goals (try simp only [LN] at hc)
 ·exact az (by omega) (by omega)
 ·omega
 ·by_cases e:q=k
  ·subst e
   have:=hs ⟨by omega,by omega,Y1,(hw (by simpa using hwz)).1⟩ (by simpa using h1)
   simpa using this
  ·exact hk.2 Y1 q (by omega)
 ·omega
 ·exact az (by omega) (by omega)
 ·omega
 ·by_cases e:q=k.2
  ·subst e
   simp only [LN] at hs
   exact ⟨by omega,by omega⟩
  ·exact hk.2 q (by omega)
 ·omega
def ub r f:=kk tok mixed Tryz.func22 [av r.cells,av f.cells] (fun x=>iv x) true (gN r f) (m7 r f) (HB r f) (fun (x:Int)=>(r.bg.length≤200)→(x=0→CX r f∧ToF r f)) (Dx r f)
def k5 (r:af) (f:aD):Sk (Bool) :=
 .r 1 (.dep ((Dr r f).c) fun x1=>.dep (.wh x1 true ((pT r).c)) fun x2=>.wh (x1&&(x2 == 0)) true ((ub r f).c)) fun p4 =>
 .fin ((p4.1&&(p4.2.1 == 0))&&(p4.2.2 == 0))
def xY r f:=(k5 r f).val
theorem E9 (r:af) (f:aD):(k5 r f).dz (fun (x:Bool)=>x=true→r.Small∧r.ck∧r.ba∧r.rM∧r.zZ∧CX r f∧ToF r f∧r.ak.length≤100):=by
 refine Sk.bq _ ?_
 unfold k5
 simp only [Sk.cV,Sk.aU,reduceCtorEq,ON,kk,kp,pT,Dr,ub,maxLen]
 intro x _ h hx
 simp only [LN] at hx
 have a:=h.1 hx.1.1
 have b:=h.2.1 hx.1.2
 have c:=h.2.2 b.2.2.2.1 hx.2
 exact ⟨a.1,b.2.2.2.2.2.1,b.2.2.2.2.2.2.2.2.2.2.2.2,b.2.2.2.2.1,b.2.2.2.2.2.2.2.2.2.2.2.1,c.1,c.2,b.2.2.2.2.2.2.2.2.2.1⟩
theorem HC (r:af) (f:aD):(k5 r f).bE (fun _=>True):=by
 refine Sk.bm _ ?_
 unfold k5
 simp only [Sk.j2,Sk.aU,reduceCtorEq,ON,kk,kp,pT,Dr,ub,maxLen]
 all_goals (repeat' first | assumption | (apply And.intro) | (intro h))
 all_goals first | trivial | assumption | omega | ((try simp only [LN] at *) <;> first | omega | (refine (az ?_ ?_).trans ?_ <;> omega) | (simp (disch:=omega) only [az] at *; omega) | (grind) | (simp_all; done) | (simp_all; omega))
def uc r f:=kp tok mixed Tryz.func5 [av r.cells,av f.cells] (fun x=>bv x) true (xY r f) (u0 (HC r f)) (E9 r f)
def yL (i:Int) (n:Int):Sk (Bool) :=
 .fin ((decide (i≥0))&&(decide (i < n)))
def lM i n:=(yL i n).val
theorem yM (i:Int) (n:Int):lM i n=((decide (i≥0))&&(decide (i < n))):=rfl
theorem SK (i:Int) (n:Int):(yL i n).bE (fun _=>True):=by
 unfold yL
 exact mY
def iC i n:=kk tok mixed Tryz.func30 [iv i,iv n] (fun x=>bv x) true (yL i n) (lM i n) (u0 (SK i n))
theorem uT {α:Type} [Inhabited α] (p:α→Bool):∀ (l:List α) (i:Nat),i≤l.length→(∀ q,q < i→p (l.getD q default)=true)→(i=l.length∨p (l.getD i default)=false)→i=(l.takeWhile p).length
 | [],i,h,_,_=>by simpa using h
 | x :: r,0,_,_,h=>by
  have h:p x=false:=by
   rcases h with h | h
   ·simp at h
   ·exact h
  rw [List.takeWhile_cons,h]; rfl
 | x :: r,i+1,h,hp,he=>by
  have h0:p x=true:=hp 0 (by omega)
  rw [List.takeWhile_cons,h0,if_pos rfl,List.length_cons]
  have:=uT p r i (by simpa using h) (fun q hq=>hp (q+1) (by omega)) (by simpa using he)
  omega
theorem P5 {α:Type} [Inhabited α] (l:List α) (n:Nat) (h:n≤l.length):fI l 0 n=l.take n:=by
 refine List.ext_getElem (by simp [fI]; omega) (fun i h1 h2=>?_)
 have hi:i < l.length:=by rw [mX] at h1; omega
 simp [fI,List.getD,hi]
theorem Rw {α:Type} [Inhabited α] (p:α→Bool) (l:List α):fI l 0 (l.takeWhile p).length=l.takeWhile p:=by
 rw [P5 _ _ (List.takeWhile_sublist _).length_le]
 exact (List.prefix_iff_eq_take.1 (List.takeWhile_prefix p)).symm
theorem jz {α:Type} [Inhabited α] (p:α→Bool) (l:List α) (i:Nat) (h:i < l.length):(l.take (i+1)).filter p=(l.take i).filter p++(bif p (l.getD i default) then [l.getD i default] else []):=by
 rw [List.take_succ_eq_append_getElem h,List.filter_append,show l.getD i default=l[i] by simp [List.getD,h]]
 cases hc:p l[i] <;> simp [hc]
theorem Lz {P:Nat→Prop} {i:Nat} (h:∀ q,q < i→P q) (h2:P i) (q:Nat) (hq:q < i+1):P q:=(Nat.lt_succ_iff_lt_or_eq.1 hq).elim (h q) (fun e=>e ▸ h2)
theorem xZ {α:Type} (p:α→Bool) (l:List α) (i:Nat):((l.take i).filter p).length≤i:=Nat.le_trans (List.length_filter_le _ _) (by rw [List.length_take]; exact Nat.min_le_left _ _)
def uU (f:aD) (day:Int):Sk (aD) :=
 .bind true (fun b1=>b1=((f.ai.takeWhile (fun s=>decide (s.day≤day))).length:Int))
 (.loop (default:Sum (aD) (Int)) (fun i2=>i2≤f.ai.length∧∀ q,q < i2→(f.ai.getD q default).day≤day) (fun i2=>f.ai.length - i2) (0:Nat)
 (fun (i2:Nat)=>⟨[(5,iv (i2:Int))],[]⟩) fun i2 =>
 .Ij 2 15 f.ai.length <|
 .r 2 (.wh (decide ((i2:Int) < ((f.ai.length:Nat):Int))) true (.p (bz (i2:Int) f.ai.length))) fun _ =>
 .br ((decide ((i2:Int) < ((f.ai.length:Nat):Int)))&&(decide (((f.ai.getD i2 default).day)≤day)))
 (.nx 3 5 i2 (i2+1))
 (.fin (.inl (.inr (i2:Int)))))
 (fun (b1:Int)=>⟨[(5,iv b1)],[]⟩) fun b1 =>
 .bind true (fun b3=>b3=((f.bo.takeWhile (fun s=>decide (s.day≤day))).length:Int))
 (.loop (default:Sum (aD) (Int)) (fun i4=>i4≤f.bo.length∧∀ q,q < i4→(f.bo.getD q default).day≤day) (fun i4=>f.bo.length - i4) (0:Nat)
 (fun (i4:Nat)=>⟨[(6,iv (i4:Int))],[]⟩) fun i4 =>
 .Ij 2 17 f.bo.length <|
 .r 5 (.wh (decide ((i4:Int) < ((f.bo.length:Nat):Int))) true (.p (bz (i4:Int) f.bo.length))) fun _ =>
 .br ((decide ((i4:Int) < ((f.bo.length:Nat):Int)))&&(decide (((f.bo.getD i4 default).day)≤day)))
 (.nx 6 6 i4 (i4+1))
 (.fin (.inl (.inr (i4:Int)))))
 (fun (b3:Int)=>⟨[(6,iv b3)],[]⟩) fun b3 =>
 .r 7 (.au (.o [.dy (gr Sign.E ([]:List Sign))]) (.au (.au (.o [.dy (Uv Sign.E f.ai 0 b1.toNat)]) (.pt (0≤b1∧b1≤((f.ai.length:Nat):Int)) (Sign.E.lens f.ai))) (.au (.au (.o [.dy (nY Sign.E ([]:List Sign) (fI f.ai 0 b1.toNat))]) (.au (.t (Sign.E.src (fI f.ai 0 b1.toNat))) (.p (zb (([]:List Sign).length) (fI f.ai 0 b1.toNat).length 72)))) (.au (.o [.dy (gr fB.E ([]:List fB))]) (.au (.au (.o [.dy (Uv fB.E f.bo 0 b3.toNat)]) (.pt (0≤b3∧b3≤((f.bo.length:Nat):Int)) (fB.E.lens f.bo))) (.au (.o [.dy (nY fB.E ([]:List fB) (fI f.bo 0 b3.toNat))]) (.au (.t (fB.E.src (fI f.bo 0 b3.toNat))) (.p (zb (([]:List fB).length) (fI f.bo 0 b3.toNat).length 72))))))))) fun _ =>
 .bind true (fun b5=>b5=f.a8.filter (fun a=>decide (a.at_≤b1)))
 (.loop (default:Sum (aD) ((List cK))) (fun i6=>i6.1≤f.a8.length∧i6.2=(f.a8.take i6.1).filter (fun a=>decide (a.at_≤b1))) (fun i6=>f.a8.length - i6.1) ((0,[]):Nat × (List cK))
 (fun (i6:Nat × (List cK))=>⟨[(8,iv (i6.1:Int))],[(100002,fg 111 2 cK.cells i6.2),(7,.box (f.aA.cells.map .d++[ow 51 (([]:List Sign)++(fI f.ai 0 b1.toNat)),ow 100002 i6.2,ow 57 (([]:List fB)++(fI f.bo 0 b3.toNat))]++[nv]))]⟩) fun i6 =>
 .lt 2 16 i6.1 f.a8.length
 (.r 11 (.p (bz (i6.1:Int) f.a8.length)) fun _ =>
 .br (decide (((f.a8.getD i6.1 default).at_)≤b1))
 (.r 12 (.au (.p (bz (i6.1:Int) f.a8.length)) (.au (.o [.dy (gr cK.E [f.a8.getD i6.1 default])]) (.au (.o [.dy (nY cK.E i6.2 [f.a8.getD i6.1 default])]) (.au (.t (cK.E.sE [f.a8.getD i6.1 default])) (.p (zb i6.2.length [f.a8.getD i6.1 default].length 16)))))) fun _ =>
 .nx 10 8 i6.1 (i6.1+1,i6.2++[f.a8.getD i6.1 default]))
 (.nx 10 8 i6.1 (i6.1+1,i6.2)))
 (.fin (.inl (.inr i6.2))))
 (fun (b5:(List cK))=>⟨[],[(100001,fg 111 2 cK.cells b5),(7,.box (f.aA.cells.map .d++[ow 51 (([]:List Sign)++(fI f.ai 0 b1.toNat)),ow 100001 b5,ow 57 (([]:List fB)++(fI f.bo 0 b3.toNat))]++[nv]))]⟩) fun b5 =>
 .bind true (fun b7=>b7=f.facts.filter (fun x=>decide (x.at_≥0)&&decide (x.at_ < b1)))
 (.loop (default:Sum (aD) ((List Fact))) (fun i8=>i8.1≤f.facts.length∧i8.2=(f.facts.take i8.1).filter (fun x=>decide (x.at_≥0)&&decide (x.at_ < b1))) (fun i8=>f.facts.length - i8.1) ((0,[]):Nat × (List Fact))
 (fun (i8:Nat × (List Fact))=>⟨[(9,iv (i8.1:Int))],[(100005,fg 104 3 Fact.cells i8.2),(7,.box (f.aA.cells.map .d++[ow 51 (([]:List Sign)++(fI f.ai 0 b1.toNat)),ow 100001 b5,ow 57 (([]:List fB)++(fI f.bo 0 b3.toNat)),ow 100005 i8.2]))]⟩) fun i8 =>
 .lt 2 18 i8.1 f.facts.length
 (.r 16 (.au (.p (bz (i8.1:Int) f.facts.length)) (.wh (decide (((f.facts.getD i8.1 default).at_)≥0)) true (.p (bz (i8.1:Int) f.facts.length)))) fun _ =>
 .br ((decide (((f.facts.getD i8.1 default).at_)≥0))&&(decide (((f.facts.getD i8.1 default).at_) < b1)))
 (.r 17 (.au (.p (bz (i8.1:Int) f.facts.length)) (.au (.o [.dy (gr Fact.E [f.facts.getD i8.1 default])]) (.au (.o [.dy (nY Fact.E i8.2 [f.facts.getD i8.1 default])]) (.au (.t (Fact.E.sE [f.facts.getD i8.1 default])) (.p (zb i8.2.length [f.facts.getD i8.1 default].length 24)))))) fun _ =>
 .nx 15 9 i8.1 (i8.1+1,i8.2++[f.facts.getD i8.1 default]))
 (.nx 15 9 i8.1 (i8.1+1,i8.2)))
 (.fin (.inl (.inr i8.2))))
 (fun (b7:(List Fact))=>⟨[],[(100004,fg 104 3 Fact.cells b7),(7,.box (f.aA.cells.map .d++[ow 51 (([]:List Sign)++(fI f.ai 0 b1.toNat)),ow 100001 b5,ow 57 (([]:List fB)++(fI f.bo 0 b3.toNat)),ow 100004 b7]))]⟩) fun b7 =>
 .fin ({ f with ai:=([]:List Sign)++(fI f.ai 0 b1.toNat),a8:=b5,bo:=([]:List fB)++(fI f.bo 0 b3.toNat),facts:=b7 })
def sg f day:=(uU f day).val
theorem HD (f:aD) (day:Int):(uU f day).dz (fun (x:aD)=>x=bn f day):=by
 refine Sk.bq _ ?_
 unfold uU
 simp only [Sk.cV,Sk.aU,reduceCtorEq,ON,kk,kp,aD.Small,af.Small,maxLen]
 refine ⟨⟨⟨Nat.zero_le _,fun q hq=>absurd hq (by omega)⟩,fun i hi _=>⟨fun hc _=>?_,fun hc=>?_⟩⟩,fun b1 KY=>⟨⟨⟨Nat.zero_le _,fun q hq=>absurd hq (by omega)⟩,fun i hi _=>⟨fun hc _=>?_,fun hc=>?_⟩⟩,fun b3 Sh _=>⟨⟨⟨Nat.zero_le _,rfl⟩,fun i hi=>⟨fun hc _=>⟨fun h _ _=>?_,fun h _=>?_⟩,fun hc=>?_⟩⟩,fun b5 hb5=>⟨⟨⟨Nat.zero_le _,rfl⟩,fun i hi=>⟨fun hc _=>⟨fun h _ _=>?_,fun h _=>?_⟩,fun hc=>?_⟩⟩,fun b7 hb7=>?_⟩⟩⟩⟩
 ·simp only [LN] at hc
  exact ⟨⟨by omega,Lz hi.2 hc.2⟩,by omega⟩
 ·simp only [LN] at hc
  have:=uT (fun s:Sign=>decide (s.day≤day)) f.ai i hi.1 (fun q hq=>decide_eq_true (hi.2 q hq)) (by rw [decide_eq_false_iff_not]; omega)
  omega
 ·simp only [LN] at hc
  exact ⟨⟨by omega,Lz hi.2 hc.2⟩,by omega⟩
 ·simp only [LN] at hc
  have:=uT (fun s:fB=>decide (s.day≤day)) f.bo i hi.1 (fun q hq=>decide_eq_true (hi.2 q hq)) (by rw [decide_eq_false_iff_not]; omega)
  omega
 ·simp only [LN] at hc
  refine ⟨⟨by omega,?_⟩,by omega⟩
  rw [jz _ _ _ (by omega),← hi.2]; simp only [h,cond_true]
 ·simp only [LN] at hc
  refine ⟨⟨by omega,?_⟩,by omega⟩
  rw [jz _ _ _ (by omega),← hi.2]; simp only [h,cond_false,List.append_nil]
 ·simp only [LN] at hc
  have e:i.1=f.a8.length:=by omega
  rw [hi.2,e,List.take_length]
 ·simp only [LN] at hc
  refine ⟨⟨by omega,?_⟩,by omega⟩
  rw [jz _ _ _ (by omega),← hi.2]; simp only [h,cond_true]
 ·simp only [LN] at hc
  refine ⟨⟨by omega,?_⟩,by omega⟩
  rw [jz _ _ _ (by omega),← hi.2]; simp only [h,cond_false,List.append_nil]
 ·simp only [LN] at hc
  have e:i.1=f.facts.length:=by omega
  rw [hi.2,e,List.take_length]
 ·subst KY Sh hb5 hb7
  rw [Int.toNat_natCast,Int.toNat_natCast,Rw,Rw,List.nil_append,List.nil_append,jE]
theorem ya (f:aD) (day:Int):(fun (x:aD)=>x=bn f day) (sg f day):=have h:=Sk.dA _ (HD f day); h
theorem SL (f:aD) (day:Int) (hf:f.Small):(uU f day).bE (fun _=>True):=by
 simp only [aD.Small,af.Small] at hf
 refine Sk.bm _ ?_
 unfold uU
 simp only [Sk.j2,Sk.aU,reduceCtorEq,ON,kk,kp,aD.Small,af.Small,maxLen]
 have w1:∀ i n:Nat,i < n→n≤1000000→ar ((i:Int)+1)=((i+1:Nat):Int):=fun i n h h2=>(az (by omega) (by omega)).trans (by omega)
 obtain ⟨n1,n2,n3,n4⟩:=hf
 have s1:=(List.takeWhile_sublist (l:=f.ai) fun s=>decide (s.day≤day)).length_le
 have s2:=(List.takeWhile_sublist (l:=f.bo) fun s=>decide (s.day≤day)).length_le
 refine ⟨⟨⟨Nat.zero_le _,fun q hq=>absurd hq (by omega)⟩,fun i hi _=>⟨fun hc=>?_,fun _=>⟨fun hc _=>?_,fun hc=>?_⟩⟩⟩,fun b1 KY=>⟨⟨⟨Nat.zero_le _,fun q hq=>absurd hq (by omega)⟩,fun i hi _=>⟨fun hc=>?_,fun _=>⟨fun hc _=>?_,fun hc=>?_⟩⟩⟩,fun b3 Sh=>⟨?_,fun _=>⟨⟨⟨Nat.zero_le _,rfl⟩,fun i hi _=>⟨fun hc=>⟨?_,fun _=>⟨fun h=>⟨?_,fun _ _=>⟨?_,?_⟩⟩,fun h _=>⟨?_,?_⟩⟩⟩,fun hc=>?_⟩⟩,fun b5 hb5=>⟨⟨Nat.zero_le _,rfl⟩,fun i hi _=>⟨fun hc=>⟨?_,fun _=>⟨fun h=>⟨?_,fun _ _=>⟨?_,?_⟩⟩,fun h _=>⟨?_,?_⟩⟩⟩,fun hc=>?_⟩⟩⟩⟩⟩⟩
 ·simp only [LN] at hc
  exact ⟨by omega,by omega⟩
 ·simp only [LN] at hc
  exact ⟨w1 _ _ (by omega) n1,⟨by omega,Lz hi.2 hc.2⟩,by omega⟩
 ·simp only [LN] at hc
  have:=uT (fun s:Sign=>decide (s.day≤day)) f.ai i hi.1 (fun q hq=>decide_eq_true (hi.2 q hq)) (by rw [decide_eq_false_iff_not]; omega)
  omega
 ·simp only [LN] at hc
  exact ⟨by omega,by omega⟩
 ·simp only [LN] at hc
  exact ⟨w1 _ _ (by omega) n3,⟨by omega,Lz hi.2 hc.2⟩,by omega⟩
 ·simp only [LN] at hc
  have:=uT (fun s:fB=>decide (s.day≤day)) f.bo i hi.1 (fun q hq=>decide_eq_true (hi.2 q hq)) (by rw [decide_eq_false_iff_not]; omega)
  omega
 ·simp only [LN]
  omega
 ·simp only [LN] at hc
  exact ⟨by omega,by omega⟩
 ·simp only [LN] at hc ⊢
  have:=xZ (fun a:cK=>decide (a.at_≤b1)) f.a8 i.1
  rw [← hi.2] at this
  omega
 ·simp only [LN] at hc
  exact w1 _ _ (by omega) n2
 ·simp only [LN] at hc
  refine ⟨⟨by omega,?_⟩,by omega⟩
  rw [jz _ _ _ (by omega),← hi.2]; simp only [h,cond_true]
 ·simp only [LN] at hc
  exact w1 _ _ (by omega) n2
 ·simp only [LN] at hc
  refine ⟨⟨by omega,?_⟩,by omega⟩
  rw [jz _ _ _ (by omega),← hi.2]; simp only [h,cond_false,List.append_nil]
 ·simp only [LN] at hc
  have e:i.1=f.a8.length:=by omega
  rw [hi.2,e,List.take_length]
 ·simp only [LN] at hc
  exact ⟨⟨by omega,by omega⟩,fun _=>⟨by omega,by omega⟩⟩
 ·simp only [LN] at hc ⊢
  have:=xZ (fun x:Fact=>decide (x.at_≥0)&&decide (x.at_ < b1)) f.facts i.1
  rw [← hi.2] at this
  omega
 ·simp only [LN] at hc
  exact w1 _ _ (by omega) n4
 ·simp only [LN] at hc
  refine ⟨⟨by omega,?_⟩,by omega⟩
  rw [jz _ _ _ (by omega),← hi.2]; simp only [h,cond_true]
 ·simp only [LN] at hc
  exact w1 _ _ (by omega) n4
 ·simp only [LN] at hc
  refine ⟨⟨by omega,?_⟩,by omega⟩
  rw [jz _ _ _ (by omega),← hi.2]; simp only [h,cond_false,List.append_nil]
 ·simp only [LN] at hc
  have e:i.1=f.facts.length:=by omega
  rw [hi.2,e,List.take_length]
def uV f day:=kp tok mixed Tryz.func33 [av f.cells,iv day] (fun x=>av x.cells) false (sg f day) (SL f day) (HD f day)
def qQ (r:af) (f:aD) (j:aQ):Sk (Int) :=
 .r 1 (.dep ((iC j.fq ((r.al.length:Nat):Int)).c) fun x1=>.dep (.wh (!x1) false ((iC j.aA 50).c)) fun x2=>.wh ((((!x1)||(!x2))||(decide (j.sum < 0)))||(decide (j.sum > 1099511627776))) false ((iC j.aq ((r.aX.length:Nat):Int)).c)) fun p8 =>
 .br (((((((!p8.1)||(!p8.2.1))||(decide (j.sum < 0)))||(decide (j.sum > 1099511627776)))||(!p8.2.2))||(decide (j.day < 0)))||(decide (j.day > 100000)))
 (.fin 1)
 (.r 3 ((uV f j.day).c) fun x4 =>
 .r 4 (.dep ((iC j.sign ((x4.ai.length:Nat):Int)).c) fun x5=>.fA (.wh (!x5) false ((iC j.aP ((r.bg.length:Nat):Int)).c)) fun x6=>.wh (((!x5)||(!x6))||(j.aP == j.cm)) false (.p (bz j.sign x4.ai.length))) fun p7 =>
 .br ((((!p7.1)||(!p7.2))||(j.aP == j.cm))||(((x4.ai.getD j.sign.toNat default).nX) != j.cm))
 (.fin 1)
 (.fin 0))
def uW r f j:=(qQ r f j).val
theorem LA (r:af) (f:aD) (j:aQ) (cA:f.Small):(qQ r f j).bE (fun _=>True):=by
 simp only [aD.Small,af.Small] at cA
 unfold qQ
 try simp only [uV,iC,yM,aD.Small,af.Small]
 exact qJ
def jA r f j:=kk tok mixed Tryz.func14 [av r.cells,av f.cells,av j.cells] (fun x=>iv x) true (qQ r f j) (uW r f j) (LA r f j)
def qR (r:af) (x_:aw):Sk (Bool) :=
 .r 1 (.dep ((iC x_.from_ ((r.bg.length:Nat):Int)).c) fun x1=>.dep (.wh x1 true ((iC x_.bZ ((r.bg.length:Nat):Int)).c)) fun x2=>.wh (((x1&&x2)&&(decide (x_.sum≥0)))&&(decide (x_.sum≤1099511627776))) true ((iC x_.aq ((r.aX.length:Nat):Int)).c)) fun p4 =>
 .fin ((((((p4.1&&p4.2.1)&&(decide (x_.sum≥0)))&&(decide (x_.sum≤1099511627776)))&&p4.2.2)&&(decide (x_.day≥0)))&&(decide (x_.day≤100000)))
def m8 r x_:=(qR r x_).val
theorem LB (r:af) (x_:aw):(qR r x_).bE (fun _=>True):=by
 unfold qR
 try simp only [iC,yM]
 exact qJ
def yb r x_:=kk tok mixed Tryz.func28 [av r.cells,av x_.cells] (fun x=>bv x) true (qR r x_) (m8 r x_) (u0 (LB r x_))
def vQ (n:Int):Sk (Bool) :=
 .fin ((decide (n≥0))&&(decide (n≤1099511627776)))
def Rx n:=(vQ n).val
theorem HE (n:Int):Rx n=((decide (n≥0))&&(decide (n≤1099511627776))):=rfl
theorem P6 (n:Int):(vQ n).bE (fun _=>True):=by
 unfold vQ
 exact mY
def Dy n:=kk tok mixed Tryz.func56 [iv n] (fun x=>bv x) true (vQ n) (Rx n) (u0 (P6 n))
def vR (n:Int):Sk (Bool) :=
 .fin ((decide (n≥0))&&(decide (n≤100000)))
def Ry n:=(vR n).val
theorem HF (n:Int):Ry n=((decide (n≥0))&&(decide (n≤100000))):=rfl
theorem P7 (n:Int):(vR n).bE (fun _=>True):=by
 unfold vR
 exact mY
def Dz n:=kk tok mixed Tryz.func57 [iv n] (fun x=>bv x) true (vR n) (Ry n) (u0 (P7 n))
def Y2 (a b d:Int) (s:Bool × bV) (x:bV):Bool × bV:=bif (((x.from_ == a)&&(x.bZ == b))&&(decide (x.since≤d)))&&((!s.1)||(decide (x.since > s.2.since))) then (true,x) else s
def zF (a b d:Int) (l:List bV):Bool × bV:=l.foldl (Y2 a b d) (false,⟨0,0,0,0,0⟩)
theorem HG (a b d:Int) (l:List bV) (n:Nat) (h:n < l.length):zF a b d (l.take (n+1))=Y2 a b d (zF a b d (l.take n)) (l.getD n default):=by
 unfold zF
 rw [List.take_succ_eq_append_getElem h,List.foldl_append,show l.getD n default=l[n] by simp [List.getD,h]]
 rfl
def Af (ak:List bV) (x:Int) (p:Bool × bV) (n:Nat):Prop:=(x = -1∧p.1=false)∨(0≤x∧x < (n:Int)∧p=(true,ak.getD x.toNat default))
theorem Af.skip {ak:List bV} {x:Int} {p:Bool × bV} {n:Nat} (h:Af ak x p n):Af ak x p (n+1):=by
 rcases h with h | h
 ·exact .inl h
 ·exact .inr ⟨h.1,by omega,h.2.2⟩
theorem US {ak:List bV} {a b d x:Int} {n:Nat} (h:Af ak x (zF a b d (ak.take n)) n) (hn:n < ak.length) (hc:((((ak.getD n default).from_ != a)||((ak.getD n default).bZ != b))||(decide ((ak.getD n default).since > d)))=true):Af ak x (zF a b d (ak.take (n+1))) (n+1):=by
 rw [HG _ _ _ _ _ hn]
 have:((((ak.getD n default).from_ == a)&&((ak.getD n default).bZ == b))&&(decide ((ak.getD n default).since≤d)))=false:=by
  simp only [LN] at hc ⊢
  omega
 unfold Y2
 rw [this,Bool.false_and,cond_false]
 exact h.skip
theorem Rz {ak:List bV} {a b d x:Int} {n:Nat} (h:Af ak x (zF a b d (ak.take n)) n) (hn:n < ak.length) (hc:((((ak.getD n default).from_ != a)||((ak.getD n default).bZ != b))||(decide ((ak.getD n default).since > d)))=false)
  (hq:((decide (x < 0))||(decide ((ak.getD n default).since > (ak.getD x.toNat default).since)))=true):Af ak ((n:Nat):Int) (zF a b d (ak.take (n+1))) (n+1):=by
 rw [HG _ _ _ _ _ hn]
 have e1:((((ak.getD n default).from_ == a)&&((ak.getD n default).bZ == b))&&(decide ((ak.getD n default).since≤d)))=true:=by
  simp only [LN] at hc ⊢
  omega
 have e2:((!(zF a b d (ak.take n)).1)||(decide ((ak.getD n default).since > (zF a b d (ak.take n)).2.since)))=true:=by
  rcases h with h | h
  ·rw [h.2]; rfl
  ·rw [h.2.2]
   simp only [LN] at hq ⊢
   exact .inr (by omega)
 unfold Y2
 rw [e1,e2]
 exact .inr ⟨by omega,by omega,rfl⟩
theorem NV {ak:List bV} {a b d x:Int} {n:Nat} (h:Af ak x (zF a b d (ak.take n)) n) (hn:n < ak.length) (hq:((decide (x < 0))||(decide ((ak.getD n default).since > (ak.getD x.toNat default).since)))=false):Af ak x (zF a b d (ak.take (n+1))) (n+1):=by
 rw [HG _ _ _ _ _ hn]
 have e2:((!(zF a b d (ak.take n)).1)||(decide ((ak.getD n default).since > (zF a b d (ak.take n)).2.since)))=false:=by
  rcases h with h | h
  ·simp only [LN] at hq; omega
  ·rw [h.2.2]
   simp only [LN] at hq ⊢
   exact ⟨by decide,hq.2⟩
 unfold Y2
 rw [e2,Bool.and_false,cond_false]
 exact h.skip
def pU (ak:List bV) (from_:Int) (bZ:Int) (day:Int):Sk (Int) :=
 .bind true (fun b1=>Af ak b1 (zF from_ bZ day ak) ak.length)
 (.loop (default:Sum (Int) (Int)) (fun i2=>i2.2≤ak.length∧Af ak i2.1 (zF from_ bZ day (ak.take i2.2)) i2.2) (fun i2=>ak.length - i2.2) (((-1),0):Int × Nat)
 (fun (i2:Int × Nat)=>⟨[(9,iv i2.1),(10,iv (i2.2:Int))],[]⟩) fun i2 =>
 .lt 0 0 i2.2 ak.length
 (.r 5 (.au (.p (bz (i2.2:Int) ak.length)) (.au (.wh (((ak.getD i2.2 default).from_) != from_) false (.p (bz (i2.2:Int) ak.length))) (.wh ((((ak.getD i2.2 default).from_) != from_)||(((ak.getD i2.2 default).bZ) != bZ)) false (.p (bz (i2.2:Int) ak.length))))) fun _ =>
 .br (((((ak.getD i2.2 default).from_) != from_)||(((ak.getD i2.2 default).bZ) != bZ))||(decide (((ak.getD i2.2 default).since) > day)))
 (.nx 4 10 i2.2 (i2.1,i2.2+1))
 (.r 6 (.au (.wh (decide (i2.1 < 0)) false (.p (bz (i2.2:Int) ak.length))) (.wh (decide (i2.1 < 0)) false (.p (bz i2.1 ak.length)))) fun _ =>
 .br ((decide (i2.1 < 0))||(decide (((ak.getD i2.2 default).since) > ((ak.getD i2.1.toNat default).since))))
 (.r 4 .z fun _ =>
 .wi 10 (ar ((i2.2:Int)+1)) ((i2.2+1:Nat):Int) <|
 .fin (.inr ((i2.2:Int),i2.2+1)))
 (.nx 4 10 i2.2 (i2.1,i2.2+1))))
 (.fin (.inl (.inr i2.1))))
 (fun (b1:Int)=>⟨[(9,iv b1)],[]⟩) fun b1 =>
 .fin b1
def jY ak from_ bZ day:=(pU ak from_ bZ day).val
theorem B1 (ak:List bV) (from_:Int) (bZ:Int) (day:Int):(pU ak from_ bZ day).dz (fun (x:Int)=>Af ak x (zF from_ bZ day ak) ak.length):=by
 refine Sk.bq _ ?_
 unfold pU
 simp only [Sk.cV,Sk.aU,reduceCtorEq,ON,kk,kp,maxLen]
 refine ⟨⟨⟨Nat.zero_le _,.inl ⟨rfl,rfl⟩⟩,fun i hi=>⟨fun hc _=>⟨fun h _=>?_,fun h _=>⟨fun h2 _=>?_,fun h2 _=>?_⟩⟩,fun hc=>?_⟩⟩,fun b hb=>hb⟩
 all_goals simp only [LN] at hc
 ·exact ⟨⟨by omega,US hi.2 (by omega) h⟩,by omega⟩
 ·exact ⟨⟨by omega,Rz hi.2 (by omega) h h2⟩,by omega⟩
 ·exact ⟨⟨by omega,NV hi.2 (by omega) h2⟩,by omega⟩
 ·have e:i.2=ak.length:=by omega
  have h:=hi.2
  rw [e,List.take_length] at h
  exact h
theorem Jl (ak:List bV) (from_:Int) (bZ:Int) (day:Int):(fun (x:Int)=>Af ak x (zF from_ bZ day ak) ak.length) (jY ak from_ bZ day):=have h:=Sk.dA _ (B1 ak from_ bZ day); h
theorem NW (ak:List bV) (from_:Int) (bZ:Int) (day:Int):(pU ak from_ bZ day).bE (fun _=>True):=by
 refine Sk.bm _ ?_
 unfold pU
 simp only [Sk.j2,Sk.aU,reduceCtorEq,ON,kk,kp,maxLen]
 refine ⟨⟨Nat.zero_le _,.inl ⟨rfl,rfl⟩⟩,fun i hi hm=>⟨fun hc=>⟨⟨⟨by omega,of_decide_eq_true hc⟩,fun _=>⟨by omega,of_decide_eq_true hc⟩,fun _=>⟨by omega,of_decide_eq_true hc⟩⟩,fun _=>⟨fun h _=>?_,fun h=>⟨⟨fun _=>⟨by omega,of_decide_eq_true hc⟩,fun hx=>?_⟩,fun _=>⟨fun h2 _=>?_,fun h2 _=>?_⟩⟩⟩⟩,fun hc=>?_⟩⟩
 all_goals simp only [LN] at hc
 ·exact ⟨(az (by omega) (by omega)).trans (by omega),⟨by omega,US hi.2 (by omega) h⟩,by omega⟩
 ·simp only [LN] at hx
  rcases hi.2 with h | h <;> omega
 ·exact ⟨(az (by omega) (by omega)).trans (by omega),⟨by omega,Rz hi.2 (by omega) h h2⟩,by omega⟩
 ·exact ⟨(az (by omega) (by omega)).trans (by omega),⟨by omega,NV hi.2 (by omega) h2⟩,by omega⟩
 ·have e:i.2=ak.length:=by omega
  have h:=hi.2
  rw [e,List.take_length] at h
  exact h
def vS ak from_ bZ day:=kp tok mixed Tryz.func58 [lv bV.cells ak,iv from_,iv bZ,iv day] (fun x=>iv x) true (jY ak from_ bZ day) (u0 (NW ak from_ bZ day)) (B1 ak from_ bZ day)
def qS (s:Int) (a:Int) (b:Int):Sk (Int × Int) :=
 .r 1 (.au (.p (b≠0)) (.p (a≠0))) fun _ =>
 .br (decide ((ar (s.tdiv b)) > (ar ((1099511627776:Int).tdiv a))))
 (.fin (0,3))
 (.r 3 (.au (.p (b≠0)) (.au (.p (b≠0)) (.p (b≠0)))) fun _ =>
 .br (decide ((ar ((ar ((ar (s.tdiv b)) * a))+(ar ((ar ((s.tmod b) * a)).tdiv b)))) > 1099511627776))
 (.fin (0,3))
 (.fin (ar ((ar ((ar (s.tdiv b)) * a))+(ar ((ar ((s.tmod b) * a)).tdiv b))),0)))
def DA s a b:=(qS s a b).val
theorem LC (s:Int) (a:Int) (b:Int) (ha:(1≤a∧a≤1073741824)) (hb:(1≤b∧b≤1073741824)):(qS s a b).bE (fun _=>True):=by
 unfold qS
 exact oj
def tn s a b:=kk tok mixed Tryz.func59 [iv s,iv a,iv b] (fun x=>.ef [iv x.1,iv x.2]) true (qS s a b) (DA s a b) (u2 (LC s a b))
theorem NX (a b:Int) (ha:0≤a∧a < 18446744073709551616) (hb:0≤b∧b < 18446744073709551616):(0≤(cr a b).1∧(cr a b).1 < 18446744073709551616)∧(0≤(cr a b).2∧(cr a b).2 < 18446744073709551616)∧(cr a b).1 * 18446744073709551616+(cr a b).2=a * b:=wB a b ⟨ha,hb⟩
theorem UT {x y:Int} (hx:0≤x∧x≤1099511627776) (hy:1≤y∧y≤1099511627776):(x > 1099511627776 / y→x * y > 1099511627776)∧(x≤1099511627776 / y→0≤x * y∧x * y≤1099511627776)∧0≤x * y∧x * y≤1208925819614629174706176:=by
 have h0:0≤x * y:=Int.mul_nonneg hx.1 (by omega)
 refine ⟨fun h=>?_,fun h=>⟨h0,?_⟩,h0,?_⟩
 ·have:=Int.lt_mul_of_ediv_lt (by omega:0 < y) h
  exact this
 ·have:=Int.mul_le_of_le_ediv (by omega:0 < y) h
  exact this
 ·have:=Int.mul_le_mul hx.2 hy.2 (by omega) (by omega)
  omega
theorem P8 (s a b:Int) (hb:0 < b):s * a / b=s / b * a+s % b * a / b:=by
 have h:=Int.mul_ediv_add_emod s b
 have e:s * a=s % b * a+b * (s / b * a):=by
  conv=>lhs; rw [← h]
  rw [Int.add_mul,Int.mul_assoc]; omega
 rw [e,Int.add_mul_ediv_left _ _ (by omega)]
 omega
def Jm (s a b:Int):Int × Int:=if s * a / b≤1099511627776 then (s * a / b,0) else (0,3)
theorem Kn {s a b:Int} (hs:0≤s∧s≤1099511627776) (ha:1≤a∧a≤1073741824) (hb:1≤b∧b≤1073741824):DA s a b=Jm s a b:=by
 have e:DA s a b=bif decide ((ar (s.tdiv b)) > (ar ((1099511627776:Int).tdiv a))) then (0,3) else bif decide ((ar ((ar ((ar (s.tdiv b)) * a))+(ar ((ar ((s.tmod b) * a)).tdiv b)))) > 1099511627776) then (0,3) else (ar ((ar ((ar (s.tdiv b)) * a))+(ar ((ar ((s.tmod b) * a)).tdiv b))),0):=rfl
 rw [e,Int.tdiv_eq_ediv_of_nonneg hs.1,Int.tdiv_eq_ediv_of_nonneg (by omega),Int.tmod_eq_emod_of_nonneg hs.1]
 have hq:0≤s / b∧s / b≤1099511627776:=⟨Int.ediv_nonneg hs.1 (by omega),by have:=Int.ediv_le_self b hs.1; omega⟩
 have hA:0≤1099511627776 / a∧1099511627776 / a≤1099511627776:=⟨Int.ediv_nonneg (by omega) (by omega),Int.ediv_le_self _ (by omega)⟩
 have hr:0≤s % b∧s % b < b:=⟨Int.emod_nonneg _ (by omega),Int.emod_lt_of_pos _ (by omega)⟩
 have hra:0≤s % b * a∧s % b * a≤1152921504606846976:=⟨Int.mul_nonneg hr.1 (by omega),by have:=Int.mul_le_mul (show s % b≤1073741824 by omega) ha.2 (by omega) (by omega); omega⟩
 have hrb:0≤s % b * a / b∧s % b * a / b≤1152921504606846976:=⟨Int.ediv_nonneg hra.1 (by omega),by have:=Int.ediv_le_self b hra.1; omega⟩
 have hp:=UT (x:=s / b) (y:=a) hq ⟨ha.1,by omega⟩
 have JQ:=P8 s a b (by omega)
 rw [az (n:=s / b) (by omega) (by omega),az (n:=1099511627776 / a) (by omega) (by omega)]
 unfold Jm
 by_cases c:s / b > 1099511627776 / a
 ·rw [decide_eq_true c,cond_true,if_neg]
  have:=hp.1 c
  omega
 ·have h2:=hp.2.1 (by omega)
  rw [decide_eq_false c,cond_false,az (n:=s / b * a) (by omega) (by omega),az (n:=s % b * a) (by omega) (by omega),Int.tdiv_eq_ediv_of_nonneg hra.1,az (n:=s % b * a / b) (by omega) (by omega),az (n:=s / b * a+s % b * a / b) (by omega) (by omega),← JQ]
  by_cases c2:s * a / b > 1099511627776
  ·rw [decide_eq_true c2,cond_true,if_neg (by omega)]
  ·rw [decide_eq_false c2,cond_false,if_pos (by omega)]
theorem NY {s a b:Int} (hs:0≤s∧s≤1099511627776) (ha:1≤a∧a≤1073741824) (hb:1≤b∧b≤1073741824):(bif !(rN s a b).2.2 then ((0:Int),(3:Int)) else ((rN s a b).1,0))=Jm s a b:=by
 have e:rN s a b=bif decide ((cr (IntKind.u64.wrap s) (IntKind.u64.wrap a)).1≥IntKind.u64.wrap b) then (0,0,false) else
   bif decide ((oo (cr (IntKind.u64.wrap s) (IntKind.u64.wrap a)).1 (cr (IntKind.u64.wrap s) (IntKind.u64.wrap a)).2 (IntKind.u64.wrap b)).1 > 1099511627776) then (0,0,false) else
   (ar (oo (cr (IntKind.u64.wrap s) (IntKind.u64.wrap a)).1 (cr (IntKind.u64.wrap s) (IntKind.u64.wrap a)).2 (IntKind.u64.wrap b)).1,ar (oo (cr (IntKind.u64.wrap s) (IntKind.u64.wrap a)).1 (cr (IntKind.u64.wrap s) (IntKind.u64.wrap a)).2 (IntKind.u64.wrap b)).2,true):=rfl
 rw [e,fR (by omega) (by omega),fR (by omega) (by omega),fR (by omega) (by omega)]
 have hm:=NX s a ⟨by omega,by omega⟩ ⟨by omega,by omega⟩
 unfold Jm
 by_cases c:(cr s a).1≥b
 ·rw [decide_eq_true c,cond_true]
  have h1:b * 18446744073709551616≤s * a:=by
   have:=Int.mul_le_mul_of_nonneg_right c (show (0:Int)≤18446744073709551616 by decide)
   omega
  have h2:18446744073709551616≤s * a / b:=(Int.le_ediv_iff_mul_le (by omega)).2 (by rw [Int.mul_comm]; exact h1)
  rw [if_neg (by omega)]; rfl
 ·have hd:=wC (cr s a).1 (cr s a).2 b ⟨by omega,by omega,by omega,by omega,by omega⟩
  have hd:(oo (cr s a).1 (cr s a).2 b).1=s * a / b:=by rw [← hm.2.2]; exact hd.1
  rw [decide_eq_false c,cond_false,hd]
  by_cases c2:s * a / b > 1099511627776
  ·rw [decide_eq_true c2,cond_true,if_neg (by omega)]; rfl
  ·have h0:0≤s * a / b:=Int.ediv_nonneg (Int.mul_nonneg hs.1 (by omega)) (by omega)
   rw [decide_eq_false c2,cond_false,if_pos (by omega)]
   show (ar (s * a / b),(0:Int))=_
   rw [az (by omega) (by omega)]
def k6 (ak:List bV) (s:Int) (from_:Int) (bZ:Int) (on:Int):Sk (Int × Int) :=
 .r 1 (.dep (.wh (decide (((ak.length:Nat):Int) > 100)) false ((Dy s).c)) fun x1=>.wh ((decide (((ak.length:Nat):Int) > 100))||(!x1)) false ((Dz on).c)) fun p9 =>
 .br (((decide (((ak.length:Nat):Int) > 100))||(!p9.1))||(!p9.2))
 (.fin (0,1))
 (.bind true (fun b3=>∀ q,q < ak.length→(1≤(ak.getD q default).num∧(ak.getD q default).num≤1073741824)∧(1≤(ak.getD q default).den∧(ak.getD q default).den≤1073741824))
 (.loop (default:Sum (Int × Int) (Unit)) (fun i4=>i4≤ak.length∧∀ q,q < i4→(1≤(ak.getD q default).num∧(ak.getD q default).num≤1073741824)∧(1≤(ak.getD q default).den∧(ak.getD q default).den≤1073741824)) (fun i4=>ak.length - i4) (0:Nat)
 (fun (i4:Nat)=>⟨[(12,iv (i4:Int))],[]⟩) fun i4 =>
 .lt 0 0 i4 ak.length
 (.r 6 (.au (.p (bz (i4:Int) ak.length)) (.au (.wh (decide (((ak.getD i4 default).num) < 1)) false (.p (bz (i4:Int) ak.length))) (.au (.wh ((decide (((ak.getD i4 default).num) < 1))||(decide (((ak.getD i4 default).num) > 1073741824))) false (.p (bz (i4:Int) ak.length))) (.wh (((decide (((ak.getD i4 default).num) < 1))||(decide (((ak.getD i4 default).num) > 1073741824)))||(decide (((ak.getD i4 default).den) < 1))) false (.p (bz (i4:Int) ak.length)))))) fun _ =>
 .br ((((decide (((ak.getD i4 default).num) < 1))||(decide (((ak.getD i4 default).num) > 1073741824)))||(decide (((ak.getD i4 default).den) < 1)))||(decide (((ak.getD i4 default).den) > 1073741824)))
 (.fin (.inl (.inl (0,1))))
 (.nx 5 12 i4 (i4+1)))
 (.fin (.inl (.inr ()))))
 (fun (_:Unit)=>⟨[],[]⟩) fun _ =>
 .br (from_ == bZ)
 (.fin (s,0))
 (.r 10 ((vS ak from_ bZ on).c) fun x5 =>
 .br (decide (x5≥0))
 (.r 12 (.au (.p (bz x5 ak.length)) (.au (.p (bz x5 ak.length)) ((tn s ((ak.getD x5.toNat default).num) ((ak.getD x5.toNat default).den)).c))) fun x6 =>
 .fin (x6.1,x6.2))
 (.r 13 ((vS ak bZ from_ on).c) fun x7 =>
 .br (decide (x7≥0))
 (.r 15 (.au (.p (bz x7 ak.length)) (.au (.p (bz x7 ak.length)) ((tn s ((ak.getD x7.toNat default).den) ((ak.getD x7.toNat default).num)).c))) fun x8 =>
 .fin (x8.1,x8.2))
 (.fin (0,4)))))
def fc ak s from_ bZ on:=(k6 ak s from_ bZ on).val
theorem HH (ak:List bV) (s:Int) (from_:Int) (bZ:Int) (on:Int):(k6 ak s from_ bZ on).bE (fun _=>True):=by
 refine Sk.bm _ ?_
 unfold k6
 simp only [Sk.j2,Sk.aU,reduceCtorEq,ON,kk,kp,vS,Dz,Dy,tn,HF,HE,forall_eq,maxLen]
 intro S6
 have two:∀ {x:Int} {p:Bool × bV},Af ak x p ak.length→x≥0→0≤x∧x < (ak.length:Int):=fun h h0=>by
  rcases h with h | h <;> omega
 refine ⟨⟨⟨Nat.zero_le _,fun q hq=>absurd hq (by omega)⟩,fun i hi hm=>⟨fun hc=>⟨⟨⟨by omega,of_decide_eq_true hc⟩,fun _=>⟨by omega,of_decide_eq_true hc⟩,fun _=>⟨by omega,of_decide_eq_true hc⟩,fun _=>⟨by omega,of_decide_eq_true hc⟩⟩,fun _ hx _=>⟨?_,⟨?_,fun q hq=>?_⟩,?_⟩⟩,fun hc q hq=>?_⟩⟩,fun b hb hab h1=>⟨fun h0=>?_,fun h0 h2 h3=>?_⟩⟩
 ·simp only [LN] at hc
  exact (az (by omega) (by omega)).trans (by omega)
 ·simp only [LN] at hc; omega
 ·simp only [LN] at hc hx
  rcases Nat.lt_succ_iff_lt_or_eq.1 hq with h1 | rfl
  ·exact hi.2 q h1
  ·omega
 ·simp only [LN] at hc; omega
 ·simp only [LN] at hc
  exact hi.2 q (by omega)
 ·have t:=two h1 (of_decide_eq_true h0)
  exact ⟨t,t,hb _ (by omega)⟩
 ·have t:=two h2 (of_decide_eq_true h3)
  have:=hb (jY ak bZ from_ on).toNat (by omega)
  exact ⟨t,t,this.2,this.1⟩
def lY ak s from_ bZ on:=kk tok mixed Tryz.func29 [lv bV.cells ak,iv s,iv from_,iv bZ,iv on] (fun x=>.ef [iv x.1,iv x.2]) true (k6 ak s from_ bZ on) (fc ak s from_ bZ on) (u0 (HH ak s from_ bZ on))
theorem Xx (x:aw) (r:af):bW x r = !(kq r x):=by
 simp only [bW,dN,Sk.bU,Sk.aN,eo.qB,kk,kp,lL]
def tp (s:Bool) (x:bV):Bool:=(s||!(jG (ar (x.num - 1)) 1073741823))||!(jG (ar (x.den - 1)) 1073741823)
def RA (ak:List bV) (sum day:Int):Bool:=ak.foldl tp (((decide ((ak.length:Int) > 100))||(!(jG sum 1099511627776)))||(!(jG day 100000)))
theorem Y3 (ak:List bV) (sum a b day:Int):∃ rest:Int × Int,bF ak sum a b day=bif RA ak sum day then (0,1) else bif a == b then (sum,0) else rest:=by
 simp only [bF,gA,Sk.bU,bD.Br,bD.PN,eo.qB,kk,kp,gI]
 rw [Sk.cu]
 have h:∀ (k:Bool→Sk (Int × Int)) (m:Nat→Nat),True:=fun _ _=>trivial
 rw [Sk.cS,jC ak (fun s i=>(s,i)) (fun x s=>Sum.inr (tp s x)) (fun s=>Sum.inr s) (fun s i hi=>?_) (fun s=>?_) (by simp) _]
 ·rw [gZ (fun (x:bV) s=>tp s x)]
  show ∃ rest:Int × Int,dZ (Sum.inr (RA ak sum day)) _=_
  simp only [cN,Sk.aZ,Sk.aN]
  exact ⟨_,rfl⟩
 ·simp only [Sk.bQ,Sk.aZ,Sk.bU,Sk.cw,Sk.aN,bD.Br,bD.PN,eo.qB,kk,kp]
  rw [decide_eq_true (by omega),cond_true]
  rfl
 ·simp only [Sk.bQ,Sk.aZ,Sk.bU,Sk.cw,Sk.aN]
  rw [decide_eq_false (by omega),cond_false]
def nN (x:bV):Prop:=(1≤x.num∧x.num≤1073741824)∧1≤x.den∧x.den≤1073741824
def cv (s:Int) (p q:Bool × bV):Int × Int:=bif p.1 then Jm s p.2.num p.2.den else bif q.1 then Jm s q.2.den q.2.num else (0,4)
def WC (n:Nat) (s on:Int):Bool:=((decide (((n:Nat):Int) > 100))||(!(decide (s≥0)&&decide (s≤1099511627776))))||(!(decide (on≥0)&&decide (on≤100000)))
def NZ (ak:List bV) (s a b on:Int):Int × Int:=bif WC ak.length s on then (0,1) else bif a == b then (s,0) else cv s (zF a b on ak) (zF b a on ak)
theorem SM (ak:List bV) (a b d:Int):vq ak a b d=((zF a b d ak).2,(zF a b d ak).1):=by
 simp only [vq,jU,Sk.cu,Sk.cS,Sk.aN]
 refine (a9 ak (fun (s:Bool × bV) i=>(s.1,i,s.2)) (fun x s=>.inr (Y2 a b d s x)) id _ (fun s i hi=>?_) (fun s=>?_) (by simp) (false,⟨0,0,0,0,0⟩)).trans ?_
 ·simp only [Sk.bQ,Sk.aZ,Sk.bU,Sk.cw,Sk.aN]
  rw [decide_eq_true (by omega),cond_true]
  unfold Y2
  cases (((((ak.getD i default).from_ == a)&&((ak.getD i default).bZ == b))&&(decide ((ak.getD i default).since≤d)))&&((!s.1)||(decide ((ak.getD i default).since > s.2.since)))) <;> rfl
 ·simp only [Sk.bQ,Sk.aZ,Sk.bU,Sk.cw,Sk.aN]
  rw [decide_eq_false (by omega),cond_false]
  rfl
 ·rw [gZ]
  rfl
theorem UU (ak:List bV) (a b d:Int):Af ak (jY ak a b d) (zF a b d ak) ak.length:=Jl ak a b d
theorem Fu {ak:List bV} (hf:∀ x,x∈ak→nN x) {a b d:Int} (h:(zF a b d ak).1=true):nN (zF a b d ak).2:=by
 rcases UU ak a b d with q | q
 ·rw [q.2] at h; cases h
 ·rw [q.2.2]; exact hf _ (ic (by omega) _)
def HJ (x:bV) (_:Unit):(Int × Int) ⊕ Unit:=bif ((((decide (x.num < 1))||(decide (x.num > 1073741824)))||(decide (x.den < 1)))||(decide (x.den > 1073741824))) then .inl (0,1) else .inr ()
theorem RB (fin:Unit→Int × Int):∀ (l:List bV),(∀ x,x∈l→nN x)→walk HJ fin l ()=fin ()
 | [],_=>rfl
 | x :: r,h=>by
  have hx:=h x (by simp)
  have e:HJ x ()=.inr ():=by
   unfold HJ
   have:((((decide (x.num < 1))||(decide (x.num > 1073741824)))||(decide (x.den < 1)))||(decide (x.den > 1073741824)))=false:=by
    unfold nN at hx; simp only [LN]; omega
   rw [this,cond_false]
  simp only [walk,e]
  exact RB fin r (fun y hy=>h y (by simp [hy]))
theorem Jn {ak:List bV} (hf:∀ x,x∈ak→nN x) (s a b on:Int):fc ak s a b on=NZ ak s a b on:=by
 unfold NZ
 simp only [fc,k6,Sk.bU,Sk.aZ,Sk.cu,Sk.cS,Sk.aN,bD.Br,bD.PN,bD.tJ,eo.qB,kk,kp,Dy,Dz,HE,HF,vS,tn]
 show (bif WC ak.length s on then _ else _)=_
 cases hc:WC ak.length s on with
 | true=>rfl
 | false =>
  simp only [cond_false]
  have hs:0≤s∧s≤1099511627776:=by
   unfold WC at hc; simp only [LN] at hc; omega
  refine (a9 ak (fun (s:Unit) i=>i) HJ id _ (fun s i hi=>?_) (fun s=>?_) (by simp) ()).trans ?_
  ·simp only [Sk.bQ,Sk.aZ,Sk.bU,Sk.cw,Sk.aN]
   rw [decide_eq_true (by omega),cond_true]
   unfold HJ
   cases ((((decide ((ak.getD i default).num < 1))||(decide ((ak.getD i default).num > 1073741824)))||(decide ((ak.getD i default).den < 1)))||(decide ((ak.getD i default).den > 1073741824))) <;> rfl
  ·simp only [Sk.bQ,Sk.aZ,Sk.bU,Sk.cw,Sk.aN]
   rw [decide_eq_false (by omega),cond_false]
  ·rw [RB _ ak hf]
   cases hab:(a == b) with
   | true=>rfl
   | false =>
    simp only [cond_false]
    have h1:=UU ak a b on
    have h2:=UU ak b a on
    unfold cv
    rcases h1 with h1 | h1
    ·have e1:¬ (jY ak a b on≥0):=by omega
     simp only [e1,decide_false,cond_false,h1.2]
     rcases h2 with h2 | h2
     ·have e2:¬ (jY ak b a on≥0):=by omega
      simp only [e2,decide_false,cond_false,h2.2]
     ·have e2:jY ak b a on≥0:=h2.1
      have e3:(zF b a on ak).1=true:=by rw [h2.2.2]
      have e4:(zF b a on ak).2=ak.getD (jY ak b a on).toNat default:=by rw [h2.2.2]
      simp only [e2,decide_true,cond_true,e3,e4]
      have hr:=hf _ (ic (show (jY ak b a on).toNat < ak.length by omega) default)
      exact Kn hs hr.2 hr.1
    ·have e1:jY ak a b on≥0:=h1.1
     have e3:(zF a b on ak).1=true:=by rw [h1.2.2]
     have e4:(zF a b on ak).2=ak.getD (jY ak a b on).toNat default:=by rw [h1.2.2]
     simp only [e1,decide_true,cond_true,e3,e4]
     have hr:=hf _ (ic (show (jY ak a b on).toNat < ak.length by omega) default)
     exact Kn hs hr.1 hr.2
theorem RC (n m:Int):jG n m=(decide (n≥0)&&decide (n≤m)):=rfl
theorem WD {x:bV} (h:nN x) (s:Bool):tp s x=s:=by
 unfold tp
 unfold nN at h
 rw [RC,RC,az (by omega) (by omega),az (by omega) (by omega)]
 have e1:(decide (x.num - 1≥0)&&decide (x.num - 1≤1073741823))=true:=by simp only [LN]; omega
 have e2:(decide (x.den - 1≥0)&&decide (x.den - 1≤1073741823))=true:=by simp only [LN]; omega
 rw [e1,e2]
 simp
theorem N0:∀ (l:List bV) (s:Bool),(∀ x,x∈l→nN x)→l.foldl tp s=s
 | [],_,_=>rfl
 | x :: r,s,h=>by
  rw [List.foldl_cons,WD (h x (by simp)) s]
  exact N0 r s (fun y hy=>h y (by simp [hy]))
theorem wI {ak:List bV} (hf:∀ x,x∈ak→nN x) (s a b on:Int):bF ak s a b on=NZ ak s a b on:=by
 unfold NZ
 simp only [bF,gA,Sk.bU,bD.Br,bD.PN,eo.qB,kk,kp,gI]
 rw [Sk.cu]
 rw [Sk.cS,jC ak (fun s i=>(s,i)) (fun x s=>Sum.inr (tp s x)) (fun s=>Sum.inr s) (fun s i hi=>?_) (fun s=>?_) (by simp) _]
 ·rw [gZ (fun (x:bV) s=>tp s x)]
  rw [N0 ak _ hf]
  simp only [cN,Sk.aZ,Sk.aN,Sk.bU,Sk.cu,eo.qB,kk,kp,nk,vw,SM]
  show (bif WC ak.length s on then _ else _)=_
  cases hc:WC ak.length s on with
  | true=>rfl
  | false =>
   simp only [cond_false]
   have hs:0≤s∧s≤1099511627776:=by
    unfold WC at hc; simp only [LN] at hc; omega
   cases hab:(a == b) with
   | true=>rfl
   | false =>
    simp only [cond_false]
    unfold cv
    cases h1:(zF a b on ak).1 with
    | true =>
     have hr:=Fu hf h1
     simp only [Bool.not_true,cond_false,cond_true,cN,h1]
     exact NY hs hr.1 hr.2
    | false =>
     simp only [Bool.not_false,cond_false,cond_true,cN]
     cases h2:(zF b a on ak).1 with
     | true =>
      have hr:=Fu hf h2
      simp only [Bool.not_true,cond_false,cond_true]
      exact NY hs hr.2 hr.1
     | false=>rfl
 ·simp only [Sk.bQ,Sk.aZ,Sk.bU,Sk.cw,Sk.aN,bD.Br,bD.PN,eo.qB,kk,kp]
  rw [decide_eq_true (by omega),cond_true]
  rfl
 ·simp only [Sk.bQ,Sk.aZ,Sk.bU,Sk.cw,Sk.aN]
  rw [decide_eq_false (by omega),cond_false]
theorem B2 {ak:List bV} (hf:∀ x,x∈ak→nN x) (s a b on:Int):fc ak s a b on=bF ak s a b on:=(Jn hf s a b on).trans (wI hf s a b on).symm
def jZ (r:af) (f:aD) (j:aQ) (l:List aw) (day:Int):Sk (Int × Int) :=
 .r 1 ((jA r f j).c) fun x1 =>
 .br (((x1 != 0)||(decide (day < 0)))||(decide (day > 100000)))
 (.fin (0,1))
 (.br (decide (((l.length:Nat):Int) > 200))
 (.fin (0,6))
 (.bt
 (.loop (default:Sum (Int × Int) (Unit)) (fun i3=>i3≤l.length) (fun i3=>l.length - i3) (0:Nat)
 (fun (i3:Nat)=>⟨[(12,iv (i3:Int))],[]⟩) fun i3 =>
 .lt 3 0 i3 l.length
 (.r 8 (.au (.p (bz (i3:Int) l.length)) ((yb r (l.getD i3 default)).c)) fun x4 =>
 .br (!x4)
 (.fin (.inl (.inl (0,1))))
 (.nx 7 12 i3 (i3+1)))
 (.fin (.inl (.inr ()))))
 (fun (_:Unit)=>⟨[],[]⟩) fun _ =>
 .bt
 (.loop (default:Sum (Int × Int) (Int)) (fun i6=>i6.2≤l.length) (fun i6=>l.length - i6.2) ((0,0):Int × Nat)
 (fun (i6:Int × Nat)=>⟨[(13,iv i6.1),(14,iv (i6.2:Int))],[]⟩) fun i6 =>
 .lt 3 0 i6.2 l.length
 (.r 14 (.au (.p (bz (i6.2:Int) l.length)) (.au (.wh (((l.getD i6.2 default).aA) == j.aA) true (.p (bz (i6.2:Int) l.length))) (.wh ((((l.getD i6.2 default).aA) == j.aA)&&(((l.getD i6.2 default).bZ) == j.aP)) true (.p (bz (i6.2:Int) l.length))))) fun _ =>
 .br (((((l.getD i6.2 default).aA) == j.aA)&&(((l.getD i6.2 default).bZ) == j.aP))&&(decide (((l.getD i6.2 default).day)≤day)))
 (.r 15 (.au (.p (bz (i6.2:Int) l.length)) (.au (.p (bz (i6.2:Int) l.length)) (.au (.p (bz (i6.2:Int) l.length)) ((lY r.ak ((l.getD i6.2 default).sum) ((l.getD i6.2 default).aq) f.aA.aq ((l.getD i6.2 default).day)).c)))) fun x7 =>
 .br (x7.2 != 0)
 (.fin (.inl (.inl (0,x7.2))))
 (.nx 13 14 i6.2 (ar (i6.1+x7.1),i6.2+1)))
 (.nx 13 14 i6.2 (i6.1,i6.2+1)))
 (.fin (.inl (.inr i6.1))))
 (fun (b5:Int)=>⟨[(13,iv b5)],[]⟩) fun b5 =>
 .fin (b5,0)))
def iD r f j l day:=(jZ r f j l day).val
theorem Fa (r:af) (f:aD) (j:aQ) (l:List aw) (day:Int) (cA:f.Small):(jZ r f j l day).bE (fun _=>True):=by
 simp only [aD.Small,af.Small] at cA
 unfold jZ
 try simp only [lY,jA,yb,aD.Small,af.Small]
 exact oj
def k7 r f j l day:=kk tok mixed Tryz.func7 [av r.cells,av f.cells,av j.cells,lv aw.cells l,iv day] (fun x=>.ef [iv x.1,iv x.2]) true (jZ r f j l day) (iD r f j l day) (Fa r f j l day)
def pn (n:Int):Sk (ah) :=
 .fin ({ known:=true,n:=n }:ah)
def HK n:=(pn n).val
theorem zG (n:Int):HK n=({ known:=true,n:=n }:ah):=rfl
theorem Jo (n:Int):(pn n).bE (fun _=>True):=by
 unfold pn
 exact mY
def eS n:=kk tok mixed Tryz.func175 [iv n] (fun x=>av x.cells) true (pn n) (HK n) (u0 (Jo n))
def qT (tN:Bool):Sk (ah) :=
 .br tN
 (.r 2 ((eS 1).c) fun x1 =>
 .fin x1)
 (.r 3 ((eS 0).c) fun x2 =>
 .fin x2)
def ke tN:=(qT tN).val
theorem LD (tN:Bool):(qT tN).bE (fun _=>True):=by
 unfold qT
 try simp only [eS,zG]
 exact qJ
def iE tN:=kk tok mixed Tryz.func176 [bv tN] (fun x=>av x.cells) true (qT tN) (ke tN) (u0 (LD tN))
def vT (flags:Int) (one:Int):Sk (Bool) :=
 .fin ((c9 .i64 flags one) == one)
def pq flags one:=(vT flags one).val
theorem P9 (flags:Int) (one:Int):pq flags one=((c9 .i64 flags one) == one):=rfl
theorem Qa (flags:Int) (one:Int):(vT flags one).bE (fun _=>True):=by
 unfold vT
 exact mY
def uX flags one:=kk tok mixed Tryz.func177 [iv flags,iv one] (fun x=>bv x) true (vT flags one) (pq flags one) (u0 (Qa flags one))
def jt (r:af) (aJ:Int):Sk (Int) :=
 .r 1 ((aK aJ 0 (ar (((r.aC.length:Nat):Int) - 1))).c) fun x1 =>
 .br x1
 (.r 2 (.p (bz aJ r.aC.length)) fun _ =>
 .fin ((r.aC.getD aJ.toNat default).order))
 (.fin (-1))
def gy r aJ:=(jt r aJ).val
theorem Fb (r:af) (aJ:Int) (hP:r.aC.length≤1000000):(jt r aJ).dz (fun (x:Int)=>x=aV r aJ):=by
 refine Sk.bq _ ?_
 unfold jt
 simp only [Sk.cV,Sk.aU,reduceCtorEq,ON,kk,kp,aK,bN,forall_eq,aD.Small,af.Small,maxLen]
 have e:aV r aJ=bif !(uF aJ r.aC.length) then -1 else (r.aC.getD aJ.toNat default).order:=rfl
 have e2:uF aJ r.aC.length=(decide (aJ≥0)&&decide (aJ < (r.aC.length:Int))):=rfl
 rw [e,e2]
 have hw:ar ((r.aC.length:Int) - 1)=(r.aC.length:Int) - 1:=az (by omega) (by omega)
 rw [hw]
 refine ⟨fun hc _=>?_,fun hc=>?_⟩
 all_goals simp only [LN] at hc
 ·have:(!(decide (aJ≥0)&&decide (aJ < (r.aC.length:Int))))=false:=by simp only [LN]; omega
  rw [this,cond_false]
 ·have:(!(decide (aJ≥0)&&decide (aJ < (r.aC.length:Int))))=true:=by simp only [LN]; omega
  rw [this,cond_true]
theorem oJ (r:af) (aJ:Int):(fun (x:Int)=>(r.aC.length≤1000000)→(x=aV r aJ)) (gy r aJ):=fun hP=>have h:=Sk.dA _ (Fb r aJ hP); h
theorem HL (r:af) (aJ:Int) (hr:r.Small):(jt r aJ).bE (fun _=>True):=by
 simp only [aD.Small,af.Small] at hr
 unfold jt
 try simp only [aK,bN,aD.Small,af.Small]
 exact qJ
def dR r aJ:=kk tok mixed Tryz.func142 [av r.cells,iv aJ] (fun x=>iv x) true (jt r aJ) (gy r aJ) (HL r aJ) (fun (x:Int)=>(r.aC.length≤1000000)→(x=aV r aJ)) (oJ r aJ)
def pV (f:aD) (kind:Int) (at_:Int):Sk (ah) :=
 .bt
 (.loop (default:Sum (ah) (Unit)) (fun i2=>i2≤f.facts.length) (fun i2=>f.facts.length - i2) (0:Nat)
 (fun (i2:Nat)=>⟨[(7,iv (i2:Int))],[]⟩) fun i2 =>
 .lt 3 18 i2 f.facts.length
 (.r 4 (.au (.p (bz (i2:Int) f.facts.length)) (.wh (((f.facts.getD i2 default).kind) == kind) true (.p (bz (i2:Int) f.facts.length)))) fun _ =>
 .br ((((f.facts.getD i2 default).kind) == kind)&&(((f.facts.getD i2 default).at_) == at_))
 (.r 5 (.p (bz (i2:Int) f.facts.length)) fun _ =>
 .br (((f.facts.getD i2 default).n) == 0)
 (.fin (.inl (.inl ({ known:=true,n:=0 }:ah))))
 (.fin (.inl (.inl ({ known:=true,n:=1 }:ah)))))
 (.nx 3 7 i2 (i2+1)))
 (.fin (.inl (.inr ()))))
 (fun (_:Unit)=>⟨[],[]⟩) fun _ =>
 .fin ({ known:=false,n:=0 }:ah)
def pW f kind at_:=(pV f kind at_).val
theorem N1 (f:aD) (kind:Int) (at_:Int):(pV f kind at_).bE (fun _=>True):=by
 unfold pV
 exact oj
def oK f kind at_:=kk tok mixed Tryz.func178 [av f.cells,iv kind,iv at_] (fun x=>av x.cells) true (pV f kind at_) (pW f kind at_) (u0 (N1 f kind at_))
def tq (r:af) (c_:cy):Sk ((List ah)) :=
 .br ((((((decide (c_.sign < 0))||(decide (c_.sign≥((c_.file.ai.length:Nat):Int))))||(decide (c_.cF < (-1))))||(decide (c_.cF≥((c_.file.ai.length:Nat):Int))))||(decide (c_.due < (-1))))||(decide (c_.due > 100000)))
 (.fin [])
 (.r 4 (.p (bz c_.sign c_.file.ai.length)) fun _ =>
 .br ((decide (((c_.file.ai.getD c_.sign.toNat default).day) < 0))||(decide (((c_.file.ai.getD c_.sign.toNat default).day) > 100000)))
 (.fin [])
 (.r 7 (.au (.o [.dy (Xr ah.E 20 ({ known:=false,n:=0 }:ah))]) (.p (PL (20:Int) 16))) fun _ =>
 .r 8 (.fA ((eS c_.file.aA.sum).c) fun x1=>.au (.p (bz (0:Int) ((List.replicate 20 ({ known:=false,n:=0 }:ah)).length))) (.au (.o [.dy (iQ ah.E (List.replicate 20 ({ known:=false,n:=0 }:ah)) 0 x1)]) (.p (0 < (List.replicate 20 ({ known:=false,n:=0 }:ah)).length)))) fun x1 =>
 .wn 62 (List.replicate 20 ({ known:=false,n:=0 }:ah)).length ((List.replicate 20 ({ known:=false,n:=0 }:ah)).set 0 x1).length <|
 .r 9 (.fA ((eS c_.file.aA.parts).c) fun x2=>.au (.p (bz (1:Int) (((List.replicate 20 ({ known:=false,n:=0 }:ah)).set 0 x1).length))) (.au (.o [.dy (iQ ah.E ((List.replicate 20 ({ known:=false,n:=0 }:ah)).set 0 x1) 1 x2)]) (.p (1 < ((List.replicate 20 ({ known:=false,n:=0 }:ah)).set 0 x1).length)))) fun x2 =>
 .wn 62 ((List.replicate 20 ({ known:=false,n:=0 }:ah)).set 0 x1).length (((List.replicate 20 ({ known:=false,n:=0 }:ah)).set 0 x1).set 1 x2).length <|
 .r 10 (.fA ((eS c_.file.aA.aE.kind).c) fun x3=>.au (.p (bz (2:Int) ((((List.replicate 20 ({ known:=false,n:=0 }:ah)).set 0 x1).set 1 x2).length))) (.au (.o [.dy (iQ ah.E (((List.replicate 20 ({ known:=false,n:=0 }:ah)).set 0 x1).set 1 x2) 2 x3)]) (.p (2 < (((List.replicate 20 ({ known:=false,n:=0 }:ah)).set 0 x1).set 1 x2).length)))) fun x3 =>
 .wn 62 (((List.replicate 20 ({ known:=false,n:=0 }:ah)).set 0 x1).set 1 x2).length ((((List.replicate 20 ({ known:=false,n:=0 }:ah)).set 0 x1).set 1 x2).set 2 x3).length <|
 .r 11 (.fA ((eS c_.file.aA.zd).c) fun x4=>.au (.p (bz (3:Int) (((((List.replicate 20 ({ known:=false,n:=0 }:ah)).set 0 x1).set 1 x2).set 2 x3).length))) (.au (.o [.dy (iQ ah.E ((((List.replicate 20 ({ known:=false,n:=0 }:ah)).set 0 x1).set 1 x2).set 2 x3) 3 x4)]) (.p (3 < ((((List.replicate 20 ({ known:=false,n:=0 }:ah)).set 0 x1).set 1 x2).set 2 x3).length)))) fun x4 =>
 .wn 62 ((((List.replicate 20 ({ known:=false,n:=0 }:ah)).set 0 x1).set 1 x2).set 2 x3).length (((((List.replicate 20 ({ known:=false,n:=0 }:ah)).set 0 x1).set 1 x2).set 2 x3).set 3 x4).length <|
 .r 12 (.fA ((eS ((c_.file.ai.getD c_.sign.toNat default).kind)).c) fun x5=>.au (.p (bz (4:Int) ((((((List.replicate 20 ({ known:=false,n:=0 }:ah)).set 0 x1).set 1 x2).set 2 x3).set 3 x4).length))) (.au (.o [.dy (iQ ah.E (((((List.replicate 20 ({ known:=false,n:=0 }:ah)).set 0 x1).set 1 x2).set 2 x3).set 3 x4) 4 x5)]) (.p (4 < (((((List.replicate 20 ({ known:=false,n:=0 }:ah)).set 0 x1).set 1 x2).set 2 x3).set 3 x4).length)))) fun x5 =>
 .wn 62 (((((List.replicate 20 ({ known:=false,n:=0 }:ah)).set 0 x1).set 1 x2).set 2 x3).set 3 x4).length ((((((List.replicate 20 ({ known:=false,n:=0 }:ah)).set 0 x1).set 1 x2).set 2 x3).set 3 x4).set 4 x5).length <|
 .r 13 (.fA ((eS c_.fL).c) fun x6=>.au (.p (bz (5:Int) (((((((List.replicate 20 ({ known:=false,n:=0 }:ah)).set 0 x1).set 1 x2).set 2 x3).set 3 x4).set 4 x5).length))) (.au (.o [.dy (iQ ah.E ((((((List.replicate 20 ({ known:=false,n:=0 }:ah)).set 0 x1).set 1 x2).set 2 x3).set 3 x4).set 4 x5) 5 x6)]) (.p (5 < ((((((List.replicate 20 ({ known:=false,n:=0 }:ah)).set 0 x1).set 1 x2).set 2 x3).set 3 x4).set 4 x5).length)))) fun x6 =>
 .wn 62 ((((((List.replicate 20 ({ known:=false,n:=0 }:ah)).set 0 x1).set 1 x2).set 2 x3).set 3 x4).set 4 x5).length (((((((List.replicate 20 ({ known:=false,n:=0 }:ah)).set 0 x1).set 1 x2).set 2 x3).set 3 x4).set 4 x5).set 5 x6).length <|
 .bind false (fun _=>True)
 (.br (c_.due != (-1))
 (.fin (.inr (ar (((c_.file.ai.getD c_.sign.toNat default).day) - c_.due))))
 (.fin (.inr 0)))
 (fun (b7:Int)=>⟨[(8,iv b7)],[]⟩) fun b7 =>
 .r 17 (.fA ((eS b7).c) fun x8=>.au (.p (bz (6:Int) ((((((((List.replicate 20 ({ known:=false,n:=0 }:ah)).set 0 x1).set 1 x2).set 2 x3).set 3 x4).set 4 x5).set 5 x6).length))) (.au (.o [.dy (iQ ah.E (((((((List.replicate 20 ({ known:=false,n:=0 }:ah)).set 0 x1).set 1 x2).set 2 x3).set 3 x4).set 4 x5).set 5 x6) 6 x8)]) (.p (6 < (((((((List.replicate 20 ({ known:=false,n:=0 }:ah)).set 0 x1).set 1 x2).set 2 x3).set 3 x4).set 4 x5).set 5 x6).length)))) fun x8 =>
 .wn 62 (((((((List.replicate 20 ({ known:=false,n:=0 }:ah)).set 0 x1).set 1 x2).set 2 x3).set 3 x4).set 4 x5).set 5 x6).length ((((((((List.replicate 20 ({ known:=false,n:=0 }:ah)).set 0 x1).set 1 x2).set 2 x3).set 3 x4).set 4 x5).set 5 x6).set 6 x8).length <|
 .r 18 (.fA ((iE (decide (b7 > 0))).c) fun x9=>.au (.p (bz (14:Int) (((((((((List.replicate 20 ({ known:=false,n:=0 }:ah)).set 0 x1).set 1 x2).set 2 x3).set 3 x4).set 4 x5).set 5 x6).set 6 x8).length))) (.au (.o [.dy (iQ ah.E ((((((((List.replicate 20 ({ known:=false,n:=0 }:ah)).set 0 x1).set 1 x2).set 2 x3).set 3 x4).set 4 x5).set 5 x6).set 6 x8) 14 x9)]) (.p (14 < ((((((((List.replicate 20 ({ known:=false,n:=0 }:ah)).set 0 x1).set 1 x2).set 2 x3).set 3 x4).set 4 x5).set 5 x6).set 6 x8).length)))) fun x9 =>
 .wn 62 ((((((((List.replicate 20 ({ known:=false,n:=0 }:ah)).set 0 x1).set 1 x2).set 2 x3).set 3 x4).set 4 x5).set 5 x6).set 6 x8).length (((((((((List.replicate 20 ({ known:=false,n:=0 }:ah)).set 0 x1).set 1 x2).set 2 x3).set 3 x4).set 4 x5).set 5 x6).set 6 x8).set 14 x9).length <|
 .r 19 (.dep ((uX c_.file.aA.flags 1).c) fun C0=>.fA ((iE C0).c) fun Ri=>.au (.p (bz (7:Int) ((((((((((List.replicate 20 ({ known:=false,n:=0 }:ah)).set 0 x1).set 1 x2).set 2 x3).set 3 x4).set 4 x5).set 5 x6).set 6 x8).set 14 x9).length))) (.au (.o [.dy (iQ ah.E (((((((((List.replicate 20 ({ known:=false,n:=0 }:ah)).set 0 x1).set 1 x2).set 2 x3).set 3 x4).set 4 x5).set 5 x6).set 6 x8).set 14 x9) 7 Ri)]) (.p (7 < (((((((((List.replicate 20 ({ known:=false,n:=0 }:ah)).set 0 x1).set 1 x2).set 2 x3).set 3 x4).set 4 x5).set 5 x6).set 6 x8).set 14 x9).length)))) fun nZ =>
 .wn 62 (((((((((List.replicate 20 ({ known:=false,n:=0 }:ah)).set 0 x1).set 1 x2).set 2 x3).set 3 x4).set 4 x5).set 5 x6).set 6 x8).set 14 x9).length ((((((((((List.replicate 20 ({ known:=false,n:=0 }:ah)).set 0 x1).set 1 x2).set 2 x3).set 3 x4).set 4 x5).set 5 x6).set 6 x8).set 14 x9).set 7 nZ.2).length <|
 .r 20 (.dep ((uX c_.file.aA.flags 2).c) fun YY=>.fA ((iE YY).c) fun x13=>.au (.p (bz (10:Int) (((((((((((List.replicate 20 ({ known:=false,n:=0 }:ah)).set 0 x1).set 1 x2).set 2 x3).set 3 x4).set 4 x5).set 5 x6).set 6 x8).set 14 x9).set 7 nZ.2).length))) (.au (.o [.dy (iQ ah.E ((((((((((List.replicate 20 ({ known:=false,n:=0 }:ah)).set 0 x1).set 1 x2).set 2 x3).set 3 x4).set 4 x5).set 5 x6).set 6 x8).set 14 x9).set 7 nZ.2) 10 x13)]) (.p (10 < ((((((((((List.replicate 20 ({ known:=false,n:=0 }:ah)).set 0 x1).set 1 x2).set 2 x3).set 3 x4).set 4 x5).set 5 x6).set 6 x8).set 14 x9).set 7 nZ.2).length)))) fun qi =>
 .wn 62 ((((((((((List.replicate 20 ({ known:=false,n:=0 }:ah)).set 0 x1).set 1 x2).set 2 x3).set 3 x4).set 4 x5).set 5 x6).set 6 x8).set 14 x9).set 7 nZ.2).length (((((((((((List.replicate 20 ({ known:=false,n:=0 }:ah)).set 0 x1).set 1 x2).set 2 x3).set 3 x4).set 4 x5).set 5 x6).set 6 x8).set 14 x9).set 7 nZ.2).set 10 qi.2).length <|
 .r 21 (.dep ((uX c_.file.aA.flags 4).c) fun x14=>.fA ((iE x14).c) fun x15=>.au (.p (bz (9:Int) ((((((((((((List.replicate 20 ({ known:=false,n:=0 }:ah)).set 0 x1).set 1 x2).set 2 x3).set 3 x4).set 4 x5).set 5 x6).set 6 x8).set 14 x9).set 7 nZ.2).set 10 qi.2).length))) (.au (.o [.dy (iQ ah.E (((((((((((List.replicate 20 ({ known:=false,n:=0 }:ah)).set 0 x1).set 1 x2).set 2 x3).set 3 x4).set 4 x5).set 5 x6).set 6 x8).set 14 x9).set 7 nZ.2).set 10 qi.2) 9 x15)]) (.p (9 < (((((((((((List.replicate 20 ({ known:=false,n:=0 }:ah)).set 0 x1).set 1 x2).set 2 x3).set 3 x4).set 4 x5).set 5 x6).set 6 x8).set 14 x9).set 7 nZ.2).set 10 qi.2).length)))) fun si =>
 .wn 62 (((((((((((List.replicate 20 ({ known:=false,n:=0 }:ah)).set 0 x1).set 1 x2).set 2 x3).set 3 x4).set 4 x5).set 5 x6).set 6 x8).set 14 x9).set 7 nZ.2).set 10 qi.2).length ((((((((((((List.replicate 20 ({ known:=false,n:=0 }:ah)).set 0 x1).set 1 x2).set 2 x3).set 3 x4).set 4 x5).set 5 x6).set 6 x8).set 14 x9).set 7 nZ.2).set 10 qi.2).set 9 si.2).length <|
 .r 22 (.fA ((iE (c_.file.aA.gU == (-1))).c) fun tu=>.au (.p (bz (8:Int) (((((((((((((List.replicate 20 ({ known:=false,n:=0 }:ah)).set 0 x1).set 1 x2).set 2 x3).set 3 x4).set 4 x5).set 5 x6).set 6 x8).set 14 x9).set 7 nZ.2).set 10 qi.2).set 9 si.2).length))) (.au (.o [.dy (iQ ah.E ((((((((((((List.replicate 20 ({ known:=false,n:=0 }:ah)).set 0 x1).set 1 x2).set 2 x3).set 3 x4).set 4 x5).set 5 x6).set 6 x8).set 14 x9).set 7 nZ.2).set 10 qi.2).set 9 si.2) 8 tu)]) (.p (8 < ((((((((((((List.replicate 20 ({ known:=false,n:=0 }:ah)).set 0 x1).set 1 x2).set 2 x3).set 3 x4).set 4 x5).set 5 x6).set 6 x8).set 14 x9).set 7 nZ.2).set 10 qi.2).set 9 si.2).length)))) fun tu =>
 .wn 62 ((((((((((((List.replicate 20 ({ known:=false,n:=0 }:ah)).set 0 x1).set 1 x2).set 2 x3).set 3 x4).set 4 x5).set 5 x6).set 6 x8).set 14 x9).set 7 nZ.2).set 10 qi.2).set 9 si.2).length (((((((((((((List.replicate 20 ({ known:=false,n:=0 }:ah)).set 0 x1).set 1 x2).set 2 x3).set 3 x4).set 4 x5).set 5 x6).set 6 x8).set 14 x9).set 7 nZ.2).set 10 qi.2).set 9 si.2).set 8 tu).length <|
 .r 23 (.dep ((dR r c_.file.aA.aJ).c) fun ZV=>.dep ((dR r c_.file.aA.qC).c) fun x18=>.fA ((iE (ZV != x18)).c) fun DZ=>.au (.p (bz (11:Int) ((((((((((((((List.replicate 20 ({ known:=false,n:=0 }:ah)).set 0 x1).set 1 x2).set 2 x3).set 3 x4).set 4 x5).set 5 x6).set 6 x8).set 14 x9).set 7 nZ.2).set 10 qi.2).set 9 si.2).set 8 tu).length))) (.au (.o [.dy (iQ ah.E (((((((((((((List.replicate 20 ({ known:=false,n:=0 }:ah)).set 0 x1).set 1 x2).set 2 x3).set 3 x4).set 4 x5).set 5 x6).set 6 x8).set 14 x9).set 7 nZ.2).set 10 qi.2).set 9 si.2).set 8 tu) 11 DZ)]) (.p (11 < (((((((((((((List.replicate 20 ({ known:=false,n:=0 }:ah)).set 0 x1).set 1 x2).set 2 x3).set 3 x4).set 4 x5).set 5 x6).set 6 x8).set 14 x9).set 7 nZ.2).set 10 qi.2).set 9 si.2).set 8 tu).length)))) fun wS =>
 .wn 62 (((((((((((((List.replicate 20 ({ known:=false,n:=0 }:ah)).set 0 x1).set 1 x2).set 2 x3).set 3 x4).set 4 x5).set 5 x6).set 6 x8).set 14 x9).set 7 nZ.2).set 10 qi.2).set 9 si.2).set 8 tu).length ((((((((((((((List.replicate 20 ({ known:=false,n:=0 }:ah)).set 0 x1).set 1 x2).set 2 x3).set 3 x4).set 4 x5).set 5 x6).set 6 x8).set 14 x9).set 7 nZ.2).set 10 qi.2).set 9 si.2).set 8 tu).set 11 wS.2.2).length <|
 .bt
 (.loop (default:Sum ((List ah)) (Bool)) (fun i21=>i21.2≤c_.file.a8.length) (fun i21=>c_.file.a8.length - i21.2) ((false,0):Bool × Nat)
 (fun (i21:Bool × Nat)=>⟨[(9,bv i21.1),(10,iv (i21.2:Int))],[]⟩) fun i21 =>
 .lt 3 16 i21.2 c_.file.a8.length
 (.r 28 (.wh i21.1 false (.p (bz (i21.2:Int) c_.file.a8.length))) fun _ =>
 .r 27 .z fun _ =>
 .wi 10 (ar ((i21.2:Int)+1)) ((i21.2+1:Nat):Int) <|
 .fin (.inr (i21.1||(decide (((c_.file.a8.getD i21.2 default).at_)≤c_.sign)),i21.2+1)))
 (.fin (.inl (.inr i21.1))))
 (fun (b20:Bool)=>⟨[(9,bv b20)],[]⟩) fun b20 =>
 .r 29 (.fA ((iE b20).c) fun sU=>.au (.p (bz (12:Int) (((((((((((((((List.replicate 20 ({ known:=false,n:=0 }:ah)).set 0 x1).set 1 x2).set 2 x3).set 3 x4).set 4 x5).set 5 x6).set 6 x8).set 14 x9).set 7 nZ.2).set 10 qi.2).set 9 si.2).set 8 tu).set 11 wS.2.2).length))) (.au (.o [.dy (iQ ah.E ((((((((((((((List.replicate 20 ({ known:=false,n:=0 }:ah)).set 0 x1).set 1 x2).set 2 x3).set 3 x4).set 4 x5).set 5 x6).set 6 x8).set 14 x9).set 7 nZ.2).set 10 qi.2).set 9 si.2).set 8 tu).set 11 wS.2.2) 12 sU)]) (.p (12 < ((((((((((((((List.replicate 20 ({ known:=false,n:=0 }:ah)).set 0 x1).set 1 x2).set 2 x3).set 3 x4).set 4 x5).set 5 x6).set 6 x8).set 14 x9).set 7 nZ.2).set 10 qi.2).set 9 si.2).set 8 tu).set 11 wS.2.2).length)))) fun sU =>
 .wn 62 ((((((((((((((List.replicate 20 ({ known:=false,n:=0 }:ah)).set 0 x1).set 1 x2).set 2 x3).set 3 x4).set 4 x5).set 5 x6).set 6 x8).set 14 x9).set 7 nZ.2).set 10 qi.2).set 9 si.2).set 8 tu).set 11 wS.2.2).length (((((((((((((((List.replicate 20 ({ known:=false,n:=0 }:ah)).set 0 x1).set 1 x2).set 2 x3).set 3 x4).set 4 x5).set 5 x6).set 6 x8).set 14 x9).set 7 nZ.2).set 10 qi.2).set 9 si.2).set 8 tu).set 11 wS.2.2).set 12 sU).length <|
 .r 30 (.dep ((uX ((c_.file.ai.getD c_.sign.toNat default).flags) 1).c) fun ZW=>.fA ((iE ZW).c) fun x24=>.au (.p (bz (13:Int) ((((((((((((((((List.replicate 20 ({ known:=false,n:=0 }:ah)).set 0 x1).set 1 x2).set 2 x3).set 3 x4).set 4 x5).set 5 x6).set 6 x8).set 14 x9).set 7 nZ.2).set 10 qi.2).set 9 si.2).set 8 tu).set 11 wS.2.2).set 12 sU).length))) (.au (.o [.dy (iQ ah.E (((((((((((((((List.replicate 20 ({ known:=false,n:=0 }:ah)).set 0 x1).set 1 x2).set 2 x3).set 3 x4).set 4 x5).set 5 x6).set 6 x8).set 14 x9).set 7 nZ.2).set 10 qi.2).set 9 si.2).set 8 tu).set 11 wS.2.2).set 12 sU) 13 x24)]) (.p (13 < (((((((((((((((List.replicate 20 ({ known:=false,n:=0 }:ah)).set 0 x1).set 1 x2).set 2 x3).set 3 x4).set 4 x5).set 5 x6).set 6 x8).set 14 x9).set 7 nZ.2).set 10 qi.2).set 9 si.2).set 8 tu).set 11 wS.2.2).set 12 sU).length)))) fun DB =>
 .wn 62 (((((((((((((((List.replicate 20 ({ known:=false,n:=0 }:ah)).set 0 x1).set 1 x2).set 2 x3).set 3 x4).set 4 x5).set 5 x6).set 6 x8).set 14 x9).set 7 nZ.2).set 10 qi.2).set 9 si.2).set 8 tu).set 11 wS.2.2).set 12 sU).length ((((((((((((((((List.replicate 20 ({ known:=false,n:=0 }:ah)).set 0 x1).set 1 x2).set 2 x3).set 3 x4).set 4 x5).set 5 x6).set 6 x8).set 14 x9).set 7 nZ.2).set 10 qi.2).set 9 si.2).set 8 tu).set 11 wS.2.2).set 12 sU).set 13 DB.2).length <|
 .r 32 (.fA ((oK c_.file 0 c_.sign).c) fun Fv=>.au (.p (bz (15:Int) (((((((((((((((((List.replicate 20 ({ known:=false,n:=0 }:ah)).set 0 x1).set 1 x2).set 2 x3).set 3 x4).set 4 x5).set 5 x6).set 6 x8).set 14 x9).set 7 nZ.2).set 10 qi.2).set 9 si.2).set 8 tu).set 11 wS.2.2).set 12 sU).set 13 DB.2).length))) (.au (.o [.dy (iQ ah.E ((((((((((((((((List.replicate 20 ({ known:=false,n:=0 }:ah)).set 0 x1).set 1 x2).set 2 x3).set 3 x4).set 4 x5).set 5 x6).set 6 x8).set 14 x9).set 7 nZ.2).set 10 qi.2).set 9 si.2).set 8 tu).set 11 wS.2.2).set 12 sU).set 13 DB.2) 15 Fv)]) (.p (15 < ((((((((((((((((List.replicate 20 ({ known:=false,n:=0 }:ah)).set 0 x1).set 1 x2).set 2 x3).set 3 x4).set 4 x5).set 5 x6).set 6 x8).set 14 x9).set 7 nZ.2).set 10 qi.2).set 9 si.2).set 8 tu).set 11 wS.2.2).set 12 sU).set 13 DB.2).length)))) fun Fv =>
 .wn 62 ((((((((((((((((List.replicate 20 ({ known:=false,n:=0 }:ah)).set 0 x1).set 1 x2).set 2 x3).set 3 x4).set 4 x5).set 5 x6).set 6 x8).set 14 x9).set 7 nZ.2).set 10 qi.2).set 9 si.2).set 8 tu).set 11 wS.2.2).set 12 sU).set 13 DB.2).length (((((((((((((((((List.replicate 20 ({ known:=false,n:=0 }:ah)).set 0 x1).set 1 x2).set 2 x3).set 3 x4).set 4 x5).set 5 x6).set 6 x8).set 14 x9).set 7 nZ.2).set 10 qi.2).set 9 si.2).set 8 tu).set 11 wS.2.2).set 12 sU).set 13 DB.2).set 15 Fv).length <|
 .r 33 (.fA ((oK c_.file 1 c_.sign).c) fun LF=>.au (.p (bz (16:Int) ((((((((((((((((((List.replicate 20 ({ known:=false,n:=0 }:ah)).set 0 x1).set 1 x2).set 2 x3).set 3 x4).set 4 x5).set 5 x6).set 6 x8).set 14 x9).set 7 nZ.2).set 10 qi.2).set 9 si.2).set 8 tu).set 11 wS.2.2).set 12 sU).set 13 DB.2).set 15 Fv).length))) (.au (.o [.dy (iQ ah.E (((((((((((((((((List.replicate 20 ({ known:=false,n:=0 }:ah)).set 0 x1).set 1 x2).set 2 x3).set 3 x4).set 4 x5).set 5 x6).set 6 x8).set 14 x9).set 7 nZ.2).set 10 qi.2).set 9 si.2).set 8 tu).set 11 wS.2.2).set 12 sU).set 13 DB.2).set 15 Fv) 16 LF)]) (.p (16 < (((((((((((((((((List.replicate 20 ({ known:=false,n:=0 }:ah)).set 0 x1).set 1 x2).set 2 x3).set 3 x4).set 4 x5).set 5 x6).set 6 x8).set 14 x9).set 7 nZ.2).set 10 qi.2).set 9 si.2).set 8 tu).set 11 wS.2.2).set 12 sU).set 13 DB.2).set 15 Fv).length)))) fun LF =>
 .wn 62 (((((((((((((((((List.replicate 20 ({ known:=false,n:=0 }:ah)).set 0 x1).set 1 x2).set 2 x3).set 3 x4).set 4 x5).set 5 x6).set 6 x8).set 14 x9).set 7 nZ.2).set 10 qi.2).set 9 si.2).set 8 tu).set 11 wS.2.2).set 12 sU).set 13 DB.2).set 15 Fv).length ((((((((((((((((((List.replicate 20 ({ known:=false,n:=0 }:ah)).set 0 x1).set 1 x2).set 2 x3).set 3 x4).set 4 x5).set 5 x6).set 6 x8).set 14 x9).set 7 nZ.2).set 10 qi.2).set 9 si.2).set 8 tu).set 11 wS.2.2).set 12 sU).set 13 DB.2).set 15 Fv).set 16 LF).length <|
 .r 34 (.fA ((oK c_.file 2 c_.sign).c) fun RD=>.au (.p (bz (17:Int) (((((((((((((((((((List.replicate 20 ({ known:=false,n:=0 }:ah)).set 0 x1).set 1 x2).set 2 x3).set 3 x4).set 4 x5).set 5 x6).set 6 x8).set 14 x9).set 7 nZ.2).set 10 qi.2).set 9 si.2).set 8 tu).set 11 wS.2.2).set 12 sU).set 13 DB.2).set 15 Fv).set 16 LF).length))) (.au (.o [.dy (iQ ah.E ((((((((((((((((((List.replicate 20 ({ known:=false,n:=0 }:ah)).set 0 x1).set 1 x2).set 2 x3).set 3 x4).set 4 x5).set 5 x6).set 6 x8).set 14 x9).set 7 nZ.2).set 10 qi.2).set 9 si.2).set 8 tu).set 11 wS.2.2).set 12 sU).set 13 DB.2).set 15 Fv).set 16 LF) 17 RD)]) (.p (17 < ((((((((((((((((((List.replicate 20 ({ known:=false,n:=0 }:ah)).set 0 x1).set 1 x2).set 2 x3).set 3 x4).set 4 x5).set 5 x6).set 6 x8).set 14 x9).set 7 nZ.2).set 10 qi.2).set 9 si.2).set 8 tu).set 11 wS.2.2).set 12 sU).set 13 DB.2).set 15 Fv).set 16 LF).length)))) fun RD =>
 .wn 62 ((((((((((((((((((List.replicate 20 ({ known:=false,n:=0 }:ah)).set 0 x1).set 1 x2).set 2 x3).set 3 x4).set 4 x5).set 5 x6).set 6 x8).set 14 x9).set 7 nZ.2).set 10 qi.2).set 9 si.2).set 8 tu).set 11 wS.2.2).set 12 sU).set 13 DB.2).set 15 Fv).set 16 LF).length (((((((((((((((((((List.replicate 20 ({ known:=false,n:=0 }:ah)).set 0 x1).set 1 x2).set 2 x3).set 3 x4).set 4 x5).set 5 x6).set 6 x8).set 14 x9).set 7 nZ.2).set 10 qi.2).set 9 si.2).set 8 tu).set 11 wS.2.2).set 12 sU).set 13 DB.2).set 15 Fv).set 16 LF).set 17 RD).length <|
 .r 35 (.fA ((oK c_.file 3 (cp c_.cF 0)).c) fun WE=>.au (.p (bz (18:Int) ((((((((((((((((((((List.replicate 20 ({ known:=false,n:=0 }:ah)).set 0 x1).set 1 x2).set 2 x3).set 3 x4).set 4 x5).set 5 x6).set 6 x8).set 14 x9).set 7 nZ.2).set 10 qi.2).set 9 si.2).set 8 tu).set 11 wS.2.2).set 12 sU).set 13 DB.2).set 15 Fv).set 16 LF).set 17 RD).length))) (.au (.o [.dy (iQ ah.E (((((((((((((((((((List.replicate 20 ({ known:=false,n:=0 }:ah)).set 0 x1).set 1 x2).set 2 x3).set 3 x4).set 4 x5).set 5 x6).set 6 x8).set 14 x9).set 7 nZ.2).set 10 qi.2).set 9 si.2).set 8 tu).set 11 wS.2.2).set 12 sU).set 13 DB.2).set 15 Fv).set 16 LF).set 17 RD) 18 WE)]) (.p (18 < (((((((((((((((((((List.replicate 20 ({ known:=false,n:=0 }:ah)).set 0 x1).set 1 x2).set 2 x3).set 3 x4).set 4 x5).set 5 x6).set 6 x8).set 14 x9).set 7 nZ.2).set 10 qi.2).set 9 si.2).set 8 tu).set 11 wS.2.2).set 12 sU).set 13 DB.2).set 15 Fv).set 16 LF).set 17 RD).length)))) fun WE =>
 .wn 62 (((((((((((((((((((List.replicate 20 ({ known:=false,n:=0 }:ah)).set 0 x1).set 1 x2).set 2 x3).set 3 x4).set 4 x5).set 5 x6).set 6 x8).set 14 x9).set 7 nZ.2).set 10 qi.2).set 9 si.2).set 8 tu).set 11 wS.2.2).set 12 sU).set 13 DB.2).set 15 Fv).set 16 LF).set 17 RD).length ((((((((((((((((((((List.replicate 20 ({ known:=false,n:=0 }:ah)).set 0 x1).set 1 x2).set 2 x3).set 3 x4).set 4 x5).set 5 x6).set 6 x8).set 14 x9).set 7 nZ.2).set 10 qi.2).set 9 si.2).set 8 tu).set 11 wS.2.2).set 12 sU).set 13 DB.2).set 15 Fv).set 16 LF).set 17 RD).set 18 WE).length <|
 .r 36 (.fA ((oK c_.file 4 (cp c_.cF 0)).c) fun x29=>.au (.p (bz (19:Int) (((((((((((((((((((((List.replicate 20 ({ known:=false,n:=0 }:ah)).set 0 x1).set 1 x2).set 2 x3).set 3 x4).set 4 x5).set 5 x6).set 6 x8).set 14 x9).set 7 nZ.2).set 10 qi.2).set 9 si.2).set 8 tu).set 11 wS.2.2).set 12 sU).set 13 DB.2).set 15 Fv).set 16 LF).set 17 RD).set 18 WE).length))) (.au (.o [.dy (iQ ah.E ((((((((((((((((((((List.replicate 20 ({ known:=false,n:=0 }:ah)).set 0 x1).set 1 x2).set 2 x3).set 3 x4).set 4 x5).set 5 x6).set 6 x8).set 14 x9).set 7 nZ.2).set 10 qi.2).set 9 si.2).set 8 tu).set 11 wS.2.2).set 12 sU).set 13 DB.2).set 15 Fv).set 16 LF).set 17 RD).set 18 WE) 19 x29)]) (.p (19 < ((((((((((((((((((((List.replicate 20 ({ known:=false,n:=0 }:ah)).set 0 x1).set 1 x2).set 2 x3).set 3 x4).set 4 x5).set 5 x6).set 6 x8).set 14 x9).set 7 nZ.2).set 10 qi.2).set 9 si.2).set 8 tu).set 11 wS.2.2).set 12 sU).set 13 DB.2).set 15 Fv).set 16 LF).set 17 RD).set 18 WE).length)))) fun x29 =>
 .wn 62 ((((((((((((((((((((List.replicate 20 ({ known:=false,n:=0 }:ah)).set 0 x1).set 1 x2).set 2 x3).set 3 x4).set 4 x5).set 5 x6).set 6 x8).set 14 x9).set 7 nZ.2).set 10 qi.2).set 9 si.2).set 8 tu).set 11 wS.2.2).set 12 sU).set 13 DB.2).set 15 Fv).set 16 LF).set 17 RD).set 18 WE).length (((((((((((((((((((((List.replicate 20 ({ known:=false,n:=0 }:ah)).set 0 x1).set 1 x2).set 2 x3).set 3 x4).set 4 x5).set 5 x6).set 6 x8).set 14 x9).set 7 nZ.2).set 10 qi.2).set 9 si.2).set 8 tu).set 11 wS.2.2).set 12 sU).set 13 DB.2).set 15 Fv).set 16 LF).set 17 RD).set 18 WE).set 19 x29).length <|
 .fin (((((((((((((((((((((List.replicate 20 ({ known:=false,n:=0 }:ah)).set 0 x1).set 1 x2).set 2 x3).set 3 x4).set 4 x5).set 5 x6).set 6 x8).set 14 x9).set 7 nZ.2).set 10 qi.2).set 9 si.2).set 8 tu).set 11 wS.2.2).set 12 sU).set 13 DB.2).set 15 Fv).set 16 LF).set 17 RD).set 18 WE).set 19 x29)))
def B3 r c_:=(tq r c_).val
def UW (r:af) (c:cy) (RE:Int):List ah :=
 [⟨true,c.file.aA.sum⟩,⟨true,c.file.aA.parts⟩,⟨true,c.file.aA.aE.kind⟩,⟨true,c.file.aA.zd⟩,⟨true,(c.file.ai.getD c.sign.toNat default).kind⟩,⟨true,c.fL⟩,⟨true,RE⟩,
  dW ((c9 .i64 c.file.aA.flags 1) != 0),dW (c.file.aA.gU == (-1)),dW ((c9 .i64 c.file.aA.flags 4) != 0),dW ((c9 .i64 c.file.aA.flags 2) != 0),
  dW (aV r c.file.aA.aJ != aV r c.file.aA.qC),dW (eB c.file.a8 c),dW ((c9 .i64 ((c.file.ai.getD c.sign.toNat default).flags) 1) != 0),dW (decide (RE > 0)),
  il c.file 0 c.sign,il c.file 1 c.sign,il c.file 2 c.sign,il c.file 3 (cp c.cF 0),il c.file 4 (cp c.cF 0)]
theorem Qb (r:af) (c:cy):sV r c =
  bif ((((!(j4 c.sign ((c.file.ai.length:Nat):Int)))||(decide (c.cF < (-1))))||(decide ((cp c.cF 0)≥((c.file.ai.length:Nat):Int))))||((c.due != (-1))&&(!(j4 c.due 100001)))) then []
  else bif !(j4 (c.file.ai.getD c.sign.toNat default).day 100001) then []
  else dZ (bif c.due != (-1) then .inr (ar ((c.file.ai.getD c.sign.toNat default).day - c.due)) else .inr (0:Int)) fun RE=>UW r c RE:=by kernel_rfl
theorem WG (n j:Nat):n &&& 2 ^ j=0∨n &&& 2 ^ j=2 ^ j:=by
 cases h:n.testBit j with
 | false =>
  left
  apply Nat.eq_of_testBit_eq
  intro i
  rw [Nat.testBit_and,Nat.testBit_two_pow,Nat.zero_testBit]
  by_cases e:j=i
  ·subst e; simp [h]
  ·simp [e]
 | true =>
  right
  apply Nat.eq_of_testBit_eq
  intro i
  rw [Nat.testBit_and,Nat.testBit_two_pow]
  by_cases e:j=i
  ·subst e; simp [h]
  ·simp [e]
theorem LG (a:Int) (j:Nat) (p:Int) (hp:(BitVec.ofInt 64 p).toNat=2 ^ j) (h0:IntKind.i64.wrap (((2 ^ j:Nat)):Int)=p):c9 .i64 a p=0∨c9 .i64 a p=p:=by
 unfold c9
 have e:(BitVec.ofInt IntKind.i64.bits a &&& BitVec.ofInt IntKind.i64.bits p).toNat=(BitVec.ofInt 64 a).toNat &&& 2 ^ j:=by
  rw [BitVec.toNat_and]; show _ &&& (BitVec.ofInt 64 p).toNat=_; rw [hp]; rfl
 rw [e]
 rcases WG (BitVec.ofInt 64 a).toNat j with h | h <;> rw [h]
 ·left; rfl
 ·right; exact h0
theorem Qc {a p:Int} (hp:p≠0) (h:c9 .i64 a p=0∨c9 .i64 a p=p):pq a p=(c9 .i64 a p != 0):=by
 show (c9 .i64 a p == p)=(c9 .i64 a p != 0)
 rcases h with h | h
 ·rw [h]
  have:((0:Int) == p)=false:=by rw [beq_eq_false_iff_ne]; exact fun e=>hp e.symm
  rw [this]; rfl
 ·rw [h]
  have:(p != 0)=true:=by rw [bne_iff_ne]; exact hp
  rw [this,beq_self_eq_true]
theorem aa7 (a:Int):pq a 1=(c9 .i64 a 1 != 0):=Qc (by decide) (LG a 0 1 rfl rfl)
theorem acT (a:Int):pq a 2=(c9 .i64 a 2 != 0):=Qc (by decide) (LG a 1 2 rfl rfl)
theorem acU (a:Int):pq a 4=(c9 .i64 a 4 != 0):=Qc (by decide) (LG a 2 4 rfl rfl)
theorem Qd (b:Bool):ke b=dW b:=by cases b <;> rfl
def DC (kind at_:Int) (x:Fact) (s:Unit):ah ⊕ Unit:=bif (x.kind == kind)&&(x.at_ == at_) then .inl (bif x.n == 0 then ⟨true,0⟩ else ⟨true,1⟩) else .inr ()
theorem LH (f:aD) (kind at_:Int):pW f kind at_=il f kind at_:=by
 rw [Wu]
 simp only [pW,pV,Sk.cu,Sk.cS,Sk.bQ,Sk.aZ,Sk.bU,Sk.cw,Sk.aN]
 refine (a9 f.facts (fun s i=>i) (DC kind at_) id _ (fun s i hi=>?_) (fun s=>?_) (by simp) ()).trans ?_
 ·rw [decide_eq_true (by omega),cond_true]
  unfold DC
  cases (((f.facts.getD i default).kind == kind)&&((f.facts.getD i default).at_ == at_)) with
  | false=>rfl
  | true=>cases ((f.facts.getD i default).n == 0) <;> rfl
 ·rw [decide_eq_false (by omega),cond_false]
 ·congr 1
  funext x s
  unfold DC Bu
  have:(bif x.n == 0 then (⟨true,0⟩:ah) else ⟨true,1⟩)=dW (x.n != 0):=by
   unfold bne
   cases (x.n == 0) <;> rfl
  rw [this]
def Y4 (c:cy) (k:Bool→List ah):List ah :=
 dZ (iter (fun i:Bool × Nat=>bif decide (((i.2:Nat):Int) < ((c.file.a8.length:Nat):Int)) then (Sum.inr (i.1||(decide (((c.file.a8.getD i.2 default).at_)≤c.sign)),i.2+1):(Sum (List ah) Bool) ⊕ (Bool × Nat)) else .inl (.inr i.1)) default (c.file.a8.length - 0+1) (false,0)) k
def UX (c:cy):Bool:=c.file.a8.foldl (fun s x=>s||decide (x.at_≤c.sign)) false
theorem WH (c:cy) (k:Bool→List ah):Y4 c k=k (UX c):=by
 unfold Y4 UX
 refine (a9 c.file.a8 (fun s i=>(s,i)) (fun x s=>.inr (s||decide (x.at_≤c.sign))) id k (fun s i hi=>?_) (fun s=>?_) (by simp) false).trans ?_
 ·simp only
  rw [decide_eq_true (by omega),cond_true]
 ·simp only
  rw [decide_eq_false (by omega),cond_false]
  rfl
 ·rw [gZ]; rfl
theorem Ko {α:Type} (p:α→Bool):∀ (l:List α) (b:Bool),l.foldl (fun s x=>s||p x) b=(b||l.any p)
 | [],b=>by simp
 | x :: r,b=>by simp only [List.foldl_cons,List.any_cons]; rw [Ko p r,Bool.or_assoc]
theorem UY (c:cy):UX c=eB c.file.a8 c:=by
 have hp:eB c.file.a8 c=true↔∃ q,q < c.file.a8.length∧dP (c.file.a8.getD q default) c=true:=ql c.file.a8 c
 unfold UX
 rw [Ko,Bool.false_or,Bool.eq_iff_iff,hp,List.any_eq_true]
 constructor
 ·rintro ⟨x,hx,h⟩
  obtain ⟨q,hq,e⟩:=List.getElem_of_mem hx
  refine ⟨q,hq,?_⟩
  have:c.file.a8.getD q default=x:=by simp [List.getD,hq,e]
  rw [this]; exact h
 ·rintro ⟨q,hq,h⟩
  exact ⟨_,ic hq default,h⟩
def UZ (r:af) (c:cy) (RE:Int) (alt:Bool):List ah :=
 [⟨true,c.file.aA.sum⟩,⟨true,c.file.aA.parts⟩,⟨true,c.file.aA.aE.kind⟩,⟨true,c.file.aA.zd⟩,⟨true,(c.file.ai.getD c.sign.toNat default).kind⟩,⟨true,c.fL⟩,⟨true,RE⟩,
  ke (pq c.file.aA.flags 1),ke (c.file.aA.gU == (-1)),ke (pq c.file.aA.flags 4),ke (pq c.file.aA.flags 2),
  ke (gy r c.file.aA.aJ != gy r c.file.aA.qC),ke alt,ke (pq ((c.file.ai.getD c.sign.toNat default).flags) 1),ke (decide (RE > 0)),
  pW c.file 0 c.sign,pW c.file 1 c.sign,pW c.file 2 c.sign,pW c.file 3 (cp c.cF 0),pW c.file 4 (cp c.cF 0)]
theorem Jp (r:af) (c:cy):B3 r c =
  bif ((((((decide (c.sign < 0))||(decide (c.sign≥((c.file.ai.length:Nat):Int))))||(decide (c.cF < (-1))))||(decide (c.cF≥((c.file.ai.length:Nat):Int))))||(decide (c.due < (-1))))||(decide (c.due > 100000))) then []
  else bif ((decide (((c.file.ai.getD c.sign.toNat default).day) < 0))||(decide (((c.file.ai.getD c.sign.toNat default).day) > 100000))) then []
  else dZ (bif c.due != (-1) then .inr (ar ((c.file.ai.getD c.sign.toNat default).day - c.due)) else .inr (0:Int)) fun RE=>Y4 c fun alt=>UZ r c RE alt:=by kernel_rfl
theorem Qe (r:af) (c:cy) (RE:Int) (hr:r.aC.length≤1000000):UZ r c RE (UX c)=UW r c RE:=by
 have ho:∀ x,gy r x=aV r x:=fun x=>oJ r x hr
 unfold UZ UW
 rw [ho,ho,UY,aa7,aa7,acT,acU]
 simp only [Qd,LH]
theorem LI (r:af) (c:cy) (hr:r.aC.length≤1000000):B3 r c=sV r c:=by
 rw [Jp,Qb]
 have hw:∀ i n:Int,j4 i n=(decide (i≥0)&&decide (i < n)):=fun _ _=>rfl
 rw [hw,hw,hw]
 have hm:cp c.cF 0=if c.cF < 0 then 0 else c.cF:=by unfold cp; (repeat' split) <;> omega
 by_cases h1:(0≤c.sign∧c.sign < (c.file.ai.length:Int))∧(-1≤c.cF∧c.cF < (c.file.ai.length:Int))∧(-1≤c.due∧c.due≤100000)
 ·have a1:((((((decide (c.sign < 0))||(decide (c.sign≥((c.file.ai.length:Nat):Int))))||(decide (c.cF < (-1))))||(decide (c.cF≥((c.file.ai.length:Nat):Int))))||(decide (c.due < (-1))))||(decide (c.due > 100000)))=false:=by
   simp only [LN]; omega
  have a2:((((!(decide (c.sign≥0)&&decide (c.sign < ((c.file.ai.length:Nat):Int))))||(decide (c.cF < (-1))))||(decide ((cp c.cF 0)≥((c.file.ai.length:Nat):Int))))||((c.due != (-1))&&(!(decide (c.due≥0)&&decide (c.due < 100001)))))=false:=by
   rw [hm]; simp only [LN]; split <;> omega
  rw [a1,a2,cond_false,cond_false]
  by_cases h2:0≤(c.file.ai.getD c.sign.toNat default).day∧(c.file.ai.getD c.sign.toNat default).day≤100000
  ·have b1:((decide (((c.file.ai.getD c.sign.toNat default).day) < 0))||(decide (((c.file.ai.getD c.sign.toNat default).day) > 100000)))=false:=by simp only [LN]; omega
   have b2:(!(decide ((c.file.ai.getD c.sign.toNat default).day≥0)&&decide ((c.file.ai.getD c.sign.toNat default).day < 100001)))=false:=by simp only [LN]; omega
   rw [b1,b2,cond_false,cond_false]
   congr 1
   funext RE
   rw [WH,Qe r c RE hr]
  ·have b1:((decide (((c.file.ai.getD c.sign.toNat default).day) < 0))||(decide (((c.file.ai.getD c.sign.toNat default).day) > 100000)))=true:=by simp only [LN]; omega
   have b2:(!(decide ((c.file.ai.getD c.sign.toNat default).day≥0)&&decide ((c.file.ai.getD c.sign.toNat default).day < 100001)))=true:=by simp only [LN]; omega
   rw [b1,b2,cond_true,cond_true]
 ·have a1:((((((decide (c.sign < 0))||(decide (c.sign≥((c.file.ai.length:Nat):Int))))||(decide (c.cF < (-1))))||(decide (c.cF≥((c.file.ai.length:Nat):Int))))||(decide (c.due < (-1))))||(decide (c.due > 100000)))=true:=by
   simp only [LN]; omega
  have a2:((((!(decide (c.sign≥0)&&decide (c.sign < ((c.file.ai.length:Nat):Int))))||(decide (c.cF < (-1))))||(decide ((cp c.cF 0)≥((c.file.ai.length:Nat):Int))))||((c.due != (-1))&&(!(decide (c.due≥0)&&decide (c.due < 100001)))))=true:=by
   rw [hm]; simp only [LN]; split <;> omega
  rw [a1,a2,cond_true,cond_true]
theorem N2 (r:af) (c_:cy) (bG:r.Small):(tq r c_).bE (fun _=>True):=by
 refine Sk.bm _ ?_
 unfold tq
 simp only [Sk.j2,Sk.aU,reduceCtorEq,ON,kk,kp,dR,oK,uX,eS,iE,P9,zG,forall_eq,maxLen]
 simp only [List.length_set,List.length_replicate]
 all_goals (repeat' first | assumption | (apply And.intro) | (intro h))
 all_goals first | trivial | assumption | omega | ((try simp only [LN] at *) <;> first | omega | (refine (az ?_ ?_).trans ?_ <;> omega) | (simp (disch:=omega) only [az] at *; omega) | (grind) | (simp_all; done) | (simp_all; omega))
def HM r c_:=kk tok mixed Tryz.func149 [av r.cells,av c_.cells] (fun x=>lv ah.cells x) false (tq r c_) (B3 r c_) (N2 r c_)
def qU (r:af) (c_:cy):Sk ((List ah)) :=
 .r 1 ((uV c_.file c_.day).c) fun x1 =>
 .r 2 ((HM r ({ file:=x1,sign:=c_.sign,cF:=c_.cF,fL:=c_.fL,due:=c_.due,day:=c_.day }:cy)).c) fun x2 =>
 .fin x2
def kf r c_:=(qU r c_).val
theorem vU (r:af) (c:cy) (hr:r.aC.length≤1000000):kf r c=(dQ r c).2:=by
 have e:kf r c=B3 r ⟨sg c.file c.day,c.sign,c.cF,c.fL,c.due,c.day⟩:=rfl
 have ea:sg c.file c.day=bn c.file c.day:=ya c.file c.day
 rw [e,ea,LI _ _ hr]
 rfl
theorem LJ (r:af) (c_:cy) (j0:c_.file.Small) (bG:r.Small):(qU r c_).bE (fun _=>True):=by
 unfold qU
 try simp only [uV,HM]
 exact oj
def tv r c_:=kk tok mixed Tryz.func104 [av r.cells,av c_.cells] (fun x=>lv ah.cells x) false (qU r c_) (kf r c_) (u2 (LJ r c_))
def pv (r:af) (aj:Int) (c_:cy):Sk ((List Int)) :=
 .r 1 ((tv r c_).c) fun x1 =>
 .br (((((x1.length:Nat):Int) == 0)||(decide (aj < 0)))||(decide (aj≥((r.al.length:Nat):Int))))
 (.fin [])
 (.r 3 (.p (bz c_.sign c_.file.ai.length)) fun _ =>
 .br ((decide (((c_.file.ai.getD c_.sign.toNat default).nX) < 0))||(decide (((c_.file.ai.getD c_.sign.toNat default).nX)≥((r.bg.length:Nat):Int))))
 (.fin [])
 (.r 6 (.au (.o [.dy (Xr eZ 5 0)]) (.p (PL (5:Int) 8))) fun _ =>
 .r 7 (.au (.p (bz (0:Int) ((List.replicate 5 (0:Int)).length))) (.au (.o [.dy (iQ eZ (List.replicate 5 (0:Int)) 0 aj)]) (.p (0 < (List.replicate 5 (0:Int)).length)))) fun _ =>
 .wn 44 (List.replicate 5 (0:Int)).length ((List.replicate 5 (0:Int)).set 0 aj).length <|
 .r 8 (.fA ((dR r ((c_.file.ai.getD c_.sign.toNat default).aJ)).c) fun x2=>.au (.p (bz (1:Int) (((List.replicate 5 (0:Int)).set 0 aj).length))) (.au (.o [.dy (iQ eZ ((List.replicate 5 (0:Int)).set 0 aj) 1 x2)]) (.p (1 < ((List.replicate 5 (0:Int)).set 0 aj).length)))) fun x2 =>
 .wn 44 ((List.replicate 5 (0:Int)).set 0 aj).length (((List.replicate 5 (0:Int)).set 0 aj).set 1 x2).length <|
 .r 9 (.fA ((dR r c_.file.aA.qC).c) fun x3=>.au (.p (bz (2:Int) ((((List.replicate 5 (0:Int)).set 0 aj).set 1 x2).length))) (.au (.o [.dy (iQ eZ (((List.replicate 5 (0:Int)).set 0 aj).set 1 x2) 2 x3)]) (.p (2 < (((List.replicate 5 (0:Int)).set 0 aj).set 1 x2).length)))) fun x3 =>
 .wn 44 (((List.replicate 5 (0:Int)).set 0 aj).set 1 x2).length ((((List.replicate 5 (0:Int)).set 0 aj).set 1 x2).set 2 x3).length <|
 .r 10 (.fA ((dR r c_.file.aA.aJ).c) fun x4=>.au (.p (bz (3:Int) (((((List.replicate 5 (0:Int)).set 0 aj).set 1 x2).set 2 x3).length))) (.au (.o [.dy (iQ eZ ((((List.replicate 5 (0:Int)).set 0 aj).set 1 x2).set 2 x3) 3 x4)]) (.p (3 < ((((List.replicate 5 (0:Int)).set 0 aj).set 1 x2).set 2 x3).length)))) fun x4 =>
 .wn 44 ((((List.replicate 5 (0:Int)).set 0 aj).set 1 x2).set 2 x3).length (((((List.replicate 5 (0:Int)).set 0 aj).set 1 x2).set 2 x3).set 3 x4).length <|
 .r 11 (.au (.p (bz ((c_.file.ai.getD c_.sign.toNat default).nX) r.bg.length)) (.fA ((dR r ((r.bg.getD (((c_.file.ai.getD c_.sign.toNat default).nX).toNat) default).aJ)).c) fun x5=>.au (.p (bz (4:Int) ((((((List.replicate 5 (0:Int)).set 0 aj).set 1 x2).set 2 x3).set 3 x4).length))) (.au (.o [.dy (iQ eZ (((((List.replicate 5 (0:Int)).set 0 aj).set 1 x2).set 2 x3).set 3 x4) 4 x5)]) (.p (4 < (((((List.replicate 5 (0:Int)).set 0 aj).set 1 x2).set 2 x3).set 3 x4).length))))) fun x5 =>
 .wn 44 (((((List.replicate 5 (0:Int)).set 0 aj).set 1 x2).set 2 x3).set 3 x4).length ((((((List.replicate 5 (0:Int)).set 0 aj).set 1 x2).set 2 x3).set 3 x4).set 4 x5).length <|
 .bt
 (.loop (default:Sum ((List Int)) (Unit)) (fun i7=>i7≤((((((List.replicate 5 (0:Int)).set 0 aj).set 1 x2).set 2 x3).set 3 x4).set 4 x5).length) (fun i7=>((((((List.replicate 5 (0:Int)).set 0 aj).set 1 x2).set 2 x3).set 3 x4).set 4 x5).length - i7) (0:Nat)
 (fun (i7:Nat)=>⟨[(9,iv (i7:Int))],[]⟩) fun i7 =>
 .lt 8 0 i7 (((((((List.replicate 5 (0:Int)).set 0 aj).set 1 x2).set 2 x3).set 3 x4).set 4 x5).length)
 (.r 15 (.au (.p (bz (i7:Int) (((((((List.replicate 5 (0:Int)).set 0 aj).set 1 x2).set 2 x3).set 3 x4).set 4 x5).length))) (.p (i7 < ((((((List.replicate 5 (0:Int)).set 0 aj).set 1 x2).set 2 x3).set 3 x4).set 4 x5).length))) fun _ =>
 .br (decide ((((((((List.replicate 5 (0:Int)).set 0 aj).set 1 x2).set 2 x3).set 3 x4).set 4 x5).getD i7 default) < 0))
 (.fin (.inl (.inl [])))
 (.nx 14 9 i7 (i7+1)))
 (.fin (.inl (.inr ()))))
 (fun (_:Unit)=>⟨[],[]⟩) fun _ =>
 .fin ((((((List.replicate 5 (0:Int)).set 0 aj).set 1 x2).set 2 x3).set 3 x4).set 4 x5)))
def dk r aj c_:=(pv r aj c_).val
theorem ud (l:List Int) (v:Int):cx l v=true↔v∈l:=by
 have hp:cx l v=true↔∃ q,q < l.length∧(l.getD q default == v)=true:=pK l v
 rw [hp]
 constructor
 ·rintro ⟨q,hq,h⟩
  rw [beq_iff_eq] at h
  rw [← h]
  exact ic hq _
 ·intro h
  obtain ⟨q,hq,e⟩:=List.getElem_of_mem h
  exact ⟨q,hq,by simp [List.getD,hq,e]⟩
theorem N3 {r:af} {c:cy} (hr:r.aC.length≤1000000) (h:(kf r c).length≠0):0≤c.sign∧c.sign < ((bn c.file c.day).ai.length:Int)∧c.sign < (c.file.ai.length:Int)∧(bn c.file c.day).ai.getD c.sign.toNat default=c.file.ai.getD c.sign.toNat default:=by
 rw [vU r c hr] at h
 have hp:(dQ r c).2=[]∨((dQ r c).2.length=20∧0≤(dQ r c).1.sign∧(dQ r c).1.sign < ((dQ r c).1.file.ai.length:Int)):=Nq r c
 rcases hp with hp | hp
 ·rw [hp] at h; exact absurd rfl h
 ·have e1:(dQ r c).1.sign=c.sign:=rfl
  have e2:(dQ r c).1.file=bn c.file c.day:=rfl
  rw [e1,e2] at hp
  have es:(bn c.file c.day).ai=c.file.ai.takeWhile (fun s=>decide (s.day≤c.day)):=by rw [jE]
  have:=xz (fun s:Sign=>decide (s.day≤c.day)) c.file.ai c.sign.toNat (by rw [← es]; omega)
  rw [es] at hp ⊢
  exact ⟨hp.2.1,hp.2.2,by omega,this.1⟩
def qV (r:af) (fo:Int) (s:Sign) (b:jT):List Int:=[fo,aV r s.aJ,aV r b.qC,aV r b.aJ,aV r (r.bg.getD s.nX.toNat default).aJ]
theorem SN (r:af) (fo:Int) (c:cy):fC r fo c=bif ((((decide (((c.file.ai.getD c.sign.toNat default).nX) < 0))||(decide (((c.file.ai.getD c.sign.toNat default).nX)≥((r.bg.length:Nat):Int))))||(decide (fo < 0)))||(decide (fo≥((r.al.length:Nat):Int)))) then [] else
  bif cx (qV r fo (c.file.ai.getD c.sign.toNat default) c.file.aA) (-1) then [] else qV r fo (c.file.ai.getD c.sign.toNat default) c.file.aA:=by kernel_rfl
def LK (r:af) (fo:Int) (s:Sign) (b:jT):List Int:=[fo,gy r s.aJ,gy r b.qC,gy r b.aJ,gy r (r.bg.getD s.nX.toNat default).aJ]
def Y5 (l:List Int):List Int :=
 dZ (iter (fun i:Nat=>bif decide (((i:Nat):Int) < ((l.length:Nat):Int)) then (bif decide (l.getD i default < 0) then (.inl (.inl []):(Sum (List Int) Unit) ⊕ Nat) else .inr (i+1)) else .inl (.inr ())) default (l.length - 0+1) 0) (fun _=>l)
theorem WI (l:List Int):Y5 l=bif l.all (fun x=>!(decide (x < 0))) then l else []:=by
 unfold Y5
 refine (a9 l (fun (s:Unit) i=>i) (fun x (_:Unit)=>(bif decide (x < 0) then .inl [] else .inr ():List Int ⊕ Unit)) id (fun _=>l) (fun s i hi=>?_) (fun s=>?_) (by simp) ()).trans ?_
 ·rw [decide_eq_true (by omega),cond_true]
  cases decide (l.getD i default < 0) <;> rfl
 ·rw [decide_eq_false (by omega),cond_false]
 ·have key:∀ (m:List Int),walk (fun x (_:Unit)=>(bif decide (x < 0) then .inl [] else .inr ():List Int ⊕ Unit)) (fun _=>l) m ()=bif m.all (fun x=>!(decide (x < 0))) then l else []:=by
   intro m
   induction m with
   | nil=>rfl
   | cons x r ih =>
    simp only [walk,List.all_cons]
    cases decide (x < 0) with
    | true=>rfl
    | false=>exact ih
  exact key l
theorem LL (r:af) (fo:Int) (c:cy):dk r fo c=bif ((((((kf r c).length:Nat):Int) == 0)||(decide (fo < 0)))||(decide (fo≥((r.al.length:Nat):Int)))) then [] else
  bif ((decide (((c.file.ai.getD c.sign.toNat default).nX) < 0))||(decide (((c.file.ai.getD c.sign.toNat default).nX)≥((r.bg.length:Nat):Int)))) then [] else Y5 (LK r fo (c.file.ai.getD c.sign.toNat default) c.file.aA):=by kernel_rfl
theorem Qf {r:af} (h:r.GA) (x:Int) : -1≤aV r x:=by
 have e:aV r x=bif !(uF x r.aC.length) then -1 else (r.aC.getD x.toNat default).order:=rfl
 have e2:uF x r.aC.length=(decide (x≥0)&&decide (x < (r.aC.length:Int))):=rfl
 rw [e,e2]
 by_cases c:0≤x∧x < (r.aC.length:Int)
 ·have:(!(decide (x≥0)&&decide (x < (r.aC.length:Int))))=false:=by simp only [LN]; omega
  rw [this,cond_false]
  have:=h x.toNat (by omega)
  omega
 ·have:(!(decide (x≥0)&&decide (x < (r.aC.length:Int))))=true:=by simp only [LN]; omega
  rw [this,cond_true]; exact Int.le_refl _
theorem N4 {r:af} (hr:r.aC.length≤1000000) (hC:r.GA) (fo:Int) (c:cy):dk r fo c=bif (((dQ r c).2.length:Nat):Int) == 0 then [] else fC r fo (dQ r c).1:=by
 rw [LL]
 by_cases h0:(kf r c).length=0
 ·have h1:(((kf r c).length:Nat):Int) == 0:=by rw [h0]; rfl
  rw [← vU r c hr,h1]
  rfl
 ·have S7:=N3 hr h0
  have h1:((((kf r c).length:Nat):Int) == 0)=false:=by rw [beq_eq_false_iff_ne]; omega
  rw [← vU r c hr,h1,Bool.false_or,cond_false,SN]
  have e1:(dQ r c).1.sign=c.sign:=rfl
  have e2:(dQ r c).1.file=bn c.file c.day:=rfl
  have e3:(bn c.file c.day).aA=c.file.aA:=by rw [jE]
  rw [e1,e2,e3,S7.2.2.2]
  generalize c.file.ai.getD c.sign.toNat default=s
  have ho:∀ x,gy r x=aV r x:=fun x=>oJ r x hr
  have ep:LK r fo s c.file.aA=qV r fo s c.file.aA:=by unfold LK qV; simp only [ho]
  rw [ep,WI]
  by_cases hf:0≤fo∧fo < (r.al.length:Int)
  ·have a1:((decide (fo < 0))||(decide (fo≥((r.al.length:Nat):Int))))=false:=by simp only [LN]; omega
   rw [Bool.or_assoc,a1,Bool.or_false,cond_false]
   congr 1
   have hg:=Qf hC
   have key:(qV r fo s c.file.aA).all (fun x=>!(decide (x < 0))) = !(cx (qV r fo s c.file.aA) (-1)):=by
    have h2:=ud (qV r fo s c.file.aA) (-1)
    rw [Bool.eq_iff_iff,List.all_eq_true,Bool.not_eq_true',← Bool.not_eq_true,h2]
    constructor
    ·intro h hm
     have:=h _ hm
     simp at this
    ·intro h x hx
     simp only [LN]
     have rA:x≠-1:=fun e=>h (e ▸ hx)
     have : -1≤x:=by
      unfold qV at hx
      simp only [List.mem_cons,List.mem_nil_iff,or_false] at hx
      rcases hx with rfl | rfl | rfl | rfl | rfl
      ·omega
      ·exact hg _
      ·exact hg _
      ·exact hg _
      ·exact hg _
     omega
   rw [key]
   cases cx (qV r fo s c.file.aA) (-1) <;> rfl
  ·have a1:((decide (fo < 0))||(decide (fo≥((r.al.length:Nat):Int))))=true:=by simp only [LN]; omega
   rw [Bool.or_assoc,a1,Bool.or_true]
   rfl
theorem Jq (r:af) (aj:Int) (c_:cy) (j0:c_.file.Small) (bG:r.Small):(pv r aj c_).bE (fun _=>True):=by
 refine Sk.bm _ ?_
 unfold pv
 simp only [Sk.j2,Sk.aU,reduceCtorEq,ON,kk,kp,dR,tv,maxLen]
 have hn:=bG.2.1
 refine ⟨⟨j0,bG⟩,fun x hx hc=>?_⟩
 have S7:=N3 (r:=r) (c:=c_) hn (fun e=>by rw [hx] at hc; rw [e] at hc; simp at hc)
 simp only [List.length_set,List.length_replicate]
 all_goals (repeat' first | assumption | (apply And.intro) | (intro h))
 all_goals first | trivial | assumption | omega | ((try simp only [LN] at *) <;> first | omega | (refine (az ?_ ?_).trans ?_ <;> omega) | (simp (disch:=omega) only [az] at *; omega) | (grind) | (simp_all; done) | (simp_all; omega))
def B4 r aj c_:=kk tok mixed Tryz.func100 [av r.cells,iv aj,av c_.cells] (fun x=>lv cM x) false (pv r aj c_) (dk r aj c_) (u2 (Jq r aj c_))
def mD (ask:Int):Sk (Bool) :=
 .fin ((decide (ask≥0))&&(decide (ask < 22)))
def nP ask:=(mD ask).val
theorem mE (ask:Int):nP ask=((decide (ask≥0))&&(decide (ask < 22))):=rfl
theorem Fc (ask:Int):(mD ask).bE (fun _=>True):=by
 unfold mD
 exact mY
def gP ask:=kk tok mixed Tryz.func101 [iv ask] (fun x=>bv x) true (mD ask) (nP ask) (u0 (Fc ask))
def lZ (r:af) (places:List Int):Sk (Bool) :=
 .bt
 (.loop (default:Sum (Bool) (Unit)) (fun i2=>i2≤places.length) (fun i2=>places.length - i2) (0:Nat)
 (fun (i2:Nat)=>⟨[(5,iv (i2:Int))],[]⟩) fun i2 =>
 .lt 1 0 i2 places.length
 (.r 4 (.au (.p (bz (i2:Int) places.length)) ((aK (places.getD i2 default) 0 (ar (((r.al.length:Nat):Int) - 1))).c)) fun x3 =>
 .br (!x3)
 (.fin (.inl (.inl false)))
 (.nx 3 5 i2 (i2+1)))
 (.fin (.inl (.inr ()))))
 (fun (_:Unit)=>⟨[],[]⟩) fun _ =>
 .fin (((places.length:Nat):Int) == 5)
def jP r places:=(lZ r places).val
theorem Jr (r:af) (places:List Int):(lZ r places).bE (fun _=>True):=by
 unfold lZ
 try simp only [aK,bN]
 exact qJ
def nQ r places:=kk tok mixed Tryz.func143 [av r.cells,lv cM places] (fun x=>bv x) true (lZ r places) (jP r places) (u0 (Jr r places))
def l3 (o:Order) (ask:Int):Sk (Choice) :=
 .bt
 (.loop (default:Sum (Choice) (Unit)) (fun i2=>i2≤o.aF.length) (fun i2=>o.aF.length - i2) (0:Nat)
 (fun (i2:Nat)=>⟨[(5,iv (i2:Int))],[]⟩) fun i2 =>
 .lt 2 2 i2 o.aF.length
 (.r 4 (.p (bz (i2:Int) o.aF.length)) fun _ =>
 .br (((o.aF.getD i2 default).ask) == ask)
 (.r 5 (.p (bz (i2:Int) o.aF.length)) fun _ =>
 .fin (.inl (.inl (o.aF.getD i2 default))))
 (.nx 3 5 i2 (i2+1)))
 (.fin (.inl (.inr ()))))
 (fun (_:Unit)=>⟨[],[]⟩) fun _ =>
 .fin ({ ask:=ask,wA:=0,whole:=false }:Choice)
def vV o ask:=(l3 o ask).val
theorem Jt (o:Order) (ask:Int):(l3 o ask).bE (fun _=>True):=by
 unfold l3
 exact oj
def B5 o ask:=kk tok mixed Tryz.func171 [av o.cells,iv ask] (fun x=>av x.cells) true (l3 o ask) (vV o ask) (u0 (Jt o ask))
def qW (r:af) (order:Int) (ask:Int) (places:List Int):Sk (Int × Bool) :=
 .r 1 (.dep ((nQ r places).c) fun x1=>.dep (.wh (!x1) false ((aK order 0 (ar (((r.al.length:Nat):Int) - 1))).c)) fun x2=>.wh ((!x1)||(!x2)) false ((aK ask 0 21).c)) fun p5 =>
 .br (((!p5.1)||(!p5.2.1))||(!p5.2.2))
 (.fin ((-1),false))
 (.r 3 (.au (.p (bz order r.al.length)) ((B5 (r.al.getD order.toNat default) ask).c)) fun x4 =>
 .br (x4.wA == 0)
 (.fin (order,false))
 (.r 6 (.p (bz x4.wA places.length)) fun _ =>
 .fin (places.getD x4.wA.toNat default,x4.whole)))
def yN r order ask places:=(qW r order ask places).val
def cz (p:List Int):Int:=p.getD (p.length - 1) default
inductive zp (r:af) (ask:Int) (places:List Int):List Int→List Int × Int→Prop
 | same {p:List Int}:(aB r (cz p) ask places).1=cz p→zp r ask places p (p,0)
 | part {p:List Int}:(aB r (cz p) ask places).1≠cz p→(aB r (cz p) ask places).2=false→zp r ask places p (p++[(aB r (cz p) ask places).1],0)
 | again {p:List Int}:(aB r (cz p) ask places).1≠cz p→(aB r (cz p) ask places).2=true→(aB r (cz p) ask places).1∈p →
   zp r ask places p (p++[(aB r (cz p) ask places).1],if (r.al.getD (aB r (cz p) ask places).1.toNat default).mb=true then 0 else 12)
 | go {p:List Int} {x:List Int × Int}:(aB r (cz p) ask places).1≠cz p→(aB r (cz p) ask places).2=true→(aB r (cz p) ask places).1 ∉ p→zp r ask places (p++[(aB r (cz p) ask places).1]) x→zp r ask places p x
theorem zp.uniq {r:af} {ask:Int} {places p:List Int} {x y:List Int × Int} (h:zp r ask places p x) (k:zp r ask places p y):x=y:=by
 induction h with
 | same b =>
  cases k with
  | same _=>rfl
  | part b2 _=>exact absurd b b2
  | again b2 _ _=>exact absurd b b2
  | go b2 _ _ _=>exact absurd b b2
 | part b c =>
  cases k with
  | same b2=>exact absurd b2 b
  | part _ _=>rfl
  | again _ c2 _=>rw [c] at c2; cases c2
  | go _ c2 _ _=>rw [c] at c2; cases c2
 | again b c d =>
  cases k with
  | same b2=>exact absurd b2 b
  | part _ c2=>rw [c] at c2; cases c2
  | again _ _ _=>rfl
  | go _ _ d2 _=>exact absurd d d2
 | go b c d h ih =>
  cases k with
  | same b2=>exact absurd b2 b
  | part _ c2=>rw [c] at c2; cases c2
  | again _ _ d2=>exact absurd d2 d
  | go _ _ _ k2=>exact ih k2
theorem U0 {α:Type} [Inhabited α] (l:List α) {j:Nat} (h:j < l.length):l.getD j default=l[j]:=by simp [List.getD,h]
theorem N5 {α:Type} (p:α→Bool) (fin:Bool):∀ (l:List α),walk (fun x (_:Unit)=>(bif !(p x) then .inl false else .inr ():Bool ⊕ Unit)) (fun _=>fin) l ()=(l.all p&&fin)
 | []=>by simp [walk]
 | x :: r=>by
  simp only [walk,List.all_cons]
  cases p x with
  | false=>rfl
  | true=>rw [Bool.true_and]; exact N5 p fin r
theorem LM (r:af) (pl:List Int):jP r pl=(pl.all (fun y=>fG y 0 (ar (((r.al.length:Nat):Int) - 1)))&&(((pl.length:Nat):Int) == 5)):=by
 rw [← N5]
 simp only [jP,lZ,Sk.cu,Sk.cS,Sk.aN]
 refine a9 pl (fun s i=>i) (fun x (_:Unit)=>(bif !(fG x 0 (ar (((r.al.length:Nat):Int) - 1))) then .inl false else .inr ():Bool ⊕ Unit)) id _ (fun s i hi=>?_) (fun s=>?_) (by simp) ()
 ·simp only [Sk.bQ,Sk.aZ,Sk.bU,Sk.cw,Sk.aN,bD.tJ,eo.qB,kk,kp,aK]
  rw [decide_eq_true (by omega),cond_true]
  cases (fG (pl.getD i default) 0 (ar (((r.al.length:Nat):Int) - 1))) <;> rfl
 ·simp only [Sk.bQ,Sk.aZ,Sk.bU,Sk.cw,Sk.aN]
  rw [decide_eq_false (by omega),cond_false]
theorem ue (r:af) (pl:List Int) (hr:r.al.length≤1000000):jP r pl=true↔pl.length=5∧∀ y,y∈pl→0≤y∧y < (r.al.length:Int):=by
 rw [LM,az (by omega) (by omega),Bool.and_eq_true,List.all_eq_true,beq_iff_eq]
 simp only [bN,Bool.and_eq_true,decide_eq_true_eq]
 constructor
 ·rintro ⟨h1,h2⟩; exact ⟨by omega,fun y hy=>by have:=h1 y hy; omega⟩
 ·rintro ⟨h1,h2⟩; exact ⟨fun y hy=>by have:=h2 y hy; omega,by omega⟩
theorem sj (r:af) (o ask:Int) (pl:List Int):bL r o ask pl=true↔(0≤o∧o < (r.al.length:Int))∧(0≤ask∧ask < 22)∧pl.length=5∧∀ y,y∈pl→0≤y∧y < (r.al.length:Int):=by
 have e:bL r o ask pl=bif (((((decide (o < 0))||(decide (o≥((r.al.length:Nat):Int))))||(decide (ask < 0)))||(decide (ask≥22)))||(((pl.length:Nat):Int) != 5)) then false else !(fM pl ((r.al.length:Nat):Int)):=rfl
 have hp:fM pl ((r.al.length:Nat):Int)=true↔∃ q,q < pl.length∧cW (pl.getD q default) ((r.al.length:Nat):Int)=true:=qm pl _
 rw [e]
 by_cases c:(0≤o∧o < (r.al.length:Int))∧(0≤ask∧ask < 22)∧pl.length=5
 ·have a:(((((decide (o < 0))||(decide (o≥((r.al.length:Nat):Int))))||(decide (ask < 0)))||(decide (ask≥22)))||(((pl.length:Nat):Int) != 5))=false:=by simp only [LN]; omega
  rw [a,cond_false,Bool.not_eq_true',← Bool.not_eq_true,hp]
  constructor
  ·intro h
   refine ⟨c.1,c.2.1,c.2.2,fun y hy=>?_⟩
   obtain ⟨q,hq,e⟩:=List.getElem_of_mem hy
   have e2:pl.getD q default=y:=by simp [List.getD,hq,e]
   have h2:=fun h3=>h ⟨q,hq,h3⟩
   rw [e2,gh] at h2
   simp only [LN,not_or,imp_false] at h2
   omega
  ·rintro ⟨-,-,-,h⟩ ⟨q,hq,h2⟩
   have:=h _ (ic hq default)
   rw [gh] at h2
   simp only [LN] at h2
   omega
 ·have a:(((((decide (o < 0))||(decide (o≥((r.al.length:Nat):Int))))||(decide (ask < 0)))||(decide (ask≥22)))||(((pl.length:Nat):Int) != 5))=true:=by simp only [LN]; omega
  rw [a,cond_true]
  exact ⟨fun h=>absurd h (by decide),fun h=>absurd ⟨h.1,h.2.1,h.2.2.1⟩ c⟩
theorem Nl.pw {o:Order} (h:Nl o):o.aF.Pairwise (fun a b=>a.ask < b.ask):=by
 rw [List.pairwise_iff_getElem]
 intro i j hi hj hij
 have key:∀ d:Nat,∀ hd:i+d+1 < o.aF.length,o.aF[i].ask < (o.aF[i+d+1]'hd).ask:=by
  intro d
  induction d with
  | zero =>
   intro hd
   have:=h (i+1) hd (by omega)
   rw [show o.aF.getD (i+1 - 1) default=o.aF[i] by simp [List.getD,hi],show o.aF.getD (i+1) default=o.aF[i+0+1]'hd by simp [List.getD,show i+1 < o.aF.length from hd]] at this
   exact this
  | succ d ih =>
   intro hd
   have h1:=ih (by omega)
   have:=h (i+(d+1)+1) hd (by omega)
   rw [show o.aF.getD (i+(d+1)+1 - 1) default=o.aF[i+d+1]'(by omega) by simp [List.getD,show i+(d+1) < o.aF.length by omega]; rfl,show o.aF.getD (i+(d+1)+1) default=o.aF[i+(d+1)+1]'hd by simp [List.getD,hd]] at this
   omega
 have:=key (j - i - 1) (by omega)
 have e:i+(j - i - 1)+1=j:=by omega
 simp only [e] at this
 exact this
def sm (ask:Int) (x:Choice) (_:Unit):Choice ⊕ Unit:=bif x.ask == ask then .inl x else .inr ()
def oL (ask:Int) (pl:List Int) (x:Choice) (_:Unit):(Int × Bool) ⊕ Unit:=bif (x.ask == ask)&&(x.wA != 0) then .inl (pl.getD x.wA.toNat default,x.whole) else .inr ()
def WJ (order:Int) (pl:List Int) (c:Choice):Int × Bool:=bif c.wA == 0 then (order,false) else (pl.getD c.wA.toNat default,c.whole)
theorem RF (ask order:Int) (pl:List Int):∀ l:List Choice,(∀ x,x∈l→x.ask≠ask)→walk (oL ask pl) (fun _=>(order,false)) l ()=(order,false)
 | [],_=>rfl
 | x :: r,h=>by
  have e:oL ask pl x ()=.inr ():=by
   unfold oL
   rw [beq_eq_false_iff_ne.2 (h x (by simp)),Bool.false_and,cond_false]
  simp only [walk,e]
  exact RF ask order pl r (fun y hy=>h y (by simp [hy]))
theorem Xy (ask order:Int) (pl:List Int):∀ l:List Choice,l.Pairwise (fun a b=>a.ask < b.ask)→walk (oL ask pl) (fun _=>(order,false)) l ()=WJ order pl (walk (sm ask) (fun _=>⟨ask,0,false⟩) l ())
 | [],_=>rfl
 | x :: r,h=>by
  have h:=List.pairwise_cons.1 h
  by_cases e:x.ask=ask
  ·have e1:sm ask x ()=.inl x:=by unfold sm; rw [beq_iff_eq.2 e]; rfl
   simp only [walk,e1]
   by_cases b:x.wA=0
   ·have e2:oL ask pl x ()=.inr ():=by unfold oL; rw [b]; simp
    simp only [e2]
    rw [RF ask order pl r (fun y hy=>by have:=h.1 y hy; omega)]
    unfold WJ; rw [b]; rfl
   ·have e2:oL ask pl x ()=.inl (pl.getD x.wA.toNat default,x.whole):=by
     unfold oL; rw [beq_iff_eq.2 e,bne_iff_ne.2 b]; rfl
    simp only [e2]
    unfold WJ; rw [beq_eq_false_iff_ne.2 b]; rfl
  ·have e1:sm ask x ()=.inr ():=by unfold sm; rw [beq_eq_false_iff_ne.2 e]; rfl
   have e2:oL ask pl x ()=.inr ():=by unfold oL; rw [beq_eq_false_iff_ne.2 e]; rfl
   simp only [walk,e1,e2]
   exact Xy ask order pl r h.2
theorem Kq (o:Order) (ask:Int):vV o ask=walk (sm ask) (fun _=>⟨ask,0,false⟩) o.aF ():=by
 simp only [vV,l3,Sk.cu,Sk.cS,Sk.bQ,Sk.aZ,Sk.bU,Sk.cw,Sk.aN]
 refine (a9 o.aF (fun s i=>i) (sm ask) id _ (fun s i hi=>?_) (fun s=>?_) (by simp) ()).trans rfl
 ·rw [decide_eq_true (by omega),cond_true]
  unfold sm
  cases ((o.aF.getD i default).ask == ask) <;> rfl
 ·rw [decide_eq_false (by omega),cond_false]
theorem Qg (r:af) (o ask:Int) (pl:List Int):aB r o ask pl=bif !(bL r o ask pl) then (-1,false) else walk (oL ask pl) (fun _=>(o,false)) (r.al.getD o.toNat default).aF ():=by
 simp only [aB,fN,Sk.cu,Sk.cS,Sk.bQ,Sk.aZ,Sk.bU,Sk.cw,Sk.aN,eo.qB,kk,kp,dX]
 congr 1
 refine (a9 (r.al.getD o.toNat default).aF (fun s i=>i) (oL ask pl) id _ (fun s i hi=>?_) (fun s=>?_) (by simp) ()).trans rfl
 ·rw [decide_eq_true (by omega),cond_true]
  unfold oL
  cases ((((r.al.getD o.toNat default).aF.getD i default).ask == ask)&&(((r.al.getD o.toNat default).aF.getD i default).wA != 0)) <;> rfl
 ·rw [decide_eq_false (by omega),cond_false]
theorem Qh {r:af} (hr:r.al.length≤1000000) (hq:r.n7) (o ask:Int) (pl:List Int):yN r o ask pl=aB r o ask pl:=by
 rw [Qg]
 have e:yN r o ask pl=bif ((!(jP r pl))||(!(fG o 0 (ar (((r.al.length:Nat):Int) - 1)))))||(!(fG ask 0 21)) then (-1,false) else WJ o pl (vV (r.al.getD o.toNat default) ask):=by
  kernel_rfl
 rw [e,az (by omega) (by omega)]
 by_cases c:bL r o ask pl=true
 ·have c2:=(sj r o ask pl).1 c
  have c3:=(ue r pl hr).2 c2.2.2
  have e1:fG o 0 (((r.al.length:Nat):Int) - 1)=true:=by rw [bN]; simp only [LN]; omega
  have e2:fG ask 0 21=true:=by rw [bN]; simp only [LN]; omega
  rw [c,c3,e1,e2]
  simp only [Bool.not_true,Bool.or_self,cond_false]
  rw [Xy ask o pl _ (hq o.toNat (by omega)).pw,Kq]
 ·have c1:bL r o ask pl=false:=by simpa using c
  have e3:(((!(jP r pl))||(!(fG o 0 (((r.al.length:Nat):Int) - 1))))||(!(fG ask 0 21)))=true:=by
   cases h1:jP r pl with
   | false=>rfl
   | true =>
    cases h2:fG o 0 (((r.al.length:Nat):Int) - 1) with
    | false=>rfl
    | true =>
     cases h3:fG ask 0 21 with
     | false=>rfl
     | true =>
      exfalso
      rw [bN] at h2 h3
      simp only [LN] at h2 h3
      exact c ((sj r o ask pl).2 ⟨by omega,by omega,(ue r pl hr).1 h1⟩)
  rw [c1,e3]; rfl
theorem Xz (ask:Int):∀ l:List Choice,(∀ x,x∈l→0≤x.wA∧x.wA < 5)→0≤(walk (sm ask) (fun _=>⟨ask,0,false⟩) l ()).wA∧(walk (sm ask) (fun _=>⟨ask,0,false⟩) l ()).wA < 5
 | [],_=>by simp [walk]
 | x :: r,h=>by
  simp only [walk,sm]
  cases (x.ask == ask) with
  | true=>exact h x (by simp)
  | false=>exact Xz ask r (fun y hy=>h y (by simp [hy]))
theorem N6 {r:af} {fo ask:Int} {pl:List Int} (h:¬ (bL r fo ask pl=true∧pl.getD 0 default=fo)):bh r fo ask pl=([],1):=by
 have hc:((!(bL r fo ask pl))||((pl.getD 0 default) != fo))=true:=by
  cases h1:bL r fo ask pl with
  | false=>rfl
  | true =>
   rw [Bool.not_true,Bool.false_or,bne_iff_ne]
   exact fun e=>h ⟨h1,e⟩
 simp only [bh,fT,Sk.bU,Sk.aZ,Sk.aN,bD.PM,eo.qB,kk,kp,dX]
 rw [hc]; rfl
theorem Kr {r:af} (hb:r.ck) {o ask:Int} {pl:List Int} (h:bL r o ask pl=true):0≤(aB r o ask pl).1∧(aB r o ask pl).1 < (r.al.length:Int):=zi r o ask pl h
theorem HN {n:Nat} {p:List Int} (h:iK n p) (hn:n≤1000000):p.getD (ar ((p.length:Int) - 1)).toNat default=cz p:=by
 have h1:=h.1
 have h2:=h.le
 unfold cz
 rw [az (by omega) (by omega)]
 congr 1
 omega
theorem B6 {n:Nat} {p:List Int} (h:iK n p) {x:Int} (hx:0≤x∧x < (n:Int)) (hm:x ∉ p):iK n (p++[x]):=h.snoc hx (fun ⟨q,hq,e⟩=>hm ((beq_iff_eq.1 e) ▸ ic hq default))
theorem HO {r:af} {fo ask:Int} {pl:List Int} (hb:r.ck) (hr:r.al.length≤1000000) (hf:bL r fo ask pl=true) (h0:pl.getD 0 default=fo):zp r ask pl [fo] (bh r fo ask pl):=by
 have hc:((!(bL r fo ask pl))||((pl.getD 0 default) != fo))=false:=by
  rw [hf,Bool.not_true,Bool.false_or,bne_eq_false_iff_eq]; exact h0
 have hfo:=((sj r fo ask pl).1 hf).1
 simp only [bh,fT,Sk.bU,Sk.aZ,Sk.aN,Sk.cS,bD.PM,bD.Br,eo.qB,kk,kp,dX,lx,bS]
 rw [hc,cond_false]
 refine CO (L:=fun x=>zp r ask pl [fo] x) (I:=fun p=>iK r.al.length p∧∀ x,zp r ask pl p x→zp r ask pl [fo] x) (m:=fun p=>r.al.length+1 - p.length) (fun p hp=>?_) _ _ ⟨iK.one hfo,fun x h=>h⟩ (Nat.lt_succ_self _)
 rw [HN hp.1 hr]
 have hl:0≤cz p∧cz p < (r.al.length:Int):=hp.1.get _
 have Vz:=iY hf hl
 have hx:=Kr hb Vz
 by_cases c1:(aB r (cz p) ask pl).1=cz p
 ·have e:((aB r (cz p) ask pl).1 == cz p)=true:=beq_iff_eq.2 c1
  rw [e,cond_true]
  exact hp.2 _ (.same c1)
 have e:((aB r (cz p) ask pl).1 == cz p)=false:=beq_eq_false_iff_ne.2 c1
 rw [e,cond_false]
 by_cases c2:(aB r (cz p) ask pl).2=true
 ·rw [c2,Bool.not_true,Bool.false_or]
  by_cases c3:(aB r (cz p) ask pl).1∈p
  ·rw [(ud _ _).2 c3]
   cases c4:(r.al.getD (aB r (cz p) ask pl).1.toNat default).mb with
   | true =>
    have:=zp.again (r:=r) (ask:=ask) (places:=pl) c1 c2 c3
    rw [if_pos c4] at this
    exact hp.2 _ this
   | false =>
    have:=zp.again (r:=r) (ask:=ask) (places:=pl) c1 c2 c3
    rw [if_neg (by rw [c4]; decide)] at this
    exact hp.2 _ this
  ·have c3':cx p (aB r (cz p) ask pl).1=false:=by rw [← Bool.not_eq_true,ud]; exact c3
   rw [c3']
   have hs:=B6 hp.1 hx c3
   have hle:=hs.le
   simp only [List.length_append,List.length_cons,List.length_nil] at hle
   refine ⟨⟨hs,fun x h=>hp.2 _ (.go c1 c2 c3 h)⟩,?_⟩
   simp only [List.length_append,List.length_cons,List.length_nil]
   omega
 ·have c2':(aB r (cz p) ask pl).2=false:=by simpa using c2
  rw [c2']
  exact hp.2 _ (.part c1 c2')
theorem Qi {r:af} {fo ask:Int} {pl:List Int} (hr:r.al.length≤1000000):((!(jP r pl)||!(decide (0≤fo)&&decide (fo≤ar (((r.al.length:Nat):Int) - 1))))||!(decide (0≤ask)&&decide (ask≤21))) = !(bL r fo ask pl):=by
 rw [az (by omega) (by omega)]
 have h:=sj r fo ask pl
 rw [← ue r pl hr] at h
 rw [Bool.eq_iff_iff]
 simp only [LN]
 rw [← Bool.not_eq_true (bL r fo ask pl),h]
 cases jP r pl <;> simp <;> omega
theorem HP (r:af) (order:Int) (ask:Int) (places:List Int):(fun (x:Int × Bool)=>r.al.length≤1000000→r.n7→x=aB r order ask places) (yN r order ask places):=(fun h1 h2=>Qh h1 h2 _ _ _)
theorem LO (r:af) (order:Int) (ask:Int) (places:List Int) (hb:r.ck) (hr:r.Small) (hq:r.n7):(qW r order ask places).bE (fun _=>True):=by
 refine Sk.bm _ ?_
 unfold qW
 simp only [Sk.j2,Sk.aU,reduceCtorEq,ON,kk,kp,aK,B5,nQ,bN,forall_eq,maxLen]
 have hn:=hr.2.2.2.2.1
 rw [Qi hn]
 intro hc
 have h:=(sj r order ask places).1 (by simpa using hc)
 refine ⟨h.1,fun hz=>?_⟩
 rw [Kq] at hz ⊢
 have:=Xz ask (r.al.getD order.toNat default).aF (fun x hx=>by
  obtain ⟨j,hj,e⟩:=List.getElem_of_mem hx
  have:=hb order.toNat j (by omega) hj
  have e2:(r.al.getD order.toNat default).aF.getD j default=x:=e ▸ U0 _ hj
  rw [e2] at this
  exact this)
 rw [h.2.2.1]
 exact this
def yc r order ask places:=kk tok mixed Tryz.func144 [av r.cells,iv order,iv ask,lv cM places] (fun x=>.ef [iv x.1,bv x.2]) true (qW r order ask places) (yN r order ask places) (u3 (LO r order ask places)) (fun (x:Int × Bool)=>r.al.length≤1000000→r.n7→x=aB r order ask places) (HP r order ask places)
def WK (r:af) (fo ask:Int) (pl:List Int) (s:List Bool) (p:List Int) (k:Int):Prop:=s.length=r.al.length∧iK r.al.length p∧(k+1=(p.length:Int))∧(∀ q:Nat,q < r.al.length→(s.getD q default=true↔(q:Int)∈p))∧∀ x,zp r ask pl p x→zp r ask pl [fo] x
theorem Ks {r:af} {fo ask:Int} {pl:List Int} (hf:0≤fo∧fo < (r.al.length:Int)):WK r fo ask pl ((List.replicate r.al.length false).set fo.toNat true) [fo] 0:=by
 refine ⟨by simp,iK.one hf,rfl,fun q hq=>?_,fun x h=>h⟩
 rw [List.mem_singleton]
 by_cases e:q=fo.toNat
 ·subst e
  rw [mV _ (by simpa using hq)]
  exact ⟨fun _=>by omega,fun _=>rfl⟩
 ·rw [mW _ e]
  refine ⟨fun h=>?_,fun h=>absurd (by omega) e⟩
  simp [List.getD,hq] at h
theorem Kt {r:af} {fo ask k:Int} {pl p:List Int} {s:List Bool} (hb:r.ck) (hr:r.al.length≤1000000) (hf:bL r fo ask pl=true) (h0:pl.getD 0 default=fo) (hi:WK r fo ask pl s p k) :
  (0≤(aB r (cz p) ask pl).1∧(aB r (cz p) ask pl).1 < (r.al.length:Int))∧((aB r (cz p) ask pl).1=cz p→(p,0)=bh r fo ask pl) ∧
  ((aB r (cz p) ask pl).1≠cz p→(aB r (cz p) ask pl).2=false→(p++[(aB r (cz p) ask pl).1],0)=bh r fo ask pl) ∧
  ((aB r (cz p) ask pl).1≠cz p→(aB r (cz p) ask pl).2=true→s.getD (aB r (cz p) ask pl).1.toNat default=true →
   (p++[(aB r (cz p) ask pl).1],if (r.al.getD (aB r (cz p) ask pl).1.toNat default).mb=true then 0 else 12)=bh r fo ask pl) ∧
  ((aB r (cz p) ask pl).1≠cz p→(aB r (cz p) ask pl).2=true→s.getD (aB r (cz p) ask pl).1.toNat default=false →
   WK r fo ask pl (s.set (aB r (cz p) ask pl).1.toNat true) (p++[(aB r (cz p) ask pl).1]) (k+1)):=by
 obtain ⟨h1,h2,h3,h4,h5⟩:=hi
 have hl:0≤cz p∧cz p < (r.al.length:Int):=h2.get _
 have hx:=Kr hb (iY hf hl)
 have hP:=HO hb hr hf h0
 have hs:s.getD (aB r (cz p) ask pl).1.toNat default=true↔(aB r (cz p) ask pl).1∈p:=by
  rw [h4 _ (by omega),show (((aB r (cz p) ask pl).1.toNat:Nat):Int)=(aB r (cz p) ask pl).1 by omega]
 refine ⟨hx,fun c1=>(h5 _ (.same c1)).uniq hP,fun c1 c2=>(h5 _ (.part c1 c2)).uniq hP,fun c1 c2 c3=>(h5 _ (.again c1 c2 (hs.1 c3))).uniq hP,fun c1 c2 c3=>?_⟩
 have hm:(aB r (cz p) ask pl).1 ∉ p:=fun h=>by rw [hs.2 h] at c3; cases c3
 refine ⟨by simpa using h1,B6 h2 hx hm,by simp; omega,fun q hq=>?_,fun x h=>h5 _ (.go c1 c2 hm h)⟩
 rw [List.mem_append,List.mem_singleton]
 by_cases e:q=(aB r (cz p) ask pl).1.toNat
 ·subst e
  rw [mV _ (by omega)]
  exact ⟨fun _=>.inr (by omega),fun _=>rfl⟩
 ·rw [mW _ e,h4 q hq]
  exact ⟨.inl,fun h=>h.resolve_right (by omega)⟩
def oM (r:af) (aj:Int) (ask:Int) (places:List Int):Sk ((List Int) × Int) :=
 .r 1 (.dep ((nQ r places).c) fun x1=>.dep (.wh (!x1) false ((aK aj 0 (ar (((r.al.length:Nat):Int) - 1))).c)) fun x2=>.wh ((!x1)||(!x2)) false ((aK ask 0 21).c)) fun p7 =>
 .br (((!p7.1)||(!p7.2.1))||(!p7.2.2))
 (.fin ([],1))
 (.r 3 (.p (bz (0:Int) places.length)) fun _ =>
 .br ((places.getD 0 default) != aj)
 (.fin ([],1))
 (.r 5 (.au (.o [.dy (Xr Uu r.al.length false)]) (.p (PL ((r.al.length:Nat):Int) 1))) fun _ =>
 .r 6 (.o [.dy (gr eZ [aj])]) fun _ =>
 .r 7 (.au (.p (bz aj ((List.replicate r.al.length false).length))) (.au (.o [.dy (iQ Uu (List.replicate r.al.length false) aj.toNat true)]) (.p (aj.toNat < (List.replicate r.al.length false).length)))) fun _ =>
 .wn 41 (List.replicate r.al.length false).length ((List.replicate r.al.length false).set aj.toNat true).length <|
 .bind true (fun b4=>False)
 (.loop (default:Sum ((List Int) × Int) ((List Int))) (fun i5=>WK r aj ask places i5.1 i5.2.1 i5.2.2) (fun i5=>((r.al.length:Int)+1 - i5.2.2).toNat) (((List.replicate r.al.length false).set aj.toNat true,[aj],0):(List Bool) × (List Int) × Int)
 (fun (i5:(List Bool) × (List Int) × Int)=>⟨[(10,ow 100003 i5.1),(11,ow 100004 i5.2.1),(12,iv i5.2.2)],[(100003,fg 4 1 lI i5.1),(100004,fg 3 1 cM i5.2.1)]⟩) fun i5 =>
 .br (decide (i5.2.2≤((r.al.length:Nat):Int)))
 (.r 11 (.au (.p (bz (ar (((i5.2.1.length:Nat):Int) - 1)) i5.2.1.length)) (.au (.p ((ar (((i5.2.1.length:Nat):Int) - 1)).toNat < i5.2.1.length)) ((yc r (i5.2.1.getD ((ar (((i5.2.1.length:Nat):Int) - 1)).toNat) default) ask places).c))) fun x6 =>
 .r 12 (.au (.p (bz (ar (((i5.2.1.length:Nat):Int) - 1)) i5.2.1.length)) (.p ((ar (((i5.2.1.length:Nat):Int) - 1)).toNat < i5.2.1.length))) fun _ =>
 .br (x6.1 == (i5.2.1.getD ((ar (((i5.2.1.length:Nat):Int) - 1)).toNat) default))
 (.fin (.inl (.inl (i5.2.1,0))))
 (.r 14 (.au (.o [.dy (gr eZ [x6.1])]) (.au (.o [.dy (nY eZ i5.2.1 [x6.1])]) (.au (.t (eZ.sE [x6.1])) (.p (zb i5.2.1.length [x6.1].length 8))))) fun _ =>
 .br (!x6.2)
 (.fin (.inl (.inl (i5.2.1++[x6.1],0))))
 (.r 17 (.au (.p (bz x6.1 i5.1.length)) (.au (.p (x6.1.toNat < i5.1.length)) (.wh (i5.1.getD x6.1.toNat default) true (.p (bz x6.1 r.al.length))))) fun _ =>
 .br ((i5.1.getD x6.1.toNat default)&&((r.al.getD x6.1.toNat default).mb))
 (.fin (.inl (.inl (i5.2.1++[x6.1],0))))
 (.r 19 (.au (.p (bz x6.1 i5.1.length)) (.p (x6.1.toNat < i5.1.length))) fun _ =>
 .br (i5.1.getD x6.1.toNat default)
 (.fin (.inl (.inl (i5.2.1++[x6.1],12))))
 (.r 21 (.au (.p (bz x6.1 i5.1.length)) (.au (.o [.dy (iQ Uu i5.1 x6.1.toNat true)]) (.p (x6.1.toNat < i5.1.length)))) fun _ =>
 .wn 100003 i5.1.length (i5.1.set x6.1.toNat true).length <|
 .fin (.inr (i5.1.set x6.1.toNat true,i5.2.1++[x6.1],ar (i5.2.2+1))))))))
 (.fin (.inl (.inr i5.2.1))))
 (fun (b4:(List Int))=>⟨[(11,ow 100002 b4)],[(100002,fg 3 1 cM b4)]⟩) fun b4 =>
 .fin (b4,12)))
def nR r aj ask places:=(oM r aj ask places).val
theorem N7 (r:af) (aj:Int) (ask:Int) (places:List Int) (hP:r.ck∧r.Small∧r.n7):(oM r aj ask places).dz (fun (x:(List Int) × Int)=>x=bh r aj ask places):=by
 refine Sk.bq _ ?_
 unfold oM
 simp only [Sk.cV,Sk.aU,reduceCtorEq,ON,kk,kp,aK,yc,nQ,bN,forall_eq,maxLen]
 obtain ⟨hb,hr,hq⟩:=hP
 have hn:=hr.2.2.2.2.1
 rw [Qi hn]
 refine ⟨fun hc=>?_,fun hc _=>⟨fun h0=>?_,fun h0 _ _ _=>⟨?_,fun i hi=>⟨fun hle hL=>?_,fun hle=>?_⟩⟩⟩⟩
 ·rw [N6]
  intro h; rw [h.1] at hc; cases hc
 ·rw [N6]
  intro h; rw [bne_iff_ne] at h0; exact h0 h.2
 ·exact Ks ((sj _ _ _ _).1 (by simpa using hc)).1
 ·have hf:bL r aj ask places=true:=by simpa using hc
  have R:=Kt hb hn hf (by simpa using h0) hi
  have hL:=hL hn hq
  rw [HN hi.2.1 hn] at hL ⊢
  rw [hL]
  have hk:=hi.2.2.1
  have Y6:=hi.2.1.le
  rw [az (by omega) (by omega)]
  refine fun _=>⟨fun h1=>R.2.1 (by simpa using h1),fun h1 _=>?_⟩
  have h1:(aB r (cz i.2.1) ask places).1≠cz i.2.1:=by simpa using h1
  refine ⟨fun h2=>R.2.2.1 h1 (by simpa using h2),fun h2 _=>?_⟩
  have h2:(aB r (cz i.2.1) ask places).2=true:=by simpa using h2
  refine ⟨fun h3=>?_,fun h3 _=>⟨fun h4=>?_,fun h4 _=>⟨R.2.2.2.2 h1 h2 h4,by omega⟩⟩⟩
  ·rw [Bool.and_eq_true] at h3
   have:=R.2.2.2.1 h1 h2 h3.1
   rw [if_pos h3.2] at this
   exact this
  ·rw [h4,Bool.true_and] at h3
   have:=R.2.2.2.1 h1 h2 h4
   rw [if_neg (by rw [h3]; decide)] at this
   exact this
 ·have hk:=hi.2.2.1
  have Y6:=hi.2.1.le
  simp only [LN] at hle
  omega
theorem B7 (r:af) (aj:Int) (ask:Int) (places:List Int):(fun (x:(List Int) × Int)=>(r.ck∧r.Small∧r.n7)→(x=bh r aj ask places)) (nR r aj ask places):=fun hP=>have h:=Sk.dA _ (N7 r aj ask places hP); h
theorem Qj (r:af) (aj:Int) (ask:Int) (places:List Int) (hb:r.ck) (hr:r.Small) (hq:r.n7):(oM r aj ask places).bE (fun _=>True):=by
 refine Sk.bm _ ?_
 unfold oM
 simp only [Sk.j2,Sk.aU,reduceCtorEq,ON,kk,kp,aK,yc,nQ,bN,forall_eq,maxLen]
 have hn:=hr.2.2.2.2.1
 rw [Qi hn]
 intro hc
 have hf:bL r aj ask places=true:=by simpa using hc
 have hfi:=(sj _ _ _ _).1 hf
 have WY:(List.replicate r.al.length false).length=r.al.length:=List.length_replicate
 refine ⟨⟨by omega,by rw [hfi.2.2.1]; decide⟩,fun _ h0=>⟨⟨by omega,by omega,by omega⟩,fun _ _=>⟨⟨by rw [WY]; exact hfi.1,by omega⟩,fun _=>⟨by simp,Ks hfi.1,fun i hi=>⟨fun hle=>?_,fun hle=>?_⟩⟩⟩⟩⟩
 ·have R:=Kt hb hn hf (by simpa using h0) hi
  have hl:=hi.1
  have hk:=hi.2.2.1
  have hp:=hi.2.1.1
  have Y6:=hi.2.1.le
  have e:ar ((i.2.1.length:Int) - 1)=(i.2.1.length:Int) - 1:=az (by omega) (by omega)
  have e2:ar (i.2.2+1)=i.2.2+1:=az (by omega) (by omega)
  rw [HN hi.2.1 hn,e,e2]
  refine ⟨⟨⟨by omega,by omega⟩,by omega,hb,hr,hq⟩,fun hL=>?_⟩
  rw [hL hn hq]
  have hx:=R.1
  have ZD:∀ z:Int,[z].length=1:=fun _=>rfl
  refine ⟨⟨⟨by omega,by omega⟩,by omega⟩,fun _ h1=>⟨⟨by rw [ZD]; omega,by rw [ZD]; omega⟩,fun _ h2=>⟨⟨⟨by omega,by omega⟩,by omega,fun _=>by omega⟩,fun _ h3=>⟨⟨⟨by omega,by omega⟩,by omega⟩,fun _ h4=>⟨⟨⟨by omega,by omega⟩,by omega⟩,fun _=>⟨by simp,R.2.2.2.2 (by simpa using h1) (by simpa using h2) h4,by omega⟩⟩⟩⟩⟩⟩
 ·have hk:=hi.2.2.1
  have Y6:=hi.2.1.le
  simp only [LN] at hle
  omega
def Ku r aj ask places:=kk tok mixed Tryz.func102 [av r.cells,iv aj,iv ask,lv cM places] (fun x=>.ef [lv cM x.1,iv x.2]) false (oM r aj ask places) (nR r aj ask places) (u3 (Qj r aj ask places)) (fun (x:(List Int) × Int)=>(r.ck∧r.Small∧r.n7)→(x=bh r aj ask places)) (B7 r aj ask places)
def pX (o:Order) (ask:Int):Sk (Int) :=
 .bind true (fun b1=>∀ q,q < o.rules.length→(o.rules.getD q default).ask≠ask)
 (.loop (default:Sum (Int) (Unit)) (fun i2=>i2≤o.rules.length∧∀ q,q < i2→(o.rules.getD q default).ask≠ask) (fun i2=>o.rules.length - i2) (0:Nat)
 (fun (i2:Nat)=>⟨[(5,iv (i2:Int))],[]⟩) fun i2 =>
 .lt 2 3 i2 o.rules.length
 (.r 4 (.p (bz (i2:Int) o.rules.length)) fun _ =>
 .br (((o.rules.getD i2 default).ask) == ask)
 (.fin (.inl (.inl (i2:Int))))
 (.nx 3 5 i2 (i2+1)))
 (.fin (.inl (.inr ()))))
 (fun (_:Unit)=>⟨[],[]⟩) fun _ =>
 .fin (-1)
def gn o ask:=(pX o ask).val
theorem B8 (o:Order) (ask:Int):(pX o ask).dz (fun (x:Int)=>(x = -1∧∀ q,q < o.rules.length→(o.rules.getD q default).ask≠ask)∨(0≤x∧x < (o.rules.length:Int)∧(o.rules.getD x.toNat default).ask=ask∧∀ q,(q:Nat) < x.toNat→(o.rules.getD q default).ask≠ask)):=by
 refine Sk.bq _ ?_
 unfold pX
 simp only [Sk.cV,Sk.aU,reduceCtorEq,ON,kk,kp,maxLen]
 refine ⟨⟨⟨Nat.zero_le _,fun q hq=>absurd hq (by omega)⟩,fun i hi=>⟨fun hc _=>⟨fun h=>?_,fun h _=>?_⟩,fun hc=>?_⟩⟩,fun _ hb=>.inl hb⟩
 all_goals simp only [LN] at hc
 ·simp only [LN] at h
  refine .inr ⟨by omega,by omega,?_,fun q hq=>hi.2 q (by omega)⟩
  rw [Int.toNat_natCast]
  exact h
 ·simp only [LN] at h
  refine ⟨⟨by omega,fun q hq=>?_⟩,by omega⟩
  rcases Nat.lt_succ_iff_lt_or_eq.1 hq with h1 | rfl
  ·exact hi.2 q h1
  ·exact h
 ·exact fun q hq=>hi.2 q (by omega)
theorem Ju (o:Order) (ask:Int):(fun (x:Int)=>(x = -1∧∀ q,q < o.rules.length→(o.rules.getD q default).ask≠ask)∨(0≤x∧x < (o.rules.length:Int)∧(o.rules.getD x.toNat default).ask=ask∧∀ q,(q:Nat) < x.toNat→(o.rules.getD q default).ask≠ask)) (gn o ask):=have h:=Sk.dA _ (B8 o ask); h
theorem N8 (o:Order) (ask:Int):(pX o ask).bE (fun _=>True):=by
 refine Sk.bm _ ?_
 unfold pX
 simp only [Sk.j2,Sk.aU,reduceCtorEq,ON,kk,kp,maxLen]
 refine ⟨⟨Nat.zero_le _,fun q hq=>absurd hq (by omega)⟩,fun i hi hm=>⟨fun hc=>⟨⟨by omega,of_decide_eq_true hc⟩,fun _ h _=>⟨?_,⟨?_,fun q hq=>?_⟩,?_⟩⟩,fun hc=>?_⟩⟩
 all_goals simp only [LN] at hc
 ·exact (az (by omega) (by omega)).trans (by omega)
 ·omega
 ·simp only [LN] at h
  rcases Nat.lt_succ_iff_lt_or_eq.1 hq with h1 | rfl
  ·exact hi.2 q h1
  ·exact h
 ·omega
 ·exact fun q hq=>hi.2 q (by omega)
def oO o ask:=kp tok mixed Tryz.func147 [av o.cells,iv ask] (fun x=>iv x) true (gn o ask) (u0 (N8 o ask)) (B8 o ask)
def nS (op:Int):Sk (Int) :=
 .bind false (fun _=>True)
 (.br (op == 0)
 (.fin (.inr (op == 0)))
 (.br (op == 1)
 (.fin (.inr (op == 1)))
 (.fin (.inr (op == 2)))))
 (fun (b1:Bool)=>⟨[(4,bv b1)],[]⟩) fun b1 =>
 .br b1
 (.fin 0)
 (.br (op == 3)
 (.fin 1)
 (.br (op == 6)
 (.fin 3)
 (.fin 2)))
def cO op:=(nS op).val
theorem j1 (op:Int):cO op=if op=0∨op=1∨op=2 then 0 else if op=3 then 1 else if op=6 then 3 else 2:=by
 have e:cO op=bif (bif op == 0 then (op == 0) else bif op == 1 then (op == 1) else (op == 2)) then 0 else bif op == 3 then 1 else bif op == 6 then 3 else 2:=by
  simp only [cO,nS,Sk.cu,Sk.aZ,Sk.aN]
  cases (op == 0) <;> cases (op == 1) <;> rfl
 rw [e]
 by_cases h0:op=0
 ·subst h0; rfl
 by_cases h1:op=1
 ·subst h1; rfl
 by_cases h2:op=2
 ·subst h2; rfl
 rw [if_neg (by omega),beq_eq_false_iff_ne.2 h0,beq_eq_false_iff_ne.2 h1,beq_eq_false_iff_ne.2 h2]
 simp only [cond_false,Bool.cond_eq_ite,beq_iff_eq,Bool.false_eq_true,if_false]
theorem HR (op:Int):(fun (x:Int)=>x=if op=0∨op=1∨op=2 then 0 else if op=3 then 1 else if op=6 then 3 else 2) (cO op):=(j1 op)
theorem LP (op:Int):(nS op).bE (fun _=>True):=by
 unfold nS
 exact mY
def yd op:=kk tok mixed Tryz.func209 [iv op] (fun x=>iv x) true (nS op) (cO op) (u0 (LP op)) (fun (x:Int)=>x=if op=0∨op=1∨op=2 then 0 else if op=3 then 1 else if op=6 then 3 else 2) (HR op)
def nT (v:Int):Sk (Int × Bool) :=
 .br ((decide (v < 0))||(decide (v≥20)))
 (.fin (0,false))
 (.br (decide (v≤6))
 (.fin (0,true))
 (.fin (1,true)))
def tw v:=(nT v).val
theorem HS (v:Int):(nT v).bE (fun _=>True):=by
 unfold nT
 exact mY
def px v:=kk tok mixed Tryz.func212 [iv v] (fun x=>.ef [iv x.1,bv x.2]) true (nT v) (tw v) (u0 (HS v))
def tx (t:Term):Sk (Int × Int) :=
 .br (t.op == 0)
 (.br ((decide (t.n < (-1099511627776)))||(decide (t.n > 1099511627776)))
 (.fin (0,3))
 (.fin (0,0)))
 (.br (t.op == 1)
 (.br ((t.n != 0)&&(t.n != 1))
 (.fin (0,3))
 (.fin (1,0)))
 (.r 9 ((px t.n).c) fun x1 =>
 .br (!x1.2)
 (.fin (0,10))
 (.fin (x1.1,0))))
def sn t:=(tx t).val
theorem N9 (t:Term):(tx t).bE (fun _=>True):=by
 unfold tx
 try simp only [px]
 exact mY
def Ag t:=kk tok mixed Tryz.func210 [av t.cells] (fun x=>.ef [iv x.1,iv x.2]) true (tx t) (sn t) (u0 (N9 t))
end
end Go.Proofs.YtcpmocecjgipbaaGreatDoor
