/- Functions, as sketches. -/
import Derived.Test.YtonkchddcgcopaaGreatDoorSf
import Derived.Test.YtonkchddcgcopaaGreatDoorLd
set_option linter.unusedSimpArgs false
set_option linter.unusedVariables false
set_option maxHeartbeats 1000000
set_option maxRecDepth 100000
namespace Go.Proofs.YtonkchddcgcopaaGreatDoor
noncomputable section
open Go Go.Av
def j9 (r:ah) (cH:Int) (day:Int):Sk (Int × Int) :=
 .r 1 ((db r cH).c) fun x1 =>
 .loop (default:Int × Int) (fun i2=>(0:Int)≤i2∧i2≤100001) (fun i2=>(100001 - i2).toNat) (day:Int)
 (fun (i2:Int)=>⟨[(2,iv i2)],[]⟩) fun i2 =>
 .r 2 ((Ao r x1 i2).c) fun x3 =>
 .r 3 (.aj (.p (bU cH r.aN.length)) ((mG (r.aN.getD cH.toNat default) x3).c)) fun x4 =>
 .br (x4.2 != 0)
 (.fin (.inl (0,3)))
 (.br (x4.1 == x3)
 (.fin (.inl (x3,0)))
 (.fin (.inr x4.1)))
def Ga r cH day:=(j9 r cH day).val
theorem HK (r:ah) (cH:Int) (day:Int) (hP:(0≤cH∧cH < (r.aN.length:Int))∧(0≤day∧day≤100001)∧r.eM):(j9 r cH day).dj (fun (x:Int × Int)=>x.2=0→0≤x.1∧x.1≤100001):=by
 refine Sk.bz _ ?_
 unfold j9
 simp only [Sk.de,Sk.aI,reduceCtorEq,ON,kk,kp,mG,db,Ao,ah.eM,maxLen]
 obtain ⟨hc,hd,hh⟩:=hP
 intro _ _
 refine ⟨hd,fun i hi y hy hyp x hx hxp=>⟨fun _ h=>absurd h (by decide),fun he=>⟨fun hq=>?_,fun hq=>⟨?_,?_⟩⟩⟩⟩
 all_goals have h2:=hyp ⟨hh,hi⟩
 all_goals simp only [LN] at he hq
 all_goals have h3:=hxp he
 all_goals omega
theorem Gb (r:ah) (cH:Int) (day:Int):(fun (x:Int × Int)=>((0≤cH∧cH < (r.aN.length:Int))∧(0≤day∧day≤100001)∧r.eM)→(x.2=0→0≤x.1∧x.1≤100001)) (Ga r cH day):=fun hP=>Sk.dk _ (HK r cH day hP)
theorem J3 (r:ah) (cH:Int) (day:Int) (hc:0≤cH∧cH < (r.aN.length:Int)) (hd:0≤day∧day≤100001) (hh:r.eM):(j9 r cH day).bC (fun _=>True):=by
 simp only [ah.eM] at hh
 unfold j9
 try simp only [mG,db,Ao,ah.eM]
 exact mA
def wq r cH day:=kk tok mixed Tryz.func102 [av r.cells,iv cH,iv day] (fun x=>.fD [iv x.1,iv x.2]) true (j9 r cH day) (Ga r cH day) (u3 (J3 r cH day)) (fun (x:Int × Int)=>((0≤cH∧cH < (r.aN.length:Int))∧(0≤day∧day≤100001)∧r.eM)→(x.2=0→0≤x.1∧x.1≤100001)) (Gb r cH day)
def rT (r:ah) (b:rE) (seen:Int) (tW:Int):Sk (Int × Int) :=
 .r 2 (.dep ((mK r).c) fun x1=>.dep (.wh (x1 != 0) false ((rP r b.cH).c)) fun x2=>.dep (.wh ((x1 != 0)||(!x2)) false ((rP r b.A2).c)) fun x3=>.wh (((x1 != 0)||(!x2))||(!x3)) false ((pM b.day).c)) fun NW =>
 .br ((((NW.1 != 0)||(!NW.2.1))||(!NW.2.2.1))||(!NW.2.2.2))
 (.fin (0,1))
 (.br ((((decide (b.df.kind < 0))||(decide (b.df.kind≥5)))||(decide (b.df.unit < 0)))||(decide (b.df.unit≥2)))
 (.fin (0,1))
 (.r 6 (.wh (seen != (-1)) true ((pM seen).c)) fun x5 =>
 .br ((((seen != (-1))&&(!x5))||(decide (tW < 0)))||(decide (tW > 20000)))
 (.fin (0,1))
 (.r 8 ((wm b.df).c) fun x6 =>
 .br (x6&&(seen == (-1)))
 (.fin (0,4))
 (.r 10 ((Am r b seen).c) fun x7 =>
 .br (x7.2 != 0)
 (.fin (0,x7.2))
 (.r 13 ((pM x7.1).c) fun x8 =>
 .br ((!x8)||(decide ((ar (x7.1+tW)) > 100000)))
 (.fin (0,3))
 (.r 15 ((wq r b.A2 (ar (x7.1+tW))).c) fun x9 =>
 .fin (x9.1,x9.2)))))))
def Qk r b seen tW:=(rT r b seen tW).val
theorem Pa (r:ah) (b:rE) (seen:Int) (tW:Int):(rT r b seen tW).dj (fun (x:Int × Int)=>x.2=0→0≤x.1∧x.1≤100001):=by
 refine Sk.bz _ ?_
 unfold rT
 simp only [Sk.de,Sk.aI,reduceCtorEq,ON,kk,kp,mK,wm,Am,rP,pM,wq,A6,A5,Cm,forall_eq,ak.Small,ah.Small,ah.eM,maxLen]
 intro hr
 refine ⟨fun _ h=>absurd h (by decide),fun h1=>⟨fun _ h=>absurd h (by decide),fun _=>⟨fun _ h=>absurd h (by decide),fun h3=>⟨fun _ h=>absurd h (by decide),fun _=>⟨fun h h'=>by rw [h'] at h; exact absurd h (by decide),fun h4=>⟨fun _ h=>absurd h (by decide),fun h5 himp=>?_⟩⟩⟩⟩⟩⟩
 simp only [LN] at h1 h5
 have e:∀ x g:Int,0≤x∧x≤100000→0≤g∧g≤20000→0≤ar (x+g):=fun x g h1 h2=>by rw [aA (by omega) (by omega)]; omega
 have h6:0≤tW∧tW≤20000:=by simp only [LN] at h3; omega
 refine himp ⟨by omega,⟨e _ _ h5.1 h6,by omega⟩,hr h1.1.1.1⟩
theorem RW (r:ah) (b:rE) (seen:Int) (tW:Int) (aX:r.Small):(rT r b seen tW).bC (fun _=>True):=by
 simp only [ak.Small,ah.Small,ah.eM] at aX
 unfold rT
 try simp only [mK,wm,Am,rP,pM,wq,A6,A5,Cm,ak.Small,ah.Small,ah.eM]
 exact Bu
def IU r b seen tW:=kp tok mixed Tryz.func70 [av r.cells,av b.cells,iv seen,iv tW] (fun x=>.fD [iv x.1,iv x.2]) true (Qk r b seen tW) (RW r b seen tW) (Pa r b seen tW)
def qt (r:ah) (forum:Int) (f:ak) (day:Int):Sk (Int) :=
 .r 1 ((aV f day).c) fun x1 =>
 .br (((x1.af.length:Nat):Int) == 0)
 (.fin (-1))
 (.r 4 (.dep ((qJ r forum 6 x1 day).c) fun x2=>(oS x2).c) fun p7 =>
 .r 5 (.dep ((pL x1).c) fun x4=>(IU r x1.aU x4 (bX p7.2 0)).c) fun p6 =>
 .br (p6.2.2 != 0)
 (.fin (-1))
 (.fin p6.2.1))
def bJ r forum f day:=(qt r forum f day).val
theorem J4 (r:ah) (forum:Int) (f:ak) (day:Int) (bj:f.Small) (bR:r.cj) (aX:r.Small):(qt r forum f day).bC (fun _=>True):=by
 simp only [ak.Small,ah.Small,ah.cj] at bj
 simp only [ak.Small,ah.Small,ah.cj] at bR
 simp only [ak.Small,ah.Small,ah.cj] at aX
 unfold qt
 try simp only [qJ,oS,aV,pL,IU,ak.Small,ah.Small,ah.cj]
 exact mA
def bW r forum f day:=kk tok mixed Tryz.func45 [av r.cells,iv forum,av f.cells,iv day] (fun x=>iv x) true (qt r forum f day) (bJ r forum f day) (u3 (J4 r forum f day))
theorem IV (r:ah) (fo:Int) (f:ak) (day:Int):bJ r fo f day = 
  bif ((ai f day).af.length:Int) == 0 then -1 else (fun p:Int × Int=>bif p.2 != 0 then -1 else p.1) (Qk r (ai f day).aU (nT (ai f day)) (bX (sR (tU r fo 6 (ai f day) day)) 0)):=by
 kernel_rfl
def sS (r:ah) (forum:Int) (f:ak) (day:Int):Sk (fy × Bool) :=
 .br ((decide (forum < 0))||(decide (forum≥((r.aE.length:Nat):Int))))
 (.fin (({ view:=({ all:=({ aU:=({ BV:=0,m4:=0,gj:=0,sum:=0,au:=0,df:=({ kind:=0,n:=0,unit:=0 }:sy),day:=0,cH:=0,A2:=0,need:=0,mD:=0,flags:=0,parts:=0 }:rE),af:=[],bn:=[],aw:=[],facts:=[] }:ak),now:=({ aU:=({ BV:=0,m4:=0,gj:=0,sum:=0,au:=0,df:=({ kind:=0,n:=0,unit:=0 }:sy),day:=0,cH:=0,A2:=0,need:=0,mD:=0,flags:=0,parts:=0 }:rE),af:=[],bn:=[],aw:=[],facts:=[] }:ak),day:=0,lead:=[] }:View),r:=({ cz:=[],aN:=[],gh:=[],bu:=[],aE:=[],bg:=[],bV:=[],eR:=[] }:ah),forum:=0,due:=0 }:fy),false))
 (.r 3 (.dep ((Et f day).c) fun _=>(bW r forum f day).c) fun p3 =>
 .fin (({ view:=p3.1,r:=r,forum:=forum,due:=p3.2 }:fy),true))
def aF r forum f day:=(sS r forum f day).val
theorem IW (r:ah) (forum:Int) (f:ak) (day:Int):(sS r forum f day).dj (fun (x:fy × Bool)=>x.2=true→x.1=⟨aD f day,r,forum,bJ r forum f day⟩∧0≤forum∧forum < (r.aE.length:Int)):=by
 unfold sS
 try simp only [bW,Et,ak.Small,ah.Small,ah.cj]
 exact Fz
theorem Gc (r:ah) (forum:Int) (f:ak) (day:Int):(fun (x:fy × Bool)=>x.2=true→x.1=⟨aD f day,r,forum,bJ r forum f day⟩∧0≤forum∧forum < (r.aE.length:Int)) (aF r forum f day):=have h:=Sk.dk _ (IW r forum f day); h
theorem WJ (r:ah) (forum:Int) (f:ak) (day:Int) (bj:f.Small) (bR:r.cj) (aX:r.Small):(sS r forum f day).bC (fun _=>True):=by
 simp only [ak.Small,ah.Small,ah.cj] at bj
 simp only [ak.Small,ah.Small,ah.cj] at bR
 simp only [ak.Small,ah.Small,ah.cj] at aX
 unfold sS
 try simp only [bW,Et,ak.Small,ah.Small,ah.cj]
 exact mA
def HL r forum f day:=kp tok mixed Tryz.func115 [av r.cells,iv forum,av f.cells,iv day] (fun x=>.fD [av x.1.cells,bv x.2]) false (aF r forum f day) (u3 (WJ r forum f day)) (IW r forum f day)
structure cX where
 sign:Int
 kind:Int
 gD:Int
 binds:Int
 text:Int
 sum:Int
 fM:Bool
 deriving Inhabited
def cX.cells (c:cX):List D:=[dI c.sign,dI c.kind,dI c.gD,dI c.binds,dI c.text,dI c.sum,dB c.fM]
def cX.E:P5 cX:=⟨cX.cells,7,fun _=>rfl,fun _=>rfl⟩
structure mH where
 r:ah
 forum:Int
 day:Int
 f:ak
 form:Int
 due:Int
 deriving Inhabited
def mH.cells (c:mH):List D:=c.r.cells++[dI c.forum,dI c.day]++c.f.cells++[dI c.form,dI c.due]
def Ap (s:mb):Sk (Int) :=
 .br (s.err != 0)
 (.fin 0)
 (.br (!s.cell.known)
 (.fin 2)
 (.br (s.cell.n != 0)
 (.fin 1)
 (.fin 0)))
def fS s:=(Ap s).val
theorem WK (s:mb):(Ap s).bC (fun _=>True):=by
 unfold Ap
 exact qT
def eZ s:=kk tok mixed Tryz.func46 [av s.cells] (fun x=>iv x) true (Ap s) (fS s) (u0 (WK s))
def rU (r:ah) (forum:Int) (f:ak) (day:Int):Sk (mH) :=
 .r 1 ((aV f day).c) fun x1 =>
 .r 2 (.dep ((qJ r forum 0 x1 day).c) fun x2=>.dep ((eZ x2).c) fun _=>(bW r forum x1 day).c) fun p5 =>
 .fin ({ r:=r,forum:=forum,day:=day,f:=x1,form:=p5.2.1,due:=p5.2.2 }:mH)
def jl r forum f day:=(rU r forum f day).val
theorem D4 (r:ah) (forum:Int) (f:ak) (day:Int):(rU r forum f day).dj (fun (x:mH)=>x.f=ai f day∧x.r=r):=by
 unfold rU
 try simp only [qJ,bW,eZ,aV,ak.Small,ah.Small,ah.cj]
 exact Fz
theorem MM (r:ah) (forum:Int) (f:ak) (day:Int):(fun (x:mH)=>x.f=ai f day∧x.r=r) (jl r forum f day):=have h:=Sk.dk _ (D4 r forum f day); h
theorem RX (r:ah) (forum:Int) (f:ak) (day:Int) (bj:f.Small) (bR:r.cj) (aX:r.Small):(rU r forum f day).bC (fun _=>True):=by
 simp only [ak.Small,ah.Small,ah.cj] at bj
 simp only [ak.Small,ah.Small,ah.cj] at bR
 simp only [ak.Small,ah.Small,ah.cj] at aX
 unfold rU
 try simp only [qJ,bW,eZ,aV,ak.Small,ah.Small,ah.cj]
 exact mA
def nU r forum f day:=kp tok mixed Tryz.func143 [av r.cells,iv forum,av f.cells,iv day] (fun x=>av x.cells) false (jl r forum f day) (u3 (RX r forum f day)) (D4 r forum f day)
def qu (f:ak) (day:Int):Sk ((List (Int × Bool))) :=
 .r 1 (.o [.aZ (sx dB)]) fun _ =>
 .bt
 (.loop (default:Sum ((List (Int × Bool))) ((List (Int × Bool)))) (fun i2=>i2.1≤f.aw.length) (fun i2=>f.aw.length - i2.1) ((0,([]:List (Int × Bool))):Nat × (List (Int × Bool)))
 (fun (i2:Nat × (List (Int × Bool)))=>⟨[(12,iv (i2.1:Int))],[(8,SN dB i2.2)]⟩) fun i2 =>
 .lt 10 0 i2.1 f.aw.length
 (.r 4 (.p (bU (i2.1:Int) f.aw.length)) fun _ =>
 .br ((((f.aw.getD i2.1 default).kind) == 7)&&(decide (((f.aw.getD i2.1 default).day)≤day)))
 (.r 6 (.aj (.t (pv dB i2.2)) (.o [.aZ (Ws dB i2.2 ((f.aw.getD i2.1 default).at_) true)])) fun _ =>
 .r 7 .z fun _ =>
 .wi 12 (ar ((i2.1:Int)+1)) ((i2.1+1:Nat):Int) <|
 .fin (.inr (i2.1+1,nC i2.2 ((f.aw.getD i2.1 default).at_) true)))
 (.nx 7 12 i2.1 (i2.1+1,i2.2)))
 (.fin (.inl (.inr i2.2))))
 (fun (b1:(List (Int × Bool)))=>⟨[],[(8,SN dB b1)]⟩) fun b1 =>
 .fin b1
def gr f day:=(qu f day).val
theorem J5 (f:ak) (day:Int):(qu f day).bC (fun _=>True):=by
 unfold qu
 exact mA
def rV f day:=kk tok mixed Tryz.func210 [av f.cells,iv day] (fun x=>pmM dB x) false (qu f day) (gr f day) (u0 (J5 f day))
def qv (f:ak) (sign:Int) (day:Int):Sk (Bool) :=
 .r 1 (.pz (.wh ((decide (sign≥0))&&(decide (sign < ((f.af.length:Nat):Int)))) true ((rV f day).c)) fun x1=>.wh ((decide (sign≥0))&&(decide (sign < ((f.af.length:Nat):Int)))) true (.aj (.t (pv dB x1)) (.o [.cast 21 (getM dB x1 sign false)]))) fun x1 =>
 .fin (((decide (sign≥0))&&(decide (sign < ((f.af.length:Nat):Int))))&&(cT x1 sign false))
def kz f sign day:=(qv f sign day).val
theorem J6 (f:ak) (sign:Int) (day:Int):(qv f sign day).bC (fun _=>True):=by
 unfold qv
 try simp only [rV]
 exact qT
def rW f sign day:=kk tok mixed Tryz.func175 [av f.cells,iv sign,iv day] (fun x=>bv x) true (qv f sign day) (kz f sign day) (u0 (J6 f sign day))
def nw (v:mH) (aO:Int) (sign:Int):Sk (Int) :=
 .r 2 (.dep ((eX v.r v.forum aO ({ file:=v.f,sign:=sign,jy:=sign,ch:=(-1),due:=v.due,day:=v.day }:fF)).c) fun x1=>(eZ x1).c) fun p3 =>
 .fin p3.2
def fg v aO sign:=(nw v aO sign).val
theorem Gd (v:mH) (aO:Int) (sign:Int) (jg:v.f.Small) (nV:v.r.cj) (lZ:v.r.Small):(nw v aO sign).bC (fun _=>True):=by
 unfold nw
 try simp only [eX,eZ]
 exact mA
def eA v aO sign:=kk tok mixed Tryz.func176 [av v.cells,iv aO,iv sign] (fun x=>iv x) true (nw v aO sign) (fg v aO sign) (u3 (Gd v aO sign))
def jn:List Int→Int→Int
 | [],o=>o
 | x :: r,o=>if x=0 then 0 else if x=2 then jn r 2 else jn r o
theorem Ge {l:List Int} {n:Nat} (h:n < l.length) (o:Int):jn (l.drop n) o=if l.getD n default=0 then 0 else if l.getD n default=2 then jn (l.drop (n+1)) 2 else jn (l.drop (n+1)) o:=by
 rw [List.drop_eq_getElem_cons h]
 simp only [jn,List.getD,List.getElem?_eq_getElem h,Option.getD_some]
def rX (l:List Int):Sk (Int) :=
 .bind true (fun b1=>b1=jn l 1)
 (.loop (default:Sum (Int) (Int)) (fun i2=>i2.2≤l.length∧jn l 1=jn (l.drop i2.2) i2.1) (fun i2=>l.length - i2.2) ((1,0):Int × Nat)
 (fun (i2:Int × Nat)=>⟨[(3,iv i2.1),(8,iv (i2.2:Int))],[]⟩) fun i2 =>
 .lt 6 0 i2.2 l.length
 (.r 4 (.p (bU (i2.2:Int) l.length)) fun _ =>
 .br ((l.getD i2.2 default) == 0)
 (.fin (.inl (.inl 0)))
 (.br ((l.getD i2.2 default) == 2)
 (.nx 9 8 i2.2 (2,i2.2+1))
 (.nx 9 8 i2.2 (i2.1,i2.2+1))))
 (.fin (.inl (.inr i2.1))))
 (fun (b1:Int)=>⟨[(3,iv b1)],[]⟩) fun b1 =>
 .fin b1
def bind_join l:=(rX l).val
theorem D5 (l:List Int):(rX l).dj (fun (x:Int)=>x=jn l 1):=by
 refine Sk.bz _ ?_
 unfold rX
 simp only [Sk.de,Sk.aI,reduceCtorEq,ON,kk,kp,maxLen]
 all_goals simp only [LN] at *
 refine ⟨⟨⟨Nat.zero_le _,by simp⟩,fun i hi=>⟨fun hc _=>⟨fun h=>?_,fun h=>⟨fun h2 _=>⟨⟨by omega,?_⟩,by omega⟩,fun h2 _=>⟨⟨by omega,?_⟩,by omega⟩⟩⟩,fun hc=>?_⟩⟩,fun b hb=>hb⟩
 ·rw [hi.2,Ge (by omega),if_pos h]
 ·rw [hi.2,Ge (by omega),if_neg h,if_pos h2]
 ·rw [hi.2,Ge (by omega),if_neg h,if_neg h2]
 ·rw [hi.2,List.drop_eq_nil_of_le (by omega)]; rfl
theorem Co (l:List Int):(fun (x:Int)=>x=jn l 1) (bind_join l):=have h:=Sk.dk _ (D5 l); h
theorem RY (l:List Int):(rX l).bC (fun _=>True):=by
 refine Sk.aR _ ?_
 unfold rX
 simp only [Sk.ju,Sk.aI,reduceCtorEq,ON,kk,kp,maxLen]
 all_goals simp only [LN] at *
 have wi:∀ n:Nat,n < l.length→l.length≤9223372036854775807→ar ((n:Int)+1)=((n+1:Nat):Int):=fun n h h1=>by rw [aA (by omega) (by omega)]; omega
 refine ⟨⟨Nat.zero_le _,by simp⟩,fun i hi hm=>⟨fun hc=>⟨by omega,fun _ h=>⟨fun h2 _=>⟨wi _ (by omega) (by omega),⟨by omega,?_⟩,by omega⟩,fun h2 _=>⟨wi _ (by omega) (by omega),⟨by omega,?_⟩,by omega⟩⟩⟩,fun hc=>?_⟩⟩
 ·rw [hi.2,Ge (by omega),if_neg h,if_pos h2]
 ·rw [hi.2,Ge (by omega),if_neg h,if_neg h2]
 ·rw [hi.2,List.drop_eq_nil_of_le (by omega)]; rfl
def rb l:=kp tok mixed Tryz.func41 [lv bI l] (fun x=>iv x) true (bind_join l) (u0 (RY l)) (D5 l)
def lN (f:ak) (i:Int):Sk (Int) :=
 .bind true (fun b1=>f.rF→0≤b1∧b1≤1099511627776)
 (.loop (default:Sum (Int) (Int)) (fun i2=>i2.2≤f.bn.length∧(f.rF→0≤i2.1∧i2.1≤1099511627776)) (fun i2=>f.bn.length - i2.2) ((f.aU.sum,0):Int × Nat)
 (fun (i2:Int × Nat)=>⟨[(5,iv i2.1),(14,iv (i2.2:Int))],[]⟩) fun i2 =>
 .lt 12 0 i2.2 f.bn.length
 (.r 4 (.p (bU (i2.2:Int) f.bn.length)) fun _ =>
 .br (decide (((f.bn.getD i2.2 default).at_)≤i))
 (.nx 7 14 i2.2 ((f.bn.getD i2.2 default).sum,i2.2+1))
 (.nx 7 14 i2.2 (i2.1,i2.2+1)))
 (.fin (.inl (.inr i2.1))))
 (fun (b1:Int)=>⟨[(5,iv b1)],[]⟩) fun b1 =>
 .fin b1
def l4 f i:=(lN f i).val
theorem J7 (f:ak) (i:Int) (hP:f.rF):(lN f i).dj (fun (x:Int)=>0≤x∧x≤1099511627776):=by
 refine Sk.bz _ ?_
 unfold lN
 simp only [Sk.de,Sk.aI,reduceCtorEq,ON,kk,kp,maxLen]
 refine ⟨⟨⟨Nat.zero_le _,fun h=>h.1⟩,fun i hi=>⟨fun hc _=>?_,fun _=>hi.2⟩⟩,fun b hb=>hb hP⟩
 simp only [LN] at hc
 exact ⟨fun _ _=>⟨⟨by omega,fun h=>h.2.1 _ (by omega)⟩,by omega⟩,fun _ _=>⟨⟨by omega,hi.2⟩,by omega⟩⟩
theorem HM (f:ak) (i:Int):(fun (x:Int)=>(f.rF)→(0≤x∧x≤1099511627776)) (l4 f i):=fun hP=>Sk.dk _ (J7 f i hP)
theorem MN (f:ak) (i:Int):(lN f i).bC (fun _=>True):=by
 refine Sk.aR _ ?_
 unfold lN
 simp only [Sk.ju,Sk.aI,reduceCtorEq,ON,kk,kp,maxLen]
 refine ⟨⟨Nat.zero_le _,fun h=>h.1⟩,fun i hi hm=>⟨fun hc=>?_,fun _=>hi.2⟩⟩
 simp only [LN] at hc
 have hw:ar ((i.2:Int)+1)=((i.2+1:Nat):Int):=(aA (by omega) (by omega)).trans (by omega)
 exact ⟨by omega,fun _=>⟨fun _ _=>⟨hw,⟨by omega,fun h=>h.2.1 _ (by omega)⟩,by omega⟩,fun _ _=>⟨hw,⟨by omega,hi.2⟩,by omega⟩⟩⟩
def tu f i:=kk tok mixed Tryz.func211 [av f.cells,iv i] (fun x=>iv x) true (lN f i) (l4 f i) (u0 (MN f i)) (fun (x:Int)=>(f.rF)→(0≤x∧x≤1099511627776)) (HM f i)
def gu (v:mH) (sign:Int):Sk (Int × Int) :=
 .r 1 ((tu v.f sign).c) fun x1 =>
 .bind true (fun b2=>b2=true→v.f.bn.length≠0)
 (.loop (default:Sum (Int × Int) (Bool)) (fun i3=>i3.2≤v.f.bn.length∧(i3.1=true→v.f.bn.length≠0)) (fun i3=>v.f.bn.length - i3.2) ((false,0):Bool × Nat)
 (fun (i3:Bool × Nat)=>⟨[(7,bv i3.1),(23,iv (i3.2:Int))],[]⟩) fun i3 =>
 .lt 21 0 i3.2 v.f.bn.length
 (.r 6 (.p (bU (i3.2:Int) v.f.bn.length)) fun _ =>
 .r 8 .z fun _ =>
 .wi 23 (ar ((i3.2:Int)+1)) ((i3.2+1:Nat):Int) <|
 .fin (.inr (i3.1||(decide (((v.f.bn.getD i3.2 default).at_) > sign)),i3.2+1)))
 (.fin (.inl (.inr i3.1))))
 (fun (b2:Bool)=>⟨[(7,bv b2)],[]⟩) fun b2 =>
 .br (!b2)
 (.fin (0,x1))
 (.r 11 (.p (bU (ar (((v.f.bn.length:Nat):Int) - 1)) v.f.bn.length)) fun _ =>
 .r 12 ((eA v 4 sign).c) fun x4 =>
 .br (x4 == 1)
 (.fin (x4,(v.f.bn.getD ((ar (((v.f.bn.length:Nat):Int) - 1)).toNat) default).sum))
 (.br (x4 == 2)
 (.fin (x4,cq x1 ((v.f.bn.getD ((ar (((v.f.bn.length:Nat):Int) - 1)).toNat) default).sum)))
 (.fin (x4,x1))))
def dX v sign:=(gu v sign).val
theorem EE (v:mH) (sign:Int) (hP:v.f.rF∧v.f.Small):(gu v sign).dj (fun (x:Int × Int)=>0≤x.2∧x.2≤1099511627776):=by
 refine Sk.bz _ ?_
 unfold gu
 simp only [Sk.de,Sk.aI,reduceCtorEq,ON,kk,kp,eA,tu,maxLen]
 intro x _ hx
 have hx:=hx hP.1
 refine ⟨⟨Nat.zero_le _,fun i hi=>⟨fun hc _ _=>?_,fun _=>hi.2⟩⟩,fun b hb=>⟨fun _=>hx,fun GK _ y _=>?_⟩⟩
 ·simp only [LN] at hc
  exact ⟨⟨by omega,fun _=>by omega⟩,by omega⟩
 ·have hn:=hb (by simpa using GK)
  have hl:=hP.2.2.1
  rw [aA (by omega) (by omega)]
  obtain ⟨h1,h2⟩:=hP.1.2.1 ((v.f.bn.length:Int) - 1).toNat (by omega)
  refine ⟨fun _=>⟨h1,h2⟩,fun _=>⟨fun _=>?_,fun _=>hx⟩⟩
  unfold cq
  split <;> omega
theorem DI (v:mH) (sign:Int):(fun (x:Int × Int)=>(v.f.rF∧v.f.Small)→(0≤x.2∧x.2≤1099511627776)) (dX v sign):=fun hP=>Sk.dk _ (EE v sign hP)
theorem Gf (v:mH) (sign:Int) (jg:v.f.Small) (nV:v.r.cj) (lZ:v.r.Small):(gu v sign).bC (fun _=>True):=by
 refine Sk.aR _ ?_
 unfold gu
 simp only [Sk.ju,Sk.aI,reduceCtorEq,ON,kk,kp,eA,tu,maxLen]
 intro x _ _
 refine ⟨⟨Nat.zero_le _,fun i hi hm=>⟨fun hc=>?_,fun _=>hi.2⟩⟩,fun b hb GK=>?_⟩
 ·simp only [LN] at hc
  exact ⟨by omega,fun _ _=>⟨(aA (by omega) (by omega)).trans (by omega),⟨by omega,fun _=>by omega⟩,by omega⟩⟩
 ·have hn:=hb (by simpa using GK)
  have hl:=jg.2.1
  rw [aA (by omega) (by omega)]
  exact ⟨by omega,fun _=>⟨jg,nV,lZ⟩⟩
def oV v sign:=kk tok mixed Tryz.func177 [av v.cells,iv sign] (fun x=>.fD [iv x.1,iv x.2]) true (gu v sign) (dX v sign) (u3 (Gf v sign)) (fun (x:Int × Int)=>(v.f.rF∧v.f.Small)→(0≤x.2∧x.2≤1099511627776)) (DI v sign)
def eP (v:mH) (sign:Int):Sk (cX) :=
 .r 1 (.p (bU sign v.f.af.length)) fun _ =>
 .r 3 ((rW v.f sign v.day).c) fun x1 =>
 .bind false (fun _=>True)
 (.br (!x1)
 (.r 4 (.dep ((eA v 1 sign).c) fun x3=>.dep ((eA v 2 sign).c) fun x4=>.aj (.o [.eG (fm dm [v.form,x3,x4])]) ((rb [v.form,x3,x4]).c)) fun p6 =>
 .fin (.inr p6.2.2))
 (.fin (.inr 0)))
 (fun (b2:Int)=>⟨[],[(6,.box [iv sign,iv ((v.f.af.getD sign.toNat default).kind),iv ((v.f.af.getD sign.toNat default).dQ),iv b2,iv 0,iv 0,bv ((((v.f.af.getD sign.toNat default).kind) != 1)&&((eJ .i64 ((v.f.af.getD sign.toNat default).flags) 1) == 0))])]⟩) fun b2 =>
 .r 5 ((oV v sign).c) fun x7 =>
 .br ((((v.f.af.getD sign.toNat default).kind) == 1)||(((v.f.af.getD sign.toNat default).kind) == 4))
 (.fin ({ sign:=sign,kind:=(v.f.af.getD sign.toNat default).kind,gD:=(v.f.af.getD sign.toNat default).dQ,binds:=b2,text:=x7.1,sum:=cq x7.2 ((v.f.af.getD sign.toNat default).sum),fM:=(((v.f.af.getD sign.toNat default).kind) != 1)&&((eJ .i64 ((v.f.af.getD sign.toNat default).flags) 1) == 0) }:cX))
 (.fin ({ sign:=sign,kind:=(v.f.af.getD sign.toNat default).kind,gD:=(v.f.af.getD sign.toNat default).dQ,binds:=b2,text:=x7.1,sum:=x7.2,fM:=(((v.f.af.getD sign.toNat default).kind) != 1)&&((eJ .i64 ((v.f.af.getD sign.toNat default).flags) 1) == 0) }:cX))
def cw v sign:=(eP v sign).val
theorem Cp (v:mH) (sign:Int) (hP:v.f.rF∧v.f.Small∧0≤sign∧sign < (v.f.af.length:Int)):(eP v sign).dj (fun (x:cX)=>0≤x.sum∧x.sum≤1099511627776):=by
 refine Sk.bz _ ?_
 unfold eP
 simp only [Sk.de,Sk.aI,reduceCtorEq,ON,kk,kp,rb,eA,oV,rW,maxLen]
 intro _ x _ b _ y _ hy
 have hy:=hy ⟨hP.1,hP.2.1⟩
 obtain ⟨h1,h2⟩:=hP.1.2.2.1 sign.toNat (by omega)
 exact ⟨fun _=>by unfold cq; split <;> omega,fun _=>hy⟩
theorem Bf (v:mH) (sign:Int):(fun (x:cX)=>(v.f.rF∧v.f.Small∧0≤sign∧sign < (v.f.af.length:Int))→(0≤x.sum∧x.sum≤1099511627776)) (cw v sign):=fun hP=>Sk.dk _ (Cp v sign hP)
theorem DJ (v:mH) (sign:Int) (hs:0≤sign∧sign < (v.f.af.length:Int)) (jg:v.f.Small) (nV:v.r.cj) (lZ:v.r.Small):(eP v sign).bC (fun _=>True):=by
 unfold eP
 try simp only [rb,eA,oV,rW]
 exact mA
def fC v sign:=kk tok mixed Tryz.func144 [av v.cells,iv sign] (fun x=>av x.cells) true (eP v sign) (cw v sign) (u4 (DJ v sign)) (fun (x:cX)=>(v.f.rF∧v.f.Small∧0≤sign∧sign < (v.f.af.length:Int))→(0≤x.sum∧x.sum≤1099511627776)) (Bf v sign)
def ka (r:ah) (forum:Int) (f:ak) (day:Int):Sk ((List cX)) :=
 .r 1 ((nU r forum f day).c) fun x1 =>
 .bind true (fun b2=>b2.length=x1.f.af.length)
 (.loop (default:Sum ((List cX)) ((List cX))) (fun i3=>i3.2≤x1.f.af.length∧i3.1.length=i3.2) (fun i3=>x1.f.af.length - i3.2) (([],0):(List cX) × Nat)
 (fun (i3:(List cX) × Nat)=>⟨[(10,ow 100002 i3.1),(21,iv (i3.2:Int))],[(100002,bw 244 7 cX.cells i3.1)]⟩) fun i3 =>
 .lt 9 25 i3.2 x1.f.af.length
 (.r 6 (.pz ((fC x1 (i3.2:Int)).c) fun x4=>.aj (.o [.eG (fm cX.E [x4])]) (.aj (.o [.eG (mY cX.E i3.1 [x4])]) (.aj (.t (cX.E.ou [x4])) (.p (yE i3.1.length [x4].length 56))))) fun x4 =>
 .nx 7 21 i3.2 (i3.1++[x4],i3.2+1))
 (.fin (.inl (.inr i3.1))))
 (fun (b2:(List cX))=>⟨[(10,ow 100001 b2)],[(100001,bw 244 7 cX.cells b2)]⟩) fun b2 =>
 .fin b2
def aW r forum f day:=(ka r forum f day).val
theorem HN (r:ah) (forum:Int) (f:ak) (day:Int):(ka r forum f day).dj (fun (x:(List cX))=>x.length=(ai f day).af.length):=by
 unfold ka
 try simp only [nU,fC]
 exact Fz
theorem J8 (r:ah) (forum:Int) (f:ak) (day:Int) (bj:f.Small) (bR:r.cj) (aX:r.Small):(ka r forum f day).bC (fun _=>True):=by
 refine Sk.aR _ ?_
 unfold ka
 simp only [Sk.ju,Sk.aI,reduceCtorEq,ON,kk,kp,nU,fC,maxLen]
 refine ⟨⟨bj,bR,aX⟩,fun x _ hx=>?_⟩
 have hS:x.f.Small:=by rw [hx.1]; exact Cb bj day
 have hB:x.r.cj:=by rw [hx.2]; exact bR
 have hR:x.r.Small:=by rw [hx.2]; exact aX
 have hS1:=hS.1
 all_goals exact okT
def wu r forum f day:=kp tok mixed Tryz.func116 [av r.cells,iv forum,av f.cells,iv day] (fun x=>lv cX.cells x) false (aW r forum f day) (u3 (J8 r forum f day)) (HN r forum f day)
structure MO where
 af:List Int
 jy:Int
 broken:Int
 WL:Bool
 abr:Int
 late:List Int
 deriving Inhabited
def MO.cells (c:MO):List D:=[nJ bI c.af,dI c.jy,dI c.broken,dB c.WL,dI c.abr,nJ bI c.late]
def kA (f:ak) (day:Int):Sk (Int × Bool) :=
 .bt
 (.loop (default:Sum (Int × Bool) (Int × Bool)) (fun i2=>i2.2.2≤f.aw.length) (fun i2=>f.aw.length - i2.2.2) ((0,false,0):Int × Bool × Nat)
 (fun (i2:Int × Bool × Nat)=>⟨[(6,iv i2.1),(7,bv i2.2.1),(13,iv (i2.2.2:Int))],[]⟩) fun i2 =>
 .lt 11 0 i2.2.2 f.aw.length
 (.r 4 (.p (bU (i2.2.2:Int) f.aw.length)) fun _ =>
 .br ((((((f.aw.getD i2.2.2 default).kind) != 1)&&(((f.aw.getD i2.2.2 default).kind) != 3))&&(((f.aw.getD i2.2.2 default).kind) != 4))||(decide (((f.aw.getD i2.2.2 default).day) > day)))
 (.nx 8 13 i2.2.2 (i2.1,i2.2.1,i2.2.2+1))
 (.br ((!i2.2.1)||(decide (((f.aw.getD i2.2.2 default).day) < i2.1)))
 (.nx 8 13 i2.2.2 ((f.aw.getD i2.2.2 default).day,true,i2.2.2+1))
 (.nx 8 13 i2.2.2 (i2.1,i2.2.1,i2.2.2+1))))
 (.fin (.inl (.inr (i2.1,i2.2.1)))))
 (fun (b1:Int × Bool)=>⟨[(6,iv b1.1),(7,bv b1.2)],[]⟩) fun b1 =>
 .fin (b1.1,b1.2)
def kB f day:=(kA f day).val
theorem Cq (f:ak) (day:Int):(kA f day).bC (fun _=>True):=by
 unfold kA
 exact mA
def k6 f day:=kk tok mixed Tryz.func178 [av f.cells,iv day] (fun x=>.fD [iv x.1,bv x.2]) true (kA f day) (kB f day) (u0 (Cq f day))
def jL (f:ak) (part:Int) (day:Int):Sk (Unit) :=
 .fin ()
def wv f part day:=(jL f part day).val
theorem sA (f:ak) (part:Int) (day:Int):wv f part day=():=rfl
theorem Bg (f:ak) (part:Int) (day:Int):(jL f part day).bC (fun _=>True):=by
 unfold jL
 exact qT
def kC f part day:=kk tok mixed Tryz.func179 [av f.cells,iv part,iv day] (fun x=>.fn 212 [.ref f.cells,.ref [dI day],.ref [dI part]]) false (jL f part day) (wv f part day) (u0 (Bg f part day))
def Gg (f:ak) (day part:Int) (i:Nat):Bool :=
 ((((f.af.getD i default).kind == 2)&&((f.af.getD i default).part == part))&&decide ((f.af.getD i default).day≤day))&&!(cT (gr f day) ((i:Nat):Int) false)
def bN (f:ak) (day part:Int):List (Int × Sign):=((List.range f.af.length).filter (Gg f day part)).map fun i=>(((i:Nat):Int),f.af.getD i default)
def MP (y:Int × Sign):List AV:=[iv y.1,av y.2.cells]
def ah6:Code:=Tryz.f212.body.getD .skip
def WM:Code:=cA (cA (cB (cB ah6)))
def UC:Code:=cA (cB (cB WM))
def WN:Array Oper:=opsOf (cA (cB (cA UC)))
def abt (f:ak) (day part:Int) (m:List (Int × Bool)) (i:Nat):List (Nat × AV):=[(2,.ref [dI day]),(3,.ref [dI part]),(5,pmM dB m),(12,lv Sign.cells f.af),(13,iv ((f.af.length:Nat):Int)),(14,iv ((i:Nat):Int))]
def wx (f:ak) (day part:Int) (i:Nat):Nat:=((List.range i).filter (Gg f day part)).length
def acM:List Item:=[.code (cB (cB (cA UC))),.inBlock 1,.code (cB (cB (cB WM))),.inLoop WM,.inBlock 0]
theorem WO (f:ak) (day part:Int) {i:Nat} (hi:i < f.af.length) (h:Gg f day part i=true):((bN f day part).map MP)[wx f day part i]? = some (MP (((i:Nat):Int),f.af.getD i default)):=by
 have e:List.range f.af.length=List.range i++i :: (List.range' (i+1) (f.af.length - i - 1)):=by
  rw [List.range_eq_range',List.range_eq_range']
  have h1:=List.range'_append (s:=0) (m:=i) (n:=f.af.length - i) (step:=1)
  have h2:f.af.length - i=(f.af.length - i - 1)+1:=by omega
  rw [show f.af.length=i+(f.af.length - i) by omega,← h1,h2,List.range'_succ]
  simp
 unfold bN wx
 rw [e,List.filter_append,List.filter_cons_of_pos h]
 simp
theorem UD (f:ak) (day part:Int) (i:Nat):wx f day part (i+1)=bif Gg f day part i then wx f day part i+1 else wx f day part i:=by
 unfold wx
 rw [List.range_succ,List.filter_append]
 cases h:Gg f day part i <;> simp [h]
def Gh (q:Nat):Oper:=WN.getD q default
def WQ (f:ak) (day part:Int) (i:Nat) (sl:List (Nat × AV)):St:=⟨sl++[(6,iv ((i:Nat):Int)),(7,.ptr 7 0)]++abt f day part (gr f day) i,[(7,.box ((f.af.getD i default).cells.map .d))]⟩
def IX (f:ak) (i:Nat):Sk Bool :=
 .GJ 12 0 f.af.length <| .br (decide (((i:Nat):Int) < ((f.af.length:Nat):Int))) (.r 3 (.p (bU ((i:Nat):Int) f.af.length)) fun _=>.fin true) (.fin false)
def adG (f:ak) (i:Nat):Sk Unit :=
 .GJ 12 0 f.af.length <| .Dz <| .r 5 .z fun _=>.wi 14 (ar (((i:Nat):Int)+1)) ((i+1:Nat):Int) <| .fin ()
def abu (f:ak) (day part:Int) (i:Nat):bH Unit :=
 .wh ((((f.af.getD i default).kind == 2)&&((f.af.getD i default).part == part))&&decide ((f.af.getD i default).day≤day)) true (.aj (.t (pv dB (gr f day))) (.o [.cast 37 (getM dB (gr f day) ((i:Nat):Int) false)]))
theorem wY (f:ak) (day part:Int):Y9 Tryz.prog 212 [.ref f.cells,.ref [dI day],.ref [dI part]] ((bN f day part).map MP):=by
 refine Y9.intro (T:=TT) Tryz.func212 rfl (by kernel_rfl) (Nat.le_of_ble_eq_true (by kernel_rfl)) (fun X=>?_)
 have hr4:cA (cB (cA UC))=.region 4 WN false:=by kernel_rfl
 have hrg:List.range' 22 (WN.size - 22)=[22,23,24,25,26,27]:=by kernel_rfl
 have key:∀ d i,i+d=f.af.length→G (X.g TT Tryz.f212 (X.H (wx f day part i))) [.code WM,.inLoop WM,.inBlock 0] ⟨abt f day part (gr f day) i,[]⟩:=by
  intro d
  induction d with
  | zero =>
   intro i hi
   refine uY.sk tok mixed Tryz.func212 _ (IX f i) (fun b=>bif b then .go (.code (cA (cB (cA UC))) :: acM) (WQ f day part i []) else .go [] ⟨[],[]⟩) 100 (by kernel_rfl) ?_ ?_
   ·refine Sk.aR _ ?_
    simp only [IX,Sk.ju,bH.p,bU,implies_true,and_true]
    intro h hd
    simp at hd
    omega
   ·intro a ha
    have:(IX f i).val=false:=by simp only [IX,Sk.val]; simp; omega
    rw [this] at ha
    subst ha
    refine (uY.ret Tryz.func212 (by kernel_rfl) (fun C h=>.inl ?_)).1
    have e:wx f day part i=((bN f day part).map MP).length:=by
     have:i=f.af.length:=by omega
     subst this
     simp [wx,bN]
    rw [← e]
    exact h
  | succ d ih =>
   intro i hi
   have gI:i < f.af.length:=by omega
   refine uY.sk tok mixed Tryz.func212 _ (IX f i) (fun b=>bif b then .go (.code (cA (cB (cA UC))) :: acM) (WQ f day part i []) else .go [] ⟨[],[]⟩) 100 (by kernel_rfl) ?_ ?_
   ·refine Sk.aR _ ?_
    simp only [IX,Sk.ju,bH.p,bU,implies_true,and_true]
    intro _ _
    omega
   ·intro a ha
    have:(IX f i).val=true:=by simp only [IX,Sk.val]; simp; omega
    rw [this] at ha
    subst ha
    show G _ _ _
    rw [hr4]
    -- behind I8 yield
    have next:∀ st,NV st ⟨(46,bv false) :: abt f day part (gr f day) i,[]⟩→G (X.g TT Tryz.f212 (X.H (wx f day part (i+1)))) acM st:=by
     intro st lX
     refine .le lX ?_
     refine uY.sk tok mixed Tryz.func212 _ (adG f i) (fun _=>.go [.inLoop WM,.inBlock 0] ⟨abt f day part (gr f day) (i+1),[]⟩) 100 (by kernel_rfl) ?_ (fun _ _=>.inLoop (ih (i+1) (by omega)))
     refine Sk.aR _ ?_
     simp only [adG,Sk.ju,bH.z,maxLen,implies_true,and_true]
     intro h
     refine ⟨trivial,fun _ _ _=>?_⟩
     refine (aA ?_ ?_).trans ?_ <;> omega
    refine G.yr ?_
    refine YW.ahY tok mixed (abu f day part i) 22 (fun _=>WQ f day part i [(40,bv (Gg f day part i))]) (by kernel_rfl) (Nat.le_of_ble_eq_true (by kernel_rfl)) (fun _=>by kernel_rfl) ?_ ?_
    ·simp [abu,bH.wh,bH.aj,bH.t,bH.o]
    rw [hrg]
    refine YW.ahZ (s:=40) (b:=Gg f day part i) rfl (Nat.le_of_ble_eq_true (by kernel_rfl)) ?_
    have Fb:=UD f day part i
    cases he:Gg f day part i with
    | true =>
     rw [he,cond_true] at Fb
     refine YW.mvC (o:=Gh 22) (d:=41) (u:=0) (by kernel_rfl) (by kernel_rfl) (by kernel_rfl) (by simp) (by kernel_rfl) ?_
     refine YW.opC tok mixed (o:=Gh 23) (WQ f day part i [(42,iv ((i:Nat):Int))]) (by kernel_rfl) (by kernel_rfl) (by kernel_rfl) ?_
     refine YW.opC tok mixed (o:=Gh 24) (WQ f day part i [(43,av (f.af.getD i default).cells),(42,iv ((i:Nat):Int))]) (by kernel_rfl) (by kernel_rfl) (by kernel_rfl) ?_
     refine YW.ylC (o:=Gh 25) (d:=44) (u:=41) (n:=wx f day part i) (ts:=[42,43]) (c:={ callee:=.value (.tmp 41),args:=#[.tmp 42,.tmp 43],argTypes:=#[3,140] }) (by kernel_rfl) (by kernel_rfl) (by kernel_rfl) rfl (by simp) (by kernel_rfl) (WO f day part gI he) rfl (by kernel_rfl) (by kernel_rfl) ?_ ?_
     ·refine YW.opC tok mixed (o:=Gh 26) (WQ f day part i [(45,bv false)]) (by kernel_rfl) (by kernel_rfl) (by kernel_rfl) ?_
      refine YW.aa4 (o:=Gh 27) (d:=46) (x:=.tmp 45) (y:=.const (.bool false)) false (by kernel_rfl) (by kernel_rfl) (by kernel_rfl) (by kernel_rfl) (by kernel_rfl) ?_
      refine YW.nil (T:=TT) (fn:=Tryz.f212) (by simp) ?_
      rw [← Fb]
      exact next _ (X4 (by kernel_rfl))
     ·refine YW.opC tok mixed (o:=Gh 26) (WQ f day part i [(45,bv true)]) (by kernel_rfl) (by kernel_rfl) (by kernel_rfl) ?_
      refine YW.aa4 (o:=Gh 27) (d:=46) (x:=.tmp 45) (y:=.const (.bool false)) true (by kernel_rfl) (by kernel_rfl) (by kernel_rfl) (by kernel_rfl) (by kernel_rfl) ?_
      refine YW.nil (T:=TT) (fn:=Tryz.f212) (by simp) ?_
      refine uY.sk tok mixed Tryz.func212 _ (.KF (.fin ()):Sk Unit) (fun _=>.go (.code .ret :: acM.tail) ⟨[],[]⟩) 100 (by kernel_rfl) trivial (fun _ _=>(uY.ret Tryz.func212 (by kernel_rfl) (fun C h=>.inr h)).2 _)
    | false =>
     rw [he,cond_false] at Fb
     refine YW.T9 (o:=Gh 22) (d:=41) (by kernel_rfl) (by kernel_rfl) (by kernel_rfl) ?_
     refine YW.T9 (o:=Gh 23) (d:=42) (by kernel_rfl) (by kernel_rfl) (by kernel_rfl) ?_
     refine YW.T9 (o:=Gh 24) (d:=43) (by kernel_rfl) (by kernel_rfl) (by kernel_rfl) ?_
     refine YW.T9 (o:=Gh 25) (d:=44) (by kernel_rfl) (by kernel_rfl) (by kernel_rfl) ?_
     refine YW.T9 (o:=Gh 26) (d:=45) (by kernel_rfl) (by kernel_rfl) (by kernel_rfl) ?_
     refine YW.aa4 (o:=Gh 27) (d:=46) (x:=.tmp 45) (y:=.const (.bool false)) false (by kernel_rfl) (by kernel_rfl) (by kernel_rfl) (by kernel_rfl) (by kernel_rfl) ?_
     refine YW.nil (T:=TT) (fn:=Tryz.f212) (by simp) ?_
     rw [← Fb]
     exact next _ (X4 (by kernel_rfl))
 refine uY.sk tok mixed Tryz.func212 _ (.r 0 ((rV f day).c) fun m=>.r 1 .z fun _=>.fin m:Sk (List (Int × Bool))) (fun m=>.go [.code (.loop WM),.inBlock 0] ⟨abt f day part m 0,[]⟩) 100 (by kernel_rfl) ?_ (fun m hm=>?_)
 ·refine Sk.aR _ ?_
  simp [Sk.ju,bH.z,il.c,kk,kp,rV]
 ·have hm:m=gr f day:=hm
  subst hm
  exact .aa5 (key f.af.length 0 (by omega))
def g8 (f:ak) (day part:Int):ItC (Int × Sign):=⟨Tryz.prog,212,[.ref f.cells,.ref [dI day],.ref [dI part]],bN f day part,MP,True,fun _=>wY f day part⟩
def rY (before:Int) (flags:Int):Sk (Int) :=
 .br (((eJ .i64 flags 2) != 0)||(before != 0))
 (.fin 1)
 (.br ((eJ .i64 flags 4) != 0)
 (.fin 2)
 (.fin 0))
def Cr before flags:=(rY before flags).val
theorem MQ (before:Int) (flags:Int):(rY before flags).bC (fun _=>True):=by
  unfold rY
  exact qT

def tv before flags:=kk tok mixed Tryz.func180 [iv before,iv flags] (fun x=>iv x) true (rY before flags) (Cr before flags) (u0 (MQ before flags))
theorem UE (f:ak) (day part:Int):(bN f day part).length≤f.af.length:=by
  unfold bN
  rw [List.length_map]
  exact Nat.le_trans (List.length_filter_le _ _) (by simp)
theorem MR {f:ak} {day part:Int} {i:Nat} {y:Int × Sign} (h:(bN f day part)[i]? = some y):i < f.af.length∧0≤y.1∧y.1 < f.af.length∧y.2=f.af.getD y.1.toNat default∧y.2.kind=2∧y.2.part=part∧y.2.day≤day∧cT (gr f day) y.1 false=false:=by
  have h1:=(List.getElem?_eq_some_iff.1 h).1
  have h2:=List.mem_of_getElem? h
  have h3:=UE f day part
  unfold bN at h2
  obtain ⟨q,hq,rfl⟩:=List.mem_map.1 h2
  rw [List.mem_filter,List.mem_range] at hq
  obtain ⟨hq1,hq2⟩:=hq
  unfold Gg at hq2
  simp only [Bool.and_eq_true,beq_iff_eq,decide_eq_true_eq,Bool.not_eq_true'] at hq2
  exact ⟨by omega,by omega,by omega,rfl,hq2.1.1.1,hq2.1.1.2,hq2.1.2,hq2.2⟩
def lO (f:ak) (part:Int) (day:Int):Sk (MO) :=
 .r 2 ((k6 f day).c) fun x1 =>
 .r 3 ((kC f part day).c) fun _ =>
 .rf (g8 f day part) (fun ki3 i3=>i3.1.length≤ki3∧i3.2.2.2.2.length≤ki3∧∀ y,y∈i3.1→0≤y∧y < (f.af.length:Int)∧(f.af.getD y.toNat default).day≤day) (fun e5=>e5.1.length≤f.af.length∧∀ y,y∈e5.1→0≤y∧y < (f.af.length:Int)∧(f.af.getD y.toNat default).day≤day) 0 (([],f.aU.gj,f.aU.gj == (-1),0,[]):(List Int) × Int × Bool × Int × (List Int))
 (fun (i3:(List Int) × Int × Bool × Int × (List Int))=>[(100000,bw 3 1 bI i3.1),(100001,bw 3 1 bI i3.2.2.2.2),(7,.box ([ow 100000 i3.1]++[iv i3.2.1,iv (-1),bv i3.2.2.1,iv i3.2.2.2.1,ow 100001 i3.2.2.2.2]))]) (fun (e5:(List Int) × Int × Int × Bool × Int × (List Int))=>[(100002,bw 3 1 bI e5.1),(100003,bw 3 1 bI e5.2.2.2.2.2),(7,.box ([ow 100002 e5.1]++[iv e5.2.1,iv e5.2.2.1,bv e5.2.2.2.1,iv e5.2.2.2.2.1,ow 100003 e5.2.2.2.2.2]))])
 (fun i3 y4 =>
 .br ((!i3.2.2.1)&&(y4.2.dQ != i3.2.1))
 (.fin (.inl (i3.1,i3.2.1,y4.1,i3.2.2.1,i3.2.2.2.1,i3.2.2.2.2)))
 (.r 8 (.aj (.o [.eG (fm dm [y4.1])]) (.aj (.o [.eG (mY dm i3.1 [y4.1])]) (.aj (.t (dm.ou [y4.1])) (.p (yE i3.1.length [y4.1].length 8))))) fun _ =>
 .r 9 ((tv i3.2.2.2.1 y4.2.flags).c) fun x6 =>
 .br (x1.2&&(decide (y4.2.day > x1.1)))
 (.r 11 (.aj (.o [.eG (fm dm [y4.1])]) (.aj (.o [.eG (mY dm i3.2.2.2.2 [y4.1])]) (.aj (.t (dm.ou [y4.1])) (.p (yE i3.2.2.2.2.length [y4.1].length 8))))) fun _ =>
 .fin (.inr (i3.1++[y4.1],y4.2.cM,y4.2.cM == (-1),x6,i3.2.2.2.2++[y4.1])))
 (.fin (.inr (i3.1++[y4.1],y4.2.cM,y4.2.cM == (-1),x6,i3.2.2.2.2))))) fun r=>match r with
 | .inl e5=>(.fin ({ af:=e5.1,jy:=e5.2.1,broken:=e5.2.2.1,WL:=e5.2.2.2.1,abr:=e5.2.2.2.2.1,late:=e5.2.2.2.2.2 }:MO))
 | .inr j7=>(.fin ({ af:=j7.1,jy:=j7.2.1,broken:=(-1),WL:=j7.2.2.1,abr:=j7.2.2.2.1,late:=j7.2.2.2.2 }:MO))
def l5 f part day:=(lO f part day).val
theorem J9 (f:ak) (part:Int) (day:Int):(lO f part day).dj (fun (x:MO)=>x.af.length≤f.af.length∧∀ y,y∈x.af→0≤y∧y < (f.af.length:Int)∧(f.af.getD y.toNat default).day≤day):=by
  refine Sk.bz _ ?_
  unfold lO
  simp only [Sk.de,Sk.aI,reduceCtorEq,ON,kk,kp,k6,kC,tv,g8,Sum.forall,sA,forall_eq,maxLen]
  refine fun _=>⟨⟨by simp,by simp,fun y h=>by cases h⟩,fun i s y hs hy=>?_,fun a ha=>ha,fun b hb=>⟨Nat.le_trans hb.1 (UE _ _ _),hb.2.2⟩⟩
  have hm:=MR hy
  have Fg:∀ z,z∈s.1++[y.1]→0≤z∧z < (f.af.length:Int)∧(f.af.getD z.toNat default).day≤day:=fun z hz=>by
    rcases List.mem_append.1 hz with h | h
    · exact hs.2.2 z h
    · simp only [List.mem_singleton] at h
      subst h
      exact ⟨hm.2.1,hm.2.2.1,by rw [← hm.2.2.2.1]; exact hm.2.2.2.2.2.2.1⟩
  have hl1:(s.1++[y.1]).length=s.1.length+1:=by simp
  have hl2:(s.2.2.2.2++[y.1]).length=s.2.2.2.2.length+1:=by simp
  have hl3:[y.1].length=1:=rfl
  rw [hl1,hl2]
  exact ⟨fun _=>⟨by omega,hs.2.2⟩,fun _ _=>⟨fun _ _=>⟨by omega,by omega,Fg⟩,fun _=>⟨by omega,by omega,Fg⟩⟩⟩

theorem MS (f:ak) (part:Int) (day:Int) (hf:f.Small):(lO f part day).bC (fun _=>True):=by
  refine Sk.aR _ ?_
  unfold lO
  simp only [Sk.ju,Sk.aI,reduceCtorEq,ON,kk,kp,Sk.de,k6,kC,tv,g8,Sum.forall,sA,forall_eq,maxLen]
  refine fun _=>⟨⟨by simp,by simp,fun y h=>by cases h⟩,fun i s y hs hy=>?_⟩
  have hm:=MR hy
  have Fg:∀ z,z∈s.1++[y.1]→0≤z∧z < (f.af.length:Int)∧(f.af.getD z.toNat default).day≤day:=fun z hz=>by
    rcases List.mem_append.1 hz with h | h
    · exact hs.2.2 z h
    · simp only [List.mem_singleton] at h
      subst h
      exact ⟨hm.2.1,hm.2.2.1,by rw [← hm.2.2.2.1]; exact hm.2.2.2.2.2.2.1⟩
  have hl1:(s.1++[y.1]).length=s.1.length+1:=by simp
  have hl2:(s.2.2.2.2++[y.1]).length=s.2.2.2.2.length+1:=by simp
  have hl3:[y.1].length=1:=rfl
  rw [hl1,hl2,hl3]
  have hf1:=hf.1
  exact ⟨⟨fun _=>⟨by omega,hs.2.2⟩,fun _ _=>⟨fun _ _=>⟨by omega,by omega,Fg⟩,fun _=>⟨by omega,by omega,Fg⟩⟩⟩,fun _=>⟨by omega,hs.2.2⟩,fun _=>⟨⟨by omega,by omega⟩,fun _=>⟨fun _=>⟨⟨by omega,by omega⟩,fun _=>⟨by omega,by omega,Fg⟩⟩,fun _=>⟨by omega,by omega,Fg⟩⟩⟩⟩

def yh f part day:=kp tok mixed Tryz.func145 [av f.cells,iv part,iv day] (fun x=>av x.cells) false (l5 f part day) (MS f part day) (J9 f part day)
def kD (v:View) (part:Int):Sk ((List Int)) :=
 .r 1 ((yh v.all part v.day).c) fun x1 =>
 .fin x1.af
def al v part:=(kD v part).val
theorem wy (v:View) (part:Int):(kD v part).dj (fun (x:(List Int))=>x.length≤v.all.af.length∧∀ y,y∈x→0≤y∧y < (v.all.af.length:Int)∧(v.all.af.getD y.toNat default).day≤v.day):=by
  unfold kD
  try simp only [yh]
  exact Fz

theorem pC (v:View) (part:Int):(fun (x:(List Int))=>x.length≤v.all.af.length∧∀ y,y∈x→0≤y∧y < (v.all.af.length:Int)∧(v.all.af.getD y.toNat default).day≤v.day) (al v part):=have h:=Sk.dk _ (wy v part); h
theorem Gi (v:View) (part:Int) (ab6:v.all.Small):(kD v part).bC (fun _=>True):=by
  unfold kD
  try simp only [yh]
  exact mA

def sT v part:=kp tok mixed Tryz.func117 [av v.cells,iv part] (fun x=>lv bI x) false (al v part) (Gi v part) (wy v part)
def k7 (c_:fy) (links:List Int):Sk (Unit) :=
 .fin ()
def zq c_ links:=(k7 c_ links).val
theorem DK (c_:fy) (links:List Int):zq c_ links=():=rfl
theorem DL (c_:fy) (links:List Int):(k7 c_ links).bC (fun _=>True):=by
  unfold k7
  exact qT

def wz c_ links:=kk tok mixed Tryz.func118 [av c_.cells,lv bI links] (fun x=>.fn 146 [.ref c_.cells,.ref [nJ bI links]]) false (k7 c_ links) (zq c_ links) (u0 (DL c_ links))
structure lP where
  gD:Int
  sign:Int
  state:Int
  deriving Inhabited
def lP.cells (c:lP):List D:=[dI c.gD,dI c.sign,dI c.state]
def k8 (x_:Fact) (v:Int) (v':Int):Sk (Bool) :=
 .fin ((x_.kind == v)&&(x_.at_ == v'))
def dh x_ v v':=(k8 x_ v v').val
theorem k9 (x_:Fact) (v:Int) (v':Int):dh x_ v v'=((x_.kind == v)&&(x_.at_ == v')):=rfl
theorem DM (x_:Fact) (v:Int) (v':Int):(k8 x_ v v').bC (fun _=>True):=by
  unfold k8
  exact qT

def qK x_ v v':=kk tok mixed Tryz.func214 [av x_.cells,.ref [dI v],.ref [dI v']] (fun x=>bv x) true (k8 x_ v v') (dh x_ v v') (u0 (DM x_ v v'))
def fN (s:List Fact) (v:Int) (v':Int):Sk (Int) :=
 .bind true (fun b1=>∀ q,q < s.length→dh (s.getD q default) v v'=false)
 (.loop (default:Sum (Int) (Unit)) (fun i2=>∀ q,q < i2→dh (s.getD q default) v v'=false) (fun i2=>s.length - i2) (0:Nat)
 (fun (i2:Nat)=>⟨[(8,iv ((i2:Nat):Int))],[]⟩) fun i2 =>
 .lt 0 0 i2 s.length
 (.r 4 (.aj (.p (bU ((i2:Nat):Int) s.length)) ((qK (s.getD i2 default) v v').c)) fun x3 =>
 .br x3
 (.fin (.inl (.inl ((i2:Nat):Int))))
 (.nx 6 8 i2 (i2+1)))
 (.fin (.inl (.inr ()))))
 (fun (_:Unit)=>⟨[],[]⟩) fun _ =>
 .fin (-1)
def kE s v v':=(fN s v v').val
theorem pN (s:List Fact) (v:Int) (v':Int):(fN s v v').dj (fun (x:Int)=>(x = -1∧∀ q,q < s.length→dh (s.getD q default) v v'=false)∨(0≤x∧x < s.length∧dh (s.getD x.toNat default) v v'=true∧∀ q,(q:Nat) < x.toNat→dh (s.getD q default) v v'=false)):=by
  unfold fN
  try simp only [qK,k9]
  exact Ww

theorem wZ (s:List Fact) (v:Int) (v':Int):(fun (x:Int)=>(x = -1∧∀ q,q < s.length→dh (s.getD q default) v v'=false)∨(0≤x∧x < s.length∧dh (s.getD x.toNat default) v v'=true∧∀ q,(q:Nat) < x.toNat→dh (s.getD q default) v v'=false)) (kE s v v'):=have h:=Sk.dk _ (pN s v v'); h
theorem zr (s:List Fact) (v:Int) (v':Int):(fN s v v').bC (fun _=>True):=by
  unfold fN
  try simp only [qK,k9]
  exact Bu

def rZ s v v':=kp tok mixed Tryz.func213 [lv Fact.cells s,.fn 214 [.ref [dI v],.ref [dI v']]] (fun x=>iv x) true (kE s v v') (u0 (zr s v v')) (pN s v v')
def oW (v:View) (kind:Int) (sign:Int):Sk (Int) :=
 .r 1 ((rZ v.now.facts kind sign).c) fun x1 =>
 .br (decide (x1 < 0))
 (.fin 2)
 (.r 4 (.p (bU x1 v.now.facts.length)) fun _ =>
 .br (((v.now.facts.getD x1.toNat default).n) == 0)
 (.fin 0)
 (.fin 1))
def kT v kind sign:=(oW v kind sign).val
theorem HO (v:View) (kind:Int) (sign:Int):(oW v kind sign).bC (fun _=>True):=by
  unfold oW
  try simp only [rZ]
  exact mA

def uC v kind sign:=kk tok mixed Tryz.func181 [av v.cells,iv kind,iv sign] (fun x=>iv x) true (oW v kind sign) (kT v kind sign) (u0 (HO v kind sign))
def xy (a:Int) (b:Int):Sk (Int) :=
 .br ((a == 0)||(b == 0))
 (.fin 0)
 (.br ((a == 2)||(b == 2))
 (.fin 2)
 (.fin 1))
def fO a b:=(xy a b).val
theorem UF (a:Int) (b:Int):(xy a b).bC (fun _=>True):=by
  unfold xy
  exact qT

def sU a b:=kk tok mixed Tryz.func150 [iv a,iv b] (fun x=>iv x) true (xy a b) (fO a b) (u0 (UF a b))
def tw (a:Int) (b:Int):Sk (Int) :=
 .br ((a == 1)||(b == 1))
 (.fin 1)
 (.br ((a == 2)||(b == 2))
 (.fin 2)
 (.fin 0))
def sV a b:=(tw a b).val
theorem Pb (a:Int) (b:Int):(tw a b).bC (fun _=>True):=by
  unfold tw
  exact qT

def Gj a b:=kk tok mixed Tryz.func182 [iv a,iv b] (fun x=>iv x) true (tw a b) (sV a b) (u0 (Pb a b))
def ld (c_:fy) (link:Int) (last:Int):Sk (Int) :=
 .r 2 (.dep ((uC c_.view 0 link).c) fun x1=>.dep ((uC c_.view 2 link).c) fun x2=>(sU x1 x2).c) fun p8 =>
 .r 3 (.dep ((eX c_.r c_.forum 3 ({ file:=c_.view.now,sign:=link,jy:=last,ch:=(-1),due:=c_.due,day:=c_.view.day }:fF)).c) fun x4=>.dep ((eZ x4).c) fun x5=>(Gj p8.2.2 x5).c) fun p7 =>
 .fin p7.2.2
def bG c_ link last:=(ld c_ link last).val
theorem DN (c_:fy) (link:Int) (last:Int) (VO:c_.view.now.Small) (UG:c_.r.cj) (RZ:c_.r.Small):(ld c_ link last).bC (fun _=>True):=by
  unfold ld
  try simp only [eX,eZ,sU,Gj,uC]
  exact mA

def wA c_ link last:=kk tok mixed Tryz.func147 [av c_.cells,iv link,iv last] (fun x=>iv x) true (ld c_ link last) (bG c_ link last) (u3 (DN c_ link last))
def eB (c:fy) (last:Int):List Int→lP→List lP
 | [],o=>[o]
 | l :: r,o=>bif bG c l last == 0 then [o] else bif bG c l last == 2 then { o with state:=2 } :: eB c last r { gD:=(c.view.now.af.getD l.toNat default).cM,sign:=l,state:=2 } else eB c last r { o with gD:=(c.view.now.af.getD l.toNat default).cM,sign:=l }
def vd (links:List Int):Int:=links.getD (ar (((links.length:Nat):Int) - 1)).toNat default
def bK (c:fy) (links:List Int):List lP:=eB c (vd links) links { gD:=c.view.now.aU.gj,sign:=-1,state:=1 }
def MT (y:lP):List AV:=[av y.cells]
def TS:Code:=Tryz.f146.body.getD .skip
def agl:Code:=cB (cA (cB TS))
def WR:Code:=cA (cA agl)
def Cs:Code:=cB (cB TS)
def agm:Code:=cA (cA (cB (cB WR)))
def aeF:Code:=cB (cB (cB WR))
def adH:Code:=cB (cB (cB agm))
def UH:Code:=cB adH
def adI:Code:=cA (cB (cA adH))
def abv:Code:=cA (cB adI)
def agn:Code:=cB (cB adI)
def Aq:Array Oper:=opsOf abv
def Ct:Array Oper:=opsOf Cs
def UI:List Item:=[.inBlock 1,.code aeF,.inLoop WR,.inBlock 0,.code Cs]
def Pc (c:fy) (links:List Int) (i:Nat) (o:lP) (sl:List (Nat × AV)):St:=⟨sl++[(1,.ref c.cells),(2,.ref [nJ bI links]),(4,.ptr 4 0),(14,lv bI links),(15,iv ((links.length:Nat):Int)),(16,iv ((i:Nat):Int))],[(4,.box (o.cells.map .d))]⟩
def abw (c:fy) (links:List Int) (i:Nat) (s:Int):lP:={ gD:=(c.view.now.af.getD (links.getD i default).toNat default).cM,sign:=links.getD i default,state:=s }
def IY (c:fy) (links:List Int) (i:Nat):Sk (Option Bool) :=
 .GJ 14 0 links.length <|
 .br (decide (((i:Nat):Int) < ((links.length:Nat):Int)))
  (.r 3 (.p (bU ((i:Nat):Int) links.length)) fun _ =>
   .r 4 (.aj (.p (bU (ar (((links.length:Nat):Int) - 1)) links.length)) ((wA c (links.getD i default) (vd links)).c)) fun x =>
   .br (x == 0) (.fin none) (.br (x == 2) (.r 7 .z fun _=>.fin (some true)) (.fin (some false))))
  (.fin none)
def adJ (c:fy) (links:List Int) (i:Nat):Sk Unit :=
 .GJ 14 0 links.length <| .r 9 (.p (bU (links.getD i default) c.view.now.af.length)) fun _=>.r 10 .z fun _=>.wi 16 (ar (((i:Nat):Int)+1)) ((i+1:Nat):Int) <| .fin ()
def WS (c:fy) (links:List Int):Prop:=links.length≤1000000∧(∀ i,i < links.length→0≤links.getD i default∧links.getD i default < c.view.now.af.length)∧∀ i,i < links.length→(wA c (links.getD i default) (vd links)).pre
def adK (c:fy) (links:List Int) (i:Nat) (o:lP):Option Bool→aaW
 | none=>.go [.code Cs] ⟨[(4,.ptr 4 0)],[(4,.box (o.cells.map .d))]⟩
 | some true=>.go (.code abv :: .code agn :: .code UH :: UI) (Pc c links i { o with state:=2 } [(6,iv (links.getD i default))])
 | some false=>.go (.code UH :: UI) (Pc c links i o [(6,iv (links.getD i default))])
theorem zt (c:fy) (links:List Int) (hp:WS c links):Y9 Tryz.prog 146 [.ref c.cells,.ref [nJ bI links]] ((bK c links).map MT):=by
 refine Y9.intro (T:=TT) Tryz.func146 rfl (by kernel_rfl) (Nat.le_of_ble_eq_true (by kernel_rfl)) (fun X=>?_)
 have hr8:abv=.region 8 Aq false:=by kernel_rfl
 have ah7:Cs=.region 11 Ct false:=by kernel_rfl
 have hg8:List.range Aq.size=[0,1,2,3]:=by kernel_rfl
 have ah8:List.range Ct.size=[0,1,2]:=by kernel_rfl
 have hys:∀ k o pre r,bK c links=pre++o :: r→pre.length=k→((bK c links).map MT)[k]? = some (MT o):=fun k o pre r h hk=>by
  rw [h]; subst hk; simp
 have fin:∀ k o pre,bK c links=pre++[o]→pre.length=k→G (X.g TT Tryz.f146 (X.H k)) [.code Cs] ⟨[(4,.ptr 4 0)],[(4,.box (o.cells.map .d))]⟩:=by
  intro k o pre h hk
  rw [ah7]
  refine G.yr ?_
  rw [ah8]
  refine YW.mvC (o:=Ct.getD 0 default) (d:=50) (u:=0) (by kernel_rfl) (by kernel_rfl) (by kernel_rfl) (by simp) (by kernel_rfl) ?_
  refine YW.opC tok mixed (o:=Ct.getD 1 default) ⟨[(51,av o.cells),(4,.ptr 4 0)],[(4,.box (o.cells.map .d))]⟩ (by kernel_rfl) (by kernel_rfl) (by kernel_rfl) ?_
  refine YW.ylC (o:=Ct.getD 2 default) (d:=52) (u:=50) (n:=k) (ts:=[51]) (c:={ callee:=.value (.tmp 50),args:=#[.tmp 51],argTypes:=#[212] }) (by kernel_rfl) (by kernel_rfl) (by kernel_rfl) rfl (by simp) (by kernel_rfl) (hys k o pre [] h hk) rfl (by kernel_rfl) (by kernel_rfl) ?_ ?_
  ·refine YW.nil (T:=TT) (fn:=Tryz.f146) (by simp) (uY.ret Tryz.func146 (by kernel_rfl) (fun C h'=>.inl ?_)).1
   have:((bK c links).map MT).length=k+1:=by rw [h]; simp [hk]
   rw [this]
   exact h'
  ·exact YW.nil (T:=TT) (fn:=Tryz.f146) (by simp) (uY.ret Tryz.func146 (by kernel_rfl) (fun C h'=>.inr h')).1
 have key:∀ d i,i+d=links.length→∀ k o pre,bK c links=pre++eB c (vd links) (links.drop i) o→pre.length=k→G (X.g TT Tryz.f146 (X.H k)) [.code WR,.inLoop WR,.inBlock 0,.code Cs] (Pc c links i o []):=by
  intro d
  induction d with
  | zero =>
   intro i hi k o pre h hk
   refine uY.sk tok mixed Tryz.func146 _ (IY c links i) (adK c links i o) 100 (by kernel_rfl) ?_ ?_
   ·refine Sk.aR _ ?_
    simp only [IY,Sk.ju]
    refine fun _=>⟨fun hd=>?_,fun _=>trivial⟩
    simp at hd
    omega
   ·intro a ha
    have:(IY c links i).val=none:=by
     have e:decide (((i:Nat):Int) < ((links.length:Nat):Int))=false:=decide_eq_false (by omega)
     simp only [IY,Sk.val,e,cond_false]
    rw [this] at ha
    subst ha
    refine fin k o pre ?_ hk
    rw [h,List.drop_of_length_le (by omega)]
    rfl
  | succ d ih =>
   intro i hi k o pre h hk
   have gI:i < links.length:=by omega
   have XH:links.drop i=links.getD i default :: links.drop (i+1):=by
    rw [List.drop_eq_getElem_cons gI]
    simp [List.getD,gI]
   have next:∀ k' o' acN st,NV st (Pc c links i o' [(6,iv (links.getD i default))])→bK c links=acN++eB c (vd links) (links.drop (i+1)) (abw c links i o'.state)→acN.length=k'→G (X.g TT Tryz.f146 (X.H k')) (.code UH :: UI) st:=by
    intro k' o' acN st lX h' gZ
    refine .le lX ?_
    refine uY.sk tok mixed Tryz.func146 _ (adJ c links i) (fun _=>.go [.inLoop WR,.inBlock 0,.code Cs] (Pc c links (i+1) (abw c links i o'.state) [])) 100 (by kernel_rfl) ?_ (fun _ _=>.inLoop (ih (i+1) (by omega) k' _ acN h' gZ))
    refine Sk.aR _ ?_
    simp only [adJ,Sk.ju,bH.z,bH.p,bU,maxLen]
    have q1:=hp.2.1 i gI
    have q2:=hp.1
    refine fun _=>⟨by omega,fun _ _ _=>⟨trivial,fun _ _ _=>⟨?_,trivial⟩⟩⟩
    refine (aA ?_ ?_).trans ?_ <;> omega
   refine uY.sk tok mixed Tryz.func146 _ (IY c links i) (adK c links i o) 100 (by kernel_rfl) ?_ ?_
   ·refine Sk.aR _ ?_
    have q2:=hp.1
    have q3:=hp.2.2 i gI
    have e:ar (((links.length:Nat):Int) - 1)=((links.length:Nat):Int) - 1:=aA (by omega) (by omega)
    simp only [IY,Sk.ju,bH.p,bH.z,bH.aj,il.c,kk,kp,bU,maxLen,e,implies_true,true_and,and_true,and_self]
    exact fun _ _=>⟨by omega,fun _ _ _=>⟨by omega,q3⟩⟩
   ·intro a ha
    have hv:(IY c links i).val=bif bG c (links.getD i default) (vd links) == 0 then none else bif bG c (links.getD i default) (vd links) == 2 then some true else some false:=by
     have e:decide (((i:Nat):Int) < ((links.length:Nat):Int))=true:=decide_eq_true (by omega)
     simp only [IY,Sk.val,e,cond_true]
     rfl
    rw [hv] at ha
    rw [XH] at h
    simp only [eB] at h
    cases h0:bG c (links.getD i default) (vd links) == 0 with
    | true =>
     rw [h0,cond_true] at ha h
     subst ha
     exact fin k o pre h hk
    | false =>
     rw [h0,cond_false] at ha h
     cases h2:bG c (links.getD i default) (vd links) == 2 with
     | true =>
      rw [h2,cond_true] at ha h
      subst ha
      show G _ _ _
      rw [hr8]
      refine G.yr ?_
      rw [hg8]
      refine YW.mvC (o:=Aq.getD 0 default) (d:=34) (u:=0) (by kernel_rfl) (by kernel_rfl) (by kernel_rfl) (by simp) (by kernel_rfl) ?_
      refine YW.opC tok mixed (o:=Aq.getD 1 default) (Pc c links i { o with state:=2 } [(35,av ({ o with state:=2 }:lP).cells),(6,iv (links.getD i default))]) (by kernel_rfl) (by kernel_rfl) (by kernel_rfl) ?_
      refine YW.ylC (o:=Aq.getD 2 default) (d:=36) (u:=34) (n:=k) (ts:=[35]) (c:={ callee:=.value (.tmp 34),args:=#[.tmp 35],argTypes:=#[212] }) (by kernel_rfl) (by kernel_rfl) (by kernel_rfl) rfl (by simp) (by kernel_rfl) (hys k _ pre _ h hk) rfl (by kernel_rfl) (by kernel_rfl) ?_ ?_
      ·refine YW.opC tok mixed (o:=Aq.getD 3 default) (Pc c links i { o with state:=2 } [(37,bv false),(6,iv (links.getD i default))]) (by kernel_rfl) (by kernel_rfl) (by kernel_rfl) ?_
       refine YW.nil (T:=TT) (fn:=Tryz.f146) (by simp) ?_
       refine uY.sk tok mixed Tryz.func146 _ (.Dz (.fin ()):Sk Unit) (fun _=>.go (.code UH :: UI) (Pc c links i { o with state:=2 } [(6,iv (links.getD i default))])) 100 (by kernel_rfl) trivial (fun _ _=>next (k+1) { o with state:=2 } (pre++[{ o with state:=2 }]) _ (fun _ _ _ h=>h) (by rw [h]; simp [abw]) (by simp [hk]))
      ·refine YW.opC tok mixed (o:=Aq.getD 3 default) (Pc c links i { o with state:=2 } [(37,bv true),(6,iv (links.getD i default))]) (by kernel_rfl) (by kernel_rfl) (by kernel_rfl) ?_
       refine YW.nil (T:=TT) (fn:=Tryz.f146) (by simp) ?_
       refine uY.sk tok mixed Tryz.func146 _ (.KF (.fin ()):Sk Unit) (fun _=>.go (.code .ret :: .code UH :: UI) ⟨[],[]⟩) 100 (by kernel_rfl) trivial (fun _ _=>(uY.ret Tryz.func146 (by kernel_rfl) (fun C h=>.inr h)).2 _)
     | false =>
      rw [h2,cond_false] at ha h
      subst ha
      exact next k o pre _ (fun _ _ _ h=>h) h hk
 refine uY.sk tok mixed Tryz.func146 _ (.r 0 .z fun _=>.r 1 .z fun _=>.fin ():Sk Unit) (fun _=>.go [.code (.loop WR),.inBlock 0,.code Cs] (Pc c links 0 { gD:=c.view.now.aU.gj,sign:=-1,state:=1 } [])) 100 (by kernel_rfl) ?_ (fun _ _=>.aa5 (key links.length 0 (by omega) 0 _ [] rfl rfl))
 refine Sk.aR _ ?_
 simp [Sk.ju,bH.z]
def mn (c:fy) (links:List Int):ItC lP:=⟨Tryz.prog,146,[.ref c.cells,.ref [nJ bI links]],bK c links,MT,WS c links,fun h=>zt c links h⟩
def oX (v:View) (sign:Int):Sk (Int) :=
 .r 1 (.p (bU sign v.now.af.length)) fun _ =>
 .r 2 (.wh (sign == 0) false ((aM v.lead ((v.now.af.getD sign.toNat default).part)).c)) fun x1 =>
 .br ((sign == 0)||(!x1))
 (.r 3 (.p (bU (0:Int) v.lead.length)) fun _ =>
 .fin (v.lead.getD 0 default))
 (.fin ((v.now.af.getD sign.toNat default).part))
def fY v sign:=(oX v sign).val
theorem HP (v:View) (sign:Int) (hs:0≤sign∧sign < v.now.af.length) (hl:v.lead.length≠0):(oX v sign).bC (fun _=>True):=by
 unfold oX
 try simp only [aM]
 exact mA
def qw v sign:=kk tok mixed Tryz.func148 [av v.cells,iv sign] (fun x=>iv x) true (oX v sign) (fY v sign) (u2 (HP v sign))
def gW (v:View) (part:Int) (c9:Int) (links:List Int):Sk ((List Int)) :=
 .r 2 (.wh (c9 != (-1)) true ((aM links c9).c)) fun x1 =>
 .br ((c9 != (-1))&&(!x1))
 (.fin [])
 (.bind true (fun b2=>b2.length≤v.now.af.length∧∀ y,y∈b2→0≤y∧y < (v.now.af.length:Int))
 (.loop (default:Sum ((List Int)) ((List Int))) (fun i3=>i3.2≤v.now.af.length∧i3.1.length≤i3.2∧∀ y,y∈i3.1→0≤y∧y < (v.now.af.length:Int)) (fun i3=>v.now.af.length - i3.2) (([],0):(List Int) × Nat)
 (fun (i3:(List Int) × Nat)=>⟨[(9,ow 100002 i3.1),(25,iv (i3.2:Int))],[(100002,bw 3 1 bI i3.1)]⟩) fun i3 =>
 .lt 23 0 i3.2 v.now.af.length
 (.r 6 (.p (bU (i3.2:Int) v.now.af.length)) fun _ =>
 .r 7 ((qw v (i3.2:Int)).c) fun x4 =>
 .br (x4 != part)
 (.nx 18 25 i3.2 (i3.1,i3.2+1))
 (.bt
 (.bind false (fun _=>True)
 (.br (((v.now.af.getD i3.2 default).kind) == 0)
 (.fin (.inr (((v.now.af.getD i3.2 default).kind) == 0)))
 (.fin (.inr (((v.now.af.getD i3.2 default).kind) == 1))))
 (fun (b6:Bool)=>⟨[(41,bv b6)],[]⟩) fun b6 =>
 .br b6
 (.fin (.inr (true,b6,((v.now.af.getD i3.2 default).kind) == 0)))
 (.br (((v.now.af.getD i3.2 default).kind) == 2)
 (.r 15 (.wh ((decide ((i3.2:Int)≤c9))&&((eJ .i64 ((v.now.af.getD i3.2 default).flags) 2) == 0)) true ((aM links (i3.2:Int)).c)) fun x7 =>
 .fin (.inr (((decide ((i3.2:Int)≤c9))&&((eJ .i64 ((v.now.af.getD i3.2 default).flags) 2) == 0))&&x7,b6,((v.now.af.getD i3.2 default).kind) == 0)))
 (.r 10 ((aM i3.1 ((v.now.af.getD i3.2 default).for_)).c) fun x8 =>
 .fin (.inr (x8,b6,((v.now.af.getD i3.2 default).kind) == 0)))))
 (fun (b5:Bool × Bool × Bool)=>⟨[(12,bv b5.1),(41,bv b5.2.1),(42,bv b5.2.2)],[]⟩) fun b5 =>
 .br b5.1
 (.r 17 (.aj (.o [.eG (fm dm [(i3.2:Int)])]) (.aj (.o [.eG (mY dm i3.1 [(i3.2:Int)])]) (.aj (.t (dm.ou [(i3.2:Int)])) (.p (yE i3.1.length [(i3.2:Int)].length 8))))) fun _ =>
 .r 18 .z fun _ =>
 .wi 25 (ar ((i3.2:Int)+1)) ((i3.2+1:Nat):Int) <|
 .fin (.inr (i3.1++[(i3.2:Int)],i3.2+1)))
 (.nx 18 25 i3.2 (i3.1,i3.2+1))))
 (.fin (.inl (.inr i3.1))))
 (fun (b2:(List Int))=>⟨[(9,ow 100001 b2)],[(100001,bw 3 1 bI b2)]⟩) fun b2 =>
 .fin b2)
def bA v part c9 links:=(gW v part c9 links).val
theorem uQ (v:View) (part:Int) (c9:Int) (links:List Int):(gW v part c9 links).dj (fun (x:(List Int))=>x.length≤v.now.af.length∧∀ y,y∈x→0≤y∧y < (v.now.af.length:Int)):=by
 unfold gW
 try simp only [qw,aM]
 exact Fz
theorem tX (v:View) (part:Int) (c9:Int) (links:List Int):(fun (x:(List Int))=>x.length≤v.now.af.length∧∀ y,y∈x→0≤y∧y < (v.now.af.length:Int)) (bA v part c9 links):=have h:=Sk.dk _ (uQ v part c9 links); h
theorem EF (v:View) (part:Int) (c9:Int) (links:List Int) (hl:v.lead.length≠0) (hn:v.now.af.length≤1000000):(gW v part c9 links).bC (fun _=>True):=by
 unfold gW
 try simp only [qw,aM]
 exact mA
def sa v part c9 links:=kp tok mixed Tryz.func119 [av v.cells,iv part,iv c9,lv bI links] (fun x=>lv bI x) false (bA v part c9 links) (u2 (EF v part c9 links)) (uQ v part c9 links)
def zu (rv:View→Int→Int) (rp:View→Int→Prop) (rf:∀ (v:View) (sign:Int),rp v sign→gR Tryz.prog 149 [av v.cells,iv sign] [] (iv (rv v sign)) []) (v:View) (sign:Int):il (Int):=⟨Tryz.prog,149,[av v.cells,iv sign],fun x=>iv x,true,rv v sign,rp v sign,rf v sign,fun _=>True,trivial⟩
def jm (rv:View→Int→Int) (rp:View→Int→Prop) (rf:∀ (v:View) (sign:Int),rp v sign→gR Tryz.prog 149 [av v.cells,iv sign] [] (iv (rv v sign)) []) (v:View) (sign:Int):Sk (Int) :=
 .r 1 (.p (bU sign v.now.af.length)) fun _ =>
 .br ((((v.now.af.getD sign.toNat default).kind) == 3)||(((v.now.af.getD sign.toNat default).kind) == 4))
 (.r 3 ((zu rv rp rf v ((v.now.af.getD sign.toNat default).for_)).c) fun x1 =>
 .fin x1)
 (.fin sign)
def bh:Nat→View→Int→Int
 | 0,_,_=>default
 | fu+1,v,sign=>(jm (bh fu) (fun _ _=>False) (fun _ _=>fun h=>h.elim) v sign).val
theorem pD (v:View) (h:v.kQ):∀ (fu:Nat) (sign:Int),0≤sign→sign < (v.now.af.length:Int)→sign.toNat < fu→0≤bh fu v sign∧bh fu v sign≤sign
 | 0,_,_,_,h3=>absurd h3 (by omega)
 | fu+1,s,h1,h2,h3=>by
  have e:bh (fu+1) v s=bif (((v.now.af.getD s.toNat default).kind) == 3)||(((v.now.af.getD s.toNat default).kind) == 4) then bh fu v ((v.now.af.getD s.toNat default).for_) else s:=by kernel_rfl
  rw [e]
  cases hk:(((v.now.af.getD s.toNat default).kind) == 3)||(((v.now.af.getD s.toNat default).kind) == 4) with
  | false=>exact ⟨h1,Int.le_refl _⟩
  | true =>
   rw [cond_true]
   have:=h s.toNat (by omega) (by simpa using hk)
   have:=pD v h fu _ this.1 (by omega) (by omega)
   omega
theorem HR (fu:Nat) (rf:∀ (v:View) (sign:Int),(sign.toNat+1)≤fu∧(v.kQ)∧(0≤sign∧sign < v.now.af.length)→gR Tryz.prog 149 [av v.cells,iv sign] [] (iv (bh fu v sign)) []) (v:View) (sign:Int) (hm:(sign.toNat+1)≤fu+1) (hv:v.kQ) (hs:0≤sign∧sign < v.now.af.length):(jm (bh fu) (fun v sign=>(sign.toNat+1)≤fu∧(v.kQ)∧(0≤sign∧sign < v.now.af.length)) rf v sign).bC (fun _=>True):=by
 refine Sk.aR _ ?_
 unfold jm
 simp only [Sk.ju,Sk.aI,reduceCtorEq,ON,kk,kp,zu,maxLen]
 refine ⟨hs,fun _ hk=>?_⟩
 have:=hv sign.toNat (by omega) (by simpa using hk)
 exact ⟨by omega,hv,by omega,by omega⟩
theorem Gk (fu:Nat) (rp:View→Int→Prop) (rf:∀ (v:View) (sign:Int),rp v sign→gR Tryz.prog 149 [av v.cells,iv sign] [] (iv (bh fu v sign)) []) (v:View) (sign:Int):(jm (bh fu) rp rf v sign).val=bh (fu+1) v sign:=by kernel_rfl
theorem Gl (fu:Nat):∀ (v:View) (sign:Int),(sign.toNat+1)≤fu→v.kQ→(0≤sign∧sign < v.now.af.length)→gR Tryz.prog 149 [av v.cells,iv sign] [] (iv (bh fu v sign)) []:=by
 induction fu with
 | zero=>intro v sign hm h0 h1; exact absurd hm (by omega)
 | succ fu ih =>
  intro v sign hm h0 h1
  have h:gR Tryz.prog 149 [av v.cells,iv sign] [] (iv ((jm (bh fu) (fun v sign=>(sign.toNat+1)≤fu∧(v.kQ)∧(0≤sign∧sign < v.now.af.length)) (fun v sign h=>ih v sign h.1 h.2.1 h.2.2) v sign).val)) []:=gR.sk tok mixed (fun x=>iv x) (fun _=>[]) Tryz.func149 rfl (by kernel_rfl) 3000 (jm (bh fu) (fun v sign=>(sign.toNat+1)≤fu∧(v.kQ)∧(0≤sign∧sign < v.now.af.length)) (fun v sign h=>ih v sign h.1 h.2.1 h.2.2) v sign) (by kernel_rfl) (HR fu _ v sign hm h0 h1)
  rw [Gk] at h
  exact h
def aC (v:View) (sign:Int):Int:=bh ((sign.toNat+1)) v sign
theorem HS (v:View) (sign:Int) (hv:v.kQ) (hs:0≤sign∧sign < v.now.af.length):gR Tryz.prog 149 [av v.cells,iv sign] [] (iv (aC v sign)) []:=Gl _ v sign (Nat.le_refl _) hv hs
theorem EG (v:View) (sign:Int):(fun (x:Int)=>v.kQ→0≤sign∧sign < (v.now.af.length:Int)→0≤x∧x≤sign) (aC v sign):=by
 exact fun h hs=>pD v h _ sign hs.1 hs.2 (by omega)
def uD (v:View) (sign:Int):il (Int):=⟨Tryz.prog,149,[av v.cells,iv sign],fun x=>iv x,true,aC v sign,(v.kQ)∧(0≤sign∧sign < v.now.af.length),fun h=>HS v sign h.1 h.2,fun (x:Int)=>v.kQ→0≤sign∧sign < (v.now.af.length:Int)→0≤x∧x≤sign,EG v sign⟩
def jM (a:bD):Sk (Bool) :=
 .fin ((a.kind == 1)||(a.kind == 3))
def dY a:=(jM a).val
theorem sB (a:bD):dY a=((a.kind == 1)||(a.kind == 3)):=rfl
theorem Bh (a:bD):(jM a).bC (fun _=>True):=by
 unfold jM
 exact qT
def nW a:=kk tok mixed Tryz.func152 [av a.cells] (fun x=>bv x) true (jM a) (dY a) (u0 (Bh a))
def fP (s:List bD):Sk (Int) :=
 .bind true (fun b1=>∀ q,q < s.length→dY (s.getD q default)=false)
 (.loop (default:Sum (Int) (Unit)) (fun i2=>∀ q,q < i2→dY (s.getD q default)=false) (fun i2=>s.length - i2) (0:Nat)
 (fun (i2:Nat)=>⟨[(8,iv (i2:Int))],[]⟩) fun i2 =>
 .lt 0 0 i2 s.length
 (.r 4 (.aj (.p (bU (i2:Int) s.length)) ((nW (s.getD i2 default)).c)) fun x3 =>
 .br x3
 (.fin (.inl (.inl (i2:Int))))
 (.nx 6 8 i2 (i2+1)))
 (.fin (.inl (.inr ()))))
 (fun (_:Unit)=>⟨[],[]⟩) fun _ =>
 .fin (-1)
def Cu s:=(fP s).val
theorem yi (s:List bD):(fP s).dj (fun (x:Int)=>(x = -1∧∀ q,q < s.length→dY (s.getD q default)=false)∨(0≤x∧x < s.length∧dY (s.getD x.toNat default)=true∧∀ q,(q:Nat) < x.toNat→dY (s.getD q default)=false)):=by
 unfold fP
 try simp only [nW,sB]
 exact Ww
theorem zw (s:List bD):(fP s).bC (fun _=>True):=by
 unfold fP
 try simp only [nW,sB]
 exact Bu
def mo s:=kp tok mixed Tryz.func183 [lv bD.cells s,.fn 152 []] (fun x=>iv x) true (Cu s) (u0 (zw s)) (yi s)
def dZ (s:List bD):Sk (Bool) :=
 .r 1 ((mo s).c) fun x1 =>
 .fin (decide (x1≥0))
def cR s:=(dZ s).val
theorem vf (s:List bD):(dZ s).dj (fun (x:Bool)=>(x=true↔∃ q,q < s.length∧dY (s.getD q default)=true)):=by
 unfold dZ
 try simp only [mo]
 exact Fz
theorem wB (s:List bD):(dZ s).bC (fun _=>True):=by
 unfold dZ
 try simp only [mo]
 exact qT
def j1 s:=kp tok mixed Tryz.func151 [lv bD.cells s,.fn 152 []] (fun x=>bv x) true (cR s) (u0 (wB s)) (vf s)
structure Kept where
 shown:Int
 Dd:Int
 HT:Int
 all:Int
 deriving Inhabited
def Kept.cells (c:Kept):List D:=[dI c.shown,dI c.Dd,dI c.HT,dI c.all]
structure cP where
 r:ah
 forum:Int
 f:ak
 sign:Int
 day:Int
 due:Int
 deriving Inhabited
def cP.cells (c:cP):List D:=c.r.cells++[dI c.forum]++c.f.cells++[dI c.sign,dI c.day,dI c.due]
def cP.Ql (v:cP):Prop:=0≤v.f.aU.A2∧v.f.aU.A2 < v.r.aN.length
def kF (r:ah) (forum:Int) (f:ak) (sign:Int) (day:Int):Sk (cP) :=
 .r 1 (.dep ((aV f day).c) fun _=>(bW r forum f day).c) fun p3 =>
 .fin ({ r:=r,forum:=forum,f:=p3.1,sign:=sign,day:=day,due:=p3.2 }:cP)
def gv r forum f sign day:=(kF r forum f sign day).val
theorem EH (r:ah) (forum:Int) (f:ak) (sign:Int) (day:Int):(kF r forum f sign day).dj (fun (x:cP)=>x.r=r∧x.f=ai f day∧x.sign=sign):=by
 unfold kF
 try simp only [bW,aV,ak.Small,ah.Small,ah.cj]
 exact Fz
theorem Gm (r:ah) (forum:Int) (f:ak) (sign:Int) (day:Int) (bj:f.Small) (bR:r.cj) (aX:r.Small):(kF r forum f sign day).bC (fun _=>True):=by
 simp only [ak.Small,ah.Small,ah.cj] at bj
 simp only [ak.Small,ah.Small,ah.cj] at bR
 simp only [ak.Small,ah.Small,ah.cj] at aX
 unfold kF
 try simp only [bW,aV,ak.Small,ah.Small,ah.cj]
 exact mA
def lQ r forum f sign day:=kp tok mixed Tryz.func158 [av r.cells,iv forum,av f.cells,iv sign,iv day] (fun x=>av x.cells) false (gv r forum f sign day) (u3 (Gm r forum f sign day)) (EH r forum f sign day)
def iA (v:cP) (kind:Int) (from_:Int):Sk (Int) :=
 .bt
 (.loop (default:Sum (Int) (Unit)) (fun i2=>i2≤v.f.aw.length) (fun i2=>v.f.aw.length - i2) (0:Nat)
 (fun (i2:Nat)=>⟨[(13,iv (i2:Int))],[]⟩) fun i2 =>
 .lt 11 0 i2 v.f.aw.length
 (.r 3 (.p (bU (i2:Int) v.f.aw.length)) fun _ =>
 .br (((((v.f.aw.getD i2 default).kind) == kind)&&(((v.f.aw.getD i2 default).cM) == v.f.aU.m4))&&(decide (((v.f.aw.getD i2 default).day)≥from_)))
 (.fin (.inl (.inl ((v.f.aw.getD i2 default).day))))
 (.nx 6 13 i2 (i2+1)))
 (.fin (.inl (.inr ()))))
 (fun (_:Unit)=>⟨[],[]⟩) fun _ =>
 .fin (-1)
def ed v kind from_:=(iA v kind from_).val
theorem zx (v:cP) (kind:Int) (from_:Int):(iA v kind from_).bC (fun _=>True):=by
 unfold iA
 exact mA
def eC v kind from_:=kk tok mixed Tryz.func216 [av v.cells,iv kind,iv from_] (fun x=>iv x) true (iA v kind from_) (ed v kind from_) (u0 (zx v kind from_))
structure sC where
 known:Bool
 last:Int
 deriving Inhabited
def sC.cells (c:sC):List D:=[dB c.known,dI c.last]
def iU (v:cP):Sk (sC) :=
 .r 1 ((qJ v.r v.forum 7 v.f v.day).c) fun x1 =>
 .br (x1.err != 0)
 (.fin ({ known:=true,last:=9223372036854775807 }:sC))
 (.br (!x1.cell.known)
 (.fin ({ known:=false,last:=0 }:sC))
 (.br (decide ((ar (v.f.aU.day+x1.cell.n)) > 100000))
 (.fin ({ known:=true,last:=9223372036854775807 }:sC))
 (.fin ({ known:=true,last:=ar (v.f.aU.day+x1.cell.n) }:sC))))
def gA v:=(iU v).val
theorem Ar (v:cP) (jg:v.f.Small) (nV:v.r.cj) (lZ:v.r.Small):(iU v).bC (fun _=>True):=by
 unfold iU
 try simp only [qJ]
 exact mA
def jN v:=kk tok mixed Tryz.func217 [av v.cells] (fun x=>av x.cells) true (iU v) (gA v) (u3 (Ar v))
def hZ (v:cP) (on:Int) (t:sC):Sk (Int) :=
 .br (!t.known)
 (.fin 2)
 (.br ((on != (-1))&&(decide (on≤t.last)))
 (.fin 1)
 (.br ((on != (-1))||(decide (v.day > t.last)))
 (.fin 0)
 (.fin 2)))
def cQ v on t:=(hZ v on t).val
theorem yj (v:cP) (on:Int) (t:sC):(hZ v on t).bC (fun _=>True):=by
 unfold hZ
 exact qT
def fQ v on t:=kk tok mixed Tryz.func215 [av v.cells,iv on,av t.cells] (fun x=>iv x) true (hZ v on t) (cQ v on t) (u0 (yj v on t))
def gH (v:cP):Sk (Int) :=
 .r 1 ((eC v 1 0).c) fun x1 =>
 .br (decide (x1 > v.due))
 (.fin (-1))
 (.fin x1)
def dp v:=(gH v).val
theorem xa (v:cP):(gH v).bC (fun _=>True):=by
 unfold gH
 try simp only [eC]
 exact qT
def fh v:=kk tok mixed Tryz.func193 [av v.cells] (fun x=>iv x) true (gH v) (dp v) (u0 (xa v))
def oY (l:List Int):Sk (Int) :=
 .r 1 ((aM l 0).c) fun x1 =>
 .br x1
 (.fin 0)
 (.r 3 ((aM l 2).c) fun x2 =>
 .br x2
 (.fin 2)
 (.fin 1))
def dz l:=(oY l).val
theorem HU (l:List Int):(oY l).bC (fun _=>True):=by
 unfold oY
 try simp only [aM]
 exact qT
def iE l:=kk tok mixed Tryz.func189 [lv bI l] (fun x=>iv x) true (oY l) (dz l) (u0 (HU l))
def iB (v:cP) (aO:Int):Sk (mb) :=
 .r 1 ((eX v.r v.forum aO ({ file:=v.f,sign:=v.sign,jy:=v.sign,ch:=(-1),due:=v.due,day:=v.day }:fF)).c) fun x1 =>
 .fin x1
def bS v aO:=(iB v aO).val
theorem zy (v:cP) (aO:Int) (jg:v.f.Small) (nV:v.r.cj) (lZ:v.r.Small):(iB v aO).bC (fun _=>True):=by
 unfold iB
 try simp only [eX]
 exact mA
def bo v aO:=kk tok mixed Tryz.func186 [av v.cells,iv aO] (fun x=>av x.cells) false (iB v aO) (bS v aO) (u3 (zy v aO))
def oZ (c_:kP) (day:Int) (n:Int):Sk (Int × Int) :=
 .r 1 ((gV day).c) fun x1 =>
 .br (((!x1)||(decide (n < 0)))||(decide (n > 20000)))
 (.fin (0,3))
 (.bt
 (.loop (default:Sum (Int × Int) (Int)) (fun i3=>0≤i3.2∧i3.2≤n∧0≤i3.1∧i3.1≤100000) (fun i3=>(n - i3.2).toNat) ((day,0):Int × Int)
 (fun (i3:Int × Int)=>⟨[(1,iv i3.1),(22,iv i3.2)],[]⟩) fun i3 =>
 .br (decide (i3.2 < n))
 (.r 5 ((mG c_ (ar (i3.1+1))).c) fun x4 =>
 .br (x4.2 != 0)
 (.fin (.inl (.inl (0,x4.2))))
 (.fin (.inr (x4.1,ar (i3.2+1)))))
 (.fin (.inl (.inr i3.1))))
 (fun (b2:Int)=>⟨[(1,iv b2)],[]⟩) fun b2 =>
 .fin (b2,0))
def yk c_ day n:=(oZ c_ day n).val
theorem HV (c_:kP) (day:Int) (n:Int):(oZ c_ day n).bC (fun _=>True):=by
 unfold oZ
 try simp only [mG,gV,rR]
 exact Bu
def A7 c_ day n:=kk tok mixed Tryz.func238 [av c_.cells,iv day,iv n] (fun x=>.fD [iv x.1,iv x.2]) true (oZ c_ day n) (yk c_ day n) (u0 (HV c_ day n))
def iV (v:cP) (said:mb) (from_:Int):Sk (sC) :=
 .br (said.err != 0)
 (.fin ({ known:=true,last:=9223372036854775807 }:sC))
 (.br (!said.cell.known)
 (.fin ({ known:=false,last:=0 }:sC))
 (.r 5 (.aj (.p (bU v.f.aU.A2 v.r.aN.length)) ((A7 (v.r.aN.getD v.f.aU.A2.toNat default) from_ said.cell.n).c)) fun x1 =>
 .br (x1.2 != 0)
 (.fin ({ known:=true,last:=9223372036854775807 }:sC))
 (.fin ({ known:=true,last:=x1.1 }:sC))))
def cJ v said from_:=(iV v said from_).val
theorem Au (v:cP) (said:mb) (from_:Int) (hp:v.Ql):(iV v said from_).bC (fun _=>True):=by
 unfold iV
 try simp only [A7]
 exact mA
def cp v said from_:=kk tok mixed Tryz.func218 [av v.cells,av said.cells,iv from_] (fun x=>av x.cells) true (iV v said from_) (cJ v said from_) (Au v said from_)
def dL (v:cP):Sk (Int) :=
 .br (v.f.aU.df.kind == 0)
 (.r 3 (.dep ((eC v 2 0).c) fun x1=>.dep ((jN v).c) fun x2=>(fQ v x1 x2).c) fun p4 =>
 .fin p4.2.2)
 (.bind false (fun _=>True)
 (.br (v.f.aU.df.kind == 1)
 (.r 6 (.dep ((pL v.f).c) fun x6=>.dep ((jN v).c) fun x7=>(fQ v x6 x7).c) fun p9 =>
 .fin (.inr p9.2.2))
 (.fin (.inr 1)))
 (fun (b5:Int)=>⟨[(4,iv b5)],[]⟩) fun b5 =>
 .r 7 ((fh v).c) fun Ma =>
 .br (Ma != (-1))
 (.fin b5)
 (.br (v.due == (-1))
 (.r 10 (.aj (.o [.eG (fm dm [b5,2])]) ((iE [b5,2]).c)) fun x11 =>
 .fin x11)
 (.r 11 (.dep ((eC v 2 v.due).c) fun x12=>.dep ((bo v 10).c) fun Ka=>.dep ((cp v Ka v.due).c) fun x14=>.dep ((fQ v x12 x14).c) fun x15=>.aj (.o [.eG (fm dm [b5,x15])]) ((iE [b5,x15]).c)) fun p17 =>
 .fin p17.2.2.2.2)))
def dA v:=(dL v).val
theorem vg (v:cP) (jg:v.f.Small) (nV:v.r.cj) (lZ:v.r.Small) (Qm:v.Ql):(dL v).bC (fun _=>True):=by
 refine Sk.aR _ ?_
 unfold dL
 simp (maxSteps:=2000000) only [Sk.ju,Sk.aI,reduceCtorEq,ON,kk,kp,iE,bo,cp,eC,fh,jN,fQ,pL,maxLen]
 all_goals (repeat' first | assumption | (apply And.intro) | (intro h))
 all_goals first | trivial | assumption | omega | ((try simp only [LN] at *) <;> first | omega | (refine (aA ?_ ?_).trans ?_ <;> omega) | (simp (disch:=omega) only [aA] at *; omega) | (grind) | (simp_all; done) | (simp_all; omega))
def jB v:=kk tok mixed Tryz.func184 [av v.cells] (fun x=>iv x) true (dL v) (dA v) (u4 (vg v))
def fT (v:cP):Sk (Int) :=
 .r 1 ((fh v).c) fun x1 =>
 .br (x1 != (-1))
 (.fin x1)
 (.fin v.due)
def bM v:=(fT v).val
theorem vh (v:cP):(fT v).bC (fun _=>True):=by
 unfold fT
 try simp only [fh]
 exact qT
def cu v:=kk tok mixed Tryz.func159 [av v.cells] (fun x=>iv x) true (fT v) (bM v) (u0 (vh v))
def dM (v:cP):Sk (Int) :=
 .r 1 ((cu v).c) fun x1 =>
 .r 2 (.dep ((bo v 10).c) fun x2=>(cp v x2 x1).c) fun GL =>
 .br (!GL.2.known)
 (.fin 2)
 (.bind false (fun _=>True)
 (.br (decide (v.day≤GL.2.last))
 (.fin (.inr 2))
 (.fin (.inr 0)))
 (fun (b4:Int)=>⟨[(5,iv b4)],[]⟩) fun b4 =>
 .bt
 (.loop (default:Sum (Int) (Int)) (fun i6=>i6.2≤v.f.aw.length) (fun i6=>v.f.aw.length - i6.2) ((b4,0):Int × Nat)
 (fun (i6:Int × Nat)=>⟨[(5,iv i6.1),(28,iv (i6.2:Int))],[]⟩) fun i6 =>
 .lt 26 0 i6.2 v.f.aw.length
 (.r 10 (.p (bU (i6.2:Int) v.f.aw.length)) fun _ =>
 .br ((((((v.f.aw.getD i6.2 default).kind) != 4)||(((v.f.aw.getD i6.2 default).cM) != v.f.aU.m4))||(decide (((v.f.aw.getD i6.2 default).day) < x1)))||(decide (((v.f.aw.getD i6.2 default).day) > GL.2.last)))
 (.nx 19 28 i6.2 (i6.1,i6.2+1))
 (.bind false (fun _=>True)
 (.br (((v.f.aw.getD i6.2 default).form) == 1)
 (.r 14 (.dep ((bo v 9).c) fun x8=>(eZ x8).c) fun NW =>
 .fin (.inr NW.2))
 (.fin (.inr 1)))
 (fun (b7:Int)=>⟨[(8,iv b7)],[]⟩) fun b7 =>
 .br (b7 == 1)
 (.fin (.inl (.inl 1)))
 (.br (b7 == 2)
 (.nx 19 28 i6.2 (2,i6.2+1))
 (.nx 19 28 i6.2 (i6.1,i6.2+1)))))
 (.fin (.inl (.inr i6.1))))
 (fun (b5:Int)=>⟨[(5,iv b5)],[]⟩) fun b5 =>
 .fin b5)
def dC v:=(dM v).val
theorem vi (v:cP) (jg:v.f.Small) (nV:v.r.cj) (lZ:v.r.Small) (Qm:v.Ql):(dM v).bC (fun _=>True):=by
 unfold dM
 try simp only [eZ,bo,cp,cu]
 exact mA
def jC v:=kk tok mixed Tryz.func187 [av v.cells] (fun x=>iv x) true (dM v) (dC v) (u4 (vi v))
def lf (said:mb) (answer:Int):Sk (Int) :=
 .r 1 ((eZ said).c) fun x1 =>
 .br ((x1 == 0)||(answer == 1))
 (.fin 1)
 (.br (x1 == 2)
 (.fin 2)
 (.fin answer))
def jo said answer:=(lf said answer).val
theorem DP (said:mb) (answer:Int):(lf said answer).bC (fun _=>True):=by
 unfold lf
 try simp only [eZ]
 exact qT
def mq said answer:=kk tok mixed Tryz.func185 [av said.cells,iv answer] (fun x=>iv x) true (lf said answer) (jo said answer) (u0 (DP said answer))
def di (v:cP):Sk (Int) :=
 .r 1 ((cu v).c) fun x1 =>
 .r 2 ((bo v 12).c) fun x2 =>
 .r 3 ((cp v x2 x1).c) fun x3 =>
 .br (!x3.known)
 (.fin 2)
 (.bt
 (.loop (default:Sum (Int) (Int)) (fun i5=>i5.2.2≤v.f.aw.length∧i5.2.1.length≤i5.2.2) (fun i5=>v.f.aw.length - i5.2.2) ((x3.last,[],0):Int × (List bD) × Nat)
 (fun (i5:Int × (List bD) × Nat)=>⟨[(6,iv i5.1),(7,ow 100005 i5.2.1),(30,iv (i5.2.2:Int))],[(100005,bw 104 9 bD.cells i5.2.1)]⟩) fun i5 =>
 .lt 28 0 i5.2.2 v.f.aw.length
 (.bind true (fun b6=>b6.2.1.length≤i5.2.1.length+1)
 (.r 10 (.p (bU (i5.2.2:Int) v.f.aw.length)) fun _ =>
 .br (((v.f.aw.getD i5.2.2 default).kind) != 5)
 (.fin (.inr (i5.1,i5.2.1,v.f.aw.getD i5.2.2 default,(v.f.aw.getD i5.2.2 default).kind,((v.f.aw.getD i5.2.2 default).kind) != 5)))
 (.bt
 (.loop (default:Sum (Sum (Sum (Sum (Int) (Int)) (Int × (List bD) × Nat)) (Int × (List bD) × bD × Int × Bool)) (Bool × Int × Bool)) (fun i8=>i8.2≤i5.2.1.length) (fun i8=>i5.2.1.length - i8.2) (((decide (((v.f.aw.getD i5.2.2 default).day)≥x1))&&(decide (((v.f.aw.getD i5.2.2 default).day)≤x3.last)),0):Bool × Nat)
 (fun (i8:Bool × Nat)=>⟨[(10,bv i8.1),(50,iv (i8.2:Int))],[]⟩) fun i8 =>
 .lt 7 0 i8.2 i5.2.1.length
 (.r 15 (.aj (.p (bU (i8.2:Int) i5.2.1.length)) (.p (i8.2 < i5.2.1.length))) fun _ =>
 .r 16 (.wh i8.1 false (.wh (((i5.2.1.getD i8.2 default).cM) == ((v.f.aw.getD i5.2.2 default).dQ)) true ((cp v x2 ((i5.2.1.getD i8.2 default).day)).c))) fun x9 =>
 .r 17 .z fun _ =>
 .wi 50 (ar ((i8.2:Int)+1)) ((i8.2+1:Nat):Int) <|
 .fin (.inr (i8.1||((((i5.2.1.getD i8.2 default).cM) == ((v.f.aw.getD i5.2.2 default).dQ))&&(decide (((v.f.aw.getD i5.2.2 default).day)≤x9.last))),i8.2+1)))
 (.fin (.inl (.inr (i8.1,(i8.2:Int),decide ((i8.2:Int) < ((i5.2.1.length:Nat):Int)))))))
 (fun (b7:Bool × Int × Bool)=>⟨[(10,bv b7.1),(50,iv b7.2.1),(51,bv b7.2.2)],[]⟩) fun b7 =>
 .br (!b7.1)
 (.fin (.inr (i5.1,i5.2.1,v.f.aw.getD i5.2.2 default,(v.f.aw.getD i5.2.2 default).kind,((v.f.aw.getD i5.2.2 default).kind) != 5)))
 (.r 19 (.p (bU v.sign v.f.af.length)) fun _ =>
 .br (((v.f.aw.getD i5.2.2 default).cM) == ((v.f.af.getD v.sign.toNat default).dQ))
 (.fin (.inl (.inl (.inl 1))))
 (.r 21 (.aj (.o [.eG (fm bD.E [v.f.aw.getD i5.2.2 default])]) (.aj (.o [.eG (mY bD.E i5.2.1 [v.f.aw.getD i5.2.2 default])]) (.aj (.t (bD.E.ou [v.f.aw.getD i5.2.2 default])) (.p (yE i5.2.1.length [v.f.aw.getD i5.2.2 default].length 72))))) fun _ =>
 .r 22 ((cp v x2 ((v.f.aw.getD i5.2.2 default).day)).c) fun Ma =>
 .fin (.inr (bX i5.1 Ma.last,i5.2.1++[v.f.aw.getD i5.2.2 default],v.f.aw.getD i5.2.2 default,(v.f.aw.getD i5.2.2 default).kind,((v.f.aw.getD i5.2.2 default).kind) != 5))))))
 (fun (b6:Int × (List bD) × bD × Int × Bool)=>⟨[(6,iv b6.1),(7,ow 100007 b6.2.1),(33,av b6.2.2.1.cells),(35,iv b6.2.2.2.1),(36,bv b6.2.2.2.2)],[(100007,bw 104 9 bD.cells b6.2.1)]⟩) fun b6 =>
 .nx 23 30 i5.2.2 (b6.1,b6.2.1,i5.2.2+1))
 (.fin (.inl (.inr i5.1))))
 (fun (b4:Int)=>⟨[(6,iv b4)],[]⟩) fun b4 =>
 .br (decide (v.day > b4))
 (.fin 0)
 (.fin 2))
def dR v:=(di v).val
theorem wC (v:cP) (hs:0≤v.sign∧v.sign < (v.f.af.length:Int)) (jg:v.f.Small) (nV:v.r.cj) (lZ:v.r.Small) (Qm:v.Ql):(di v).bC (fun _=>True):=by
 refine Sk.aR _ ?_
 unfold di
 simp only [Sk.ju,Sk.aI,reduceCtorEq,ON,kk,kp,bo,cp,cu,maxLen]
 have hS1:=jg.2.2.1
 all_goals exact okT
def j2 v:=kk tok mixed Tryz.func188 [av v.cells] (fun x=>iv x) true (di v) (dR v) (u5 (wC v))
def kG (r:ah) (forum:Int) (f:ak) (sign:Int) (day:Int):Sk (Kept) :=
 .r 1 ((lQ r forum f sign day).c) fun x1 =>
 .br ((decide (sign < 0))||(decide (sign≥((x1.f.af.length:Nat):Int))))
 (.fin ({ shown:=0,Dd:=0,HT:=0,all:=0 }:Kept))
 (.r 5 ((jB x1).c) fun x2 =>
 .bind false (fun _=>True)
 (.br (x1.due != (-1))
 (.r 7 (.dep ((bo x1 8).c) fun x4=>.dep ((jC x1).c) fun x5=>(mq x4 x5).c) fun GL =>
 .r 8 (.dep ((bo x1 11).c) fun x7=>.dep ((j2 x1).c) fun x8=>(mq x7 x8).c) fun NW =>
 .fin (.inr ({ shown:=x2,Dd:=GL.2.2,HT:=NW.2.2,all:=0 }:Kept)))
 (.fin (.inr ({ shown:=x2,Dd:=2,HT:=2,all:=0 }:Kept))))
 (fun (b3:Kept)=>⟨[],[(12,.box (b3.cells.map .d))]⟩) fun b3 =>
 .r 9 (.aj (.o [.eG (fm dm [b3.shown,b3.Dd,b3.HT])]) ((iE [b3.shown,b3.Dd,b3.HT]).c)) fun x12 =>
 .fin ({ b3 with all:=x12 }))
def jD r forum f sign day:=(kG r forum f sign day).val
theorem Gn (r:ah) (forum:Int) (f:ak) (sign:Int) (day:Int) (hF:cb r f) (bj:f.Small) (bR:r.cj) (aX:r.Small):(kG r forum f sign day).bC (fun _=>True):=by
 refine Sk.aR _ ?_
 unfold kG
 simp only [Sk.ju,Sk.aI,reduceCtorEq,ON,kk,kp,iE,lQ,mq,bo,j2,jB,jC,maxLen]
 refine ⟨⟨bj,bR,aX⟩,fun x _ hx hc=>?_⟩
 have hS:x.f.Small:=by rw [hx.2.1]; exact Cb bj day
 have hB:x.r.cj:=by rw [hx.1]; exact bR
 have hR:x.r.Small:=by rw [hx.1]; exact aX
 have hp:x.Ql:=by unfold cP.Ql; rw [hx.1,hx.2.1,Uu]; exact hF.1.2.1
 have hs:0≤x.sign∧x.sign < (x.f.af.length:Int):=by rw [hx.2.2]; simp only [LN] at hc; omega
 all_goals exact okT
def sW r forum f sign day:=kk tok mixed Tryz.func153 [av r.cells,iv forum,av f.cells,iv sign,iv day] (fun x=>av x.cells) true (kG r forum f sign day) (jD r forum f sign day) (u4 (Gn r forum f sign day))
theorem xz {d:Array Int} {n:Nat} (hs:∀ i j,i≤j→j < n→d[i]!≤d[j]!):∀ m,m≤n→(Lib.compactUpTo d m).Pairwise (· < ·)∧∀ x,x∈Lib.compactUpTo d m↔∃ j,j < m∧d[j]! = x
 | 0,_=>by simp [Lib.compactUpTo]
 | m+1,hm=>by
  obtain ⟨h1,h2⟩:=xz hs m (by omega)
  rw [Lib.compactUpTo_succ]
  by_cases hk:Lib.keeps d m=true
  ·rw [if_pos hk]
   refine ⟨List.pairwise_append.2 ⟨h1,by simp,fun a ha b hb=>?_⟩,fun x=>?_⟩
   ·simp only [List.mem_singleton] at hb
    subst hb
    obtain ⟨j,hj,rfl⟩:=(h2 a).1 ha
    have h3:=hs j (m - 1) (by omega) (by omega)
    have h4:=hs (m - 1) m (by omega) (by omega)
    simp only [Lib.keeps,decide_eq_true_eq] at hk
    rcases hk with hk | hk
    ·omega
    ·omega
   ·rw [List.mem_append,h2,List.mem_singleton]
    constructor
    ·rintro (⟨j,hj,rfl⟩ | rfl)
     ·exact ⟨j,by omega,rfl⟩
     ·exact ⟨m,by omega,rfl⟩
    ·rintro ⟨j,hj,rfl⟩
     by_cases e:j=m
     ·subst e; exact .inr rfl
     ·exact .inl ⟨j,by omega,rfl⟩
  ·rw [if_neg hk,List.append_nil]
   refine ⟨h1,fun x=>(h2 x).trans ?_⟩
   constructor
   ·rintro ⟨j,hj,rfl⟩
    exact ⟨j,by omega,rfl⟩
   ·rintro ⟨j,hj,rfl⟩
    by_cases e:j=m
    ·subst e
     simp only [Lib.keeps,decide_eq_true_eq,not_or] at hk
     have:¬ d[j]!≠d[j - 1]!:=hk.2
     exact ⟨j - 1,by omega,by omega⟩
    ·exact ⟨j,by omega,rfl⟩
theorem R0 (l:List Int):(Lib.compact (jZ l)).Pairwise (· < ·)∧∀ x,x∈Lib.compact (jZ l)↔x∈l:=by
 have hp:(jZ l).Pairwise (·≤·):=by
  have:=List.pairwise_mergeSort (le:=fun x y:Int=>decide (x≤y)) (fun a b c h1 h2=>by simp at *; omega) (fun a b=>by simp; omega) l
  exact this.imp (fun h=>by simpa using h)
 have hg:∀ j,j < (jZ l).length→(jZ l).toArray[j]! = (jZ l).getD j default:=fun j hj=>by simp [List.getD,hj]
 have hs:∀ i j,i≤j→j < (jZ l).length→(jZ l).toArray[i]!≤(jZ l).toArray[j]!:=fun i j hij hj=>by
  rw [hg i (by omega),hg j hj]
  by_cases e:i=j
  ·subst e; exact Int.le_refl _
  ·have:=List.pairwise_iff_getElem.1 hp i j (by omega) hj (by omega)
   simpa [List.getD,hj,show i < (jZ l).length by omega] using this
 obtain ⟨h1,h2⟩:=xz hs (jZ l).length (Nat.le_refl _)
 refine ⟨h1,fun x=>(h2 x).trans (Iff.trans ?_ (List.mergeSort_perm l fun x y=>decide (x≤y)).mem_iff)⟩
 constructor
 ·rintro ⟨j,hj,rfl⟩
  rw [hg j hj]
  exact vT hj _
 ·intro hx
  obtain ⟨i,hi,rfl⟩:=List.getElem_of_mem hx
  have gQ:i < (jZ l).length:=hi
  refine ⟨i,gQ,(hg i gQ).trans ?_⟩
  show (jZ l).getD i default=(jZ l)[i]
  simp [List.getD,gQ]
theorem IZ {β Y:Type} {γ:Type} (sg:γ→List β) (se:Y→β) {δ:Type} (sd:δ→List β) {f:γ→Y→δ ⊕ γ}:∀ (l:List Y) (s:γ),(∀ s y,match f s y with | .inl e=>sd e=sg s | .inr s'=>sg s'=sg s++[se y]) →
  ∃ k,(match rA f l s with | .inl e=>sd e | .inr s'=>sg s')=sg s++(l.take k).map se
 | [],s,_=>⟨0,by simp [rA]⟩
 | y :: r,s,h=>by
  have h1:=h s y
  simp only [rA]
  cases e:f s y with
  | inl b=>rw [e] at h1; exact ⟨0,by simpa using h1⟩
  | inr s' =>
   rw [e] at h1
   obtain ⟨k,hk⟩:=IZ sg se sd r s' h
   refine ⟨k+1,?_⟩
   rw [hk,h1]
   simp
theorem MU (f:ak) (part day:Int):∃ k,(l5 f part day).af=((bN f day part).take k).map (·.1):=by
 unfold l5 lO
 dsimp +instances only [Sk.dK,Sk.gd,Sk.iP,Sk.fB,Sk.jt,Sk.l7,Sk.dn,Sk.aa2,il.A1,kk,kp,bH.rD,k6,kC,g8,tv]
 obtain ⟨k,hk⟩:=IZ (fun s:List Int × Int × Bool × Int × List Int=>s.1) (fun y:Int × Sign=>y.1) (fun e:List Int × Int × Int × Bool × Int × List Int=>e.1)
  (f:=fun s y=>bif (!s.2.2.1)&&(y.2.dQ != s.2.1) then .inl (s.1,s.2.1,y.1,s.2.2.1,s.2.2.2.1,s.2.2.2.2) else bif (kB f day).2&&decide (y.2.day > (kB f day).1) then .inr (s.1++[y.1],y.2.cM,y.2.cM == (-1),Cr s.2.2.2.1 y.2.flags,s.2.2.2.2++[y.1]) else .inr (s.1++[y.1],y.2.cM,y.2.cM == (-1),Cr s.2.2.2.1 y.2.flags,s.2.2.2.2))
  (bN f day part) ([],f.aU.gj,f.aU.gj == (-1),0,[]) (fun s y=>by
   cases (!s.2.2.1)&&(y.2.dQ != s.2.1)
   ·cases (kB f day).2&&decide (y.2.day > (kB f day).1) <;> rfl
   ·rfl)
 refine ⟨k,?_⟩
 rw [List.nil_append] at hk
 rw [← hk]
 generalize hr:rA _ _ _=r
 cases r <;> rfl
theorem UJ (f:ak) (day part:Int):((bN f day part).map (·.1)).Pairwise (· < ·):=by
 unfold bN
 rw [List.map_map,List.pairwise_map]
 have h:(List.range f.af.length).Pairwise (· < ·):=List.pairwise_lt_range
 exact (h.sublist List.filter_sublist).imp (fun h=>by simp; omega)
theorem R1 (v:View) (part:Int):(al v part).Pairwise (· < ·):=by
 have e:al v part=(l5 v.all part v.day).af:=rfl
 obtain ⟨k,hk⟩:=MU v.all part v.day
 rw [e,hk,List.map_take]
 exact (UJ v.all v.day part).sublist (List.take_sublist _ _)
theorem HW {v:View} {part y:Int} (h:y∈al v part):0≤y∧y < v.all.af.length∧(v.all.af.getD y.toNat default).kind=2∧(v.all.af.getD y.toNat default).part=part∧(v.all.af.getD y.toNat default).day≤v.day∧cT (gr v.all v.day) y false=false:=by
 have e:al v part=(l5 v.all part v.day).af:=rfl
 obtain ⟨k,hk⟩:=MU v.all part v.day
 rw [e,hk] at h
 obtain ⟨z,hz,rfl⟩:=List.mem_map.1 h
 obtain ⟨i,hi⟩:=List.getElem?_of_mem ((List.take_sublist _ _).subset hz)
 have:=MR hi
 rw [← this.2.2.2.1]
 exact ⟨this.2.1,this.2.2.1,this.2.2.2.2⟩
theorem xA (c:fy) (last:Int):∀ (links:List Int) (o z:lP),z∈eB c last links o→(z.sign=o.sign∧z.gD=o.gD∨z.sign∈links∧z.gD=(c.view.now.af.getD z.sign.toNat default).cM)∧(z.state=2∨z.state=o.state)
 | [],o,z,h=>by
  simp only [eB,List.mem_singleton] at h
  subst h
  exact ⟨.inl ⟨rfl,rfl⟩,.inr rfl⟩
 | l :: r,o,z,h=>by
  simp only [eB] at h
  cases h0:bG c l last == 0 with
  | true =>
   rw [h0,cond_true,List.mem_singleton] at h
   subst h
   exact ⟨.inl ⟨rfl,rfl⟩,.inr rfl⟩
  | false =>
   rw [h0,cond_false] at h
   have ih:∀ o',o'.sign=l→o'.gD=(c.view.now.af.getD l.toNat default).cM→(o'.state=2∨o'.state=o.state)→z∈eB c last r o'→(z.sign=o.sign∧z.gD=o.gD∨z.sign∈l :: r∧z.gD=(c.view.now.af.getD z.sign.toNat default).cM)∧(z.state=2∨z.state=o.state):=by
    intro o' e1 e2 e3 hz
    obtain ⟨h1,h2⟩:=xA c last r o' z hz
    refine ⟨.inr ?_,?_⟩
    ·rcases h1 with ⟨h1,h3⟩ | ⟨h1,h3⟩
     ·rw [h1,e1]; exact ⟨by simp,by rw [h3,e2]⟩
     ·exact ⟨by simp [h1],h3⟩
    ·rcases h2 with h2 | h2
     ·exact .inl h2
     ·rw [h2]; exact e3
   cases h2:bG c l last == 2 with
   | true =>
    rw [h2,cond_true] at h
    rcases List.mem_cons.1 h with rfl | h
    ·exact ⟨.inl ⟨rfl,rfl⟩,.inl rfl⟩
    ·exact ih _ rfl rfl (.inl rfl) h
   | false =>
    rw [h2,cond_false] at h
    exact ih { o with gD:=(c.view.now.af.getD l.toNat default).cM,sign:=l } rfl rfl (.inr rfl) h
theorem ym (c:fy) (last:Int):∀ (links:List Int) (o:lP),(∀ y,y∈links→o.sign < y)→links.Pairwise (· < ·)→(eB c last links o).Pairwise (fun a b=>a.sign < b.sign)
 | [],o,_,_=>by simp [eB]
 | l :: r,o,ho,hp=>by
  rw [List.pairwise_cons] at hp
  have hl:=ho l (by simp)
  simp only [eB]
  cases h0:bG c l last == 0 with
  | true=>simp
  | false =>
   rw [cond_false]
   cases h2:bG c l last == 2 with
   | true =>
    rw [cond_true,List.pairwise_cons]
    refine ⟨fun z hz=>?_,ym c last r _ hp.1 hp.2⟩
    rcases (xA c last r _ z hz).1 with ⟨h,-⟩ | ⟨h,-⟩
    ·show o.sign < z.sign
     rw [h]; exact hl
    ·exact Int.lt_trans hl (hp.1 _ h)
   | false=>exact ym c last r _ hp.1 hp.2
theorem MV {c:fy} {links:List Int} {z:lP} (h:z∈bK c links):(z.sign = -1∧z.gD=c.view.now.aU.gj∨z.sign∈links∧z.gD=(c.view.now.af.getD z.sign.toNat default).cM)∧(z.state=1∨z.state=2):=by
 have:=xA c _ links _ z h
 exact ⟨this.1,this.2.symm⟩
theorem R2 {c:fy} {links:List Int} (h0:∀ y,y∈links→0≤y) (hp:links.Pairwise (· < ·)):(bK c links).Pairwise (fun a b=>a.sign < b.sign) :=
 ym c _ links _ (fun y hy=>by have:=h0 y hy; show (-1:Int) < y; omega) hp
theorem Cv (c:fy) (last:Int):∀ (links:List Int) (o:lP),(eB c last links o).length≤links.length+1
 | [],o=>by simp [eB]
 | l :: r,o=>by
  simp only [eB]
  cases bG c l last == 0 with
  | true=>simp
  | false =>
   rw [cond_false]
   cases bG c l last == 2 with
   | true=>rw [cond_true,List.length_cons,List.length_cons]; have:=Cv c last r { gD:=(c.view.now.af.getD l.toNat default).cM,sign:=l,state:=2 }; omega
   | false=>rw [cond_false,List.length_cons]; have:=Cv c last r { o with gD:=(c.view.now.af.getD l.toNat default).cM,sign:=l }; omega
theorem EI (c:fy) (links:List Int):(bK c links).length≤links.length+1:=Cv c _ links _
def R3 (v:View) (c9:Int) (links l:List Int) (i:Nat):Bool :=
 bif ((v.now.af.getD i default).kind == 0)||((v.now.af.getD i default).kind == 1) then true else
 bif (v.now.af.getD i default).kind == 2 then ((decide (((i:Nat):Int)≤c9))&&((eJ .i64 ((v.now.af.getD i default).flags) 2) == 0))&&bZ links ((i:Nat):Int)
 else bZ l ((v.now.af.getD i default).for_)
def yn (v:View) (part c9:Int) (links:List Int) (i:Nat) (l:List Int):List Int :=
 bif fY v ((i:Nat):Int) != part then l else bif R3 v c9 links l i then l++[((i:Nat):Int)] else l
def sb (v:View) (part c9:Int) (links:List Int):Nat→List Int
 | 0=>[]
 | n+1=>yn v part c9 links n (sb v part c9 links n)
theorem De {α ι δ:Type} (n:Nat) (h:Nat→α) (pack:α→Nat→ι) {f:ι→δ ⊕ ι} {d:δ} (e:α→δ) (hs:∀ i,i < n→f (pack (h i) i)=.inr (pack (h (i+1)) (i+1))) (he:f (pack (h n) n)=.inl (e (h n))) {m:Nat} (hm:n < m):iter f d m (pack (h 0) 0)=e (h n):=by
 have key:∀ k,k≤n→∀ m,k < m→iter f d m (pack (h (n - k)) (n - k))=e (h n):=by
  intro k
  induction k with
  | zero =>
   intro _ m hm
   obtain ⟨m,rfl⟩:∃ q,m=q+1:=⟨m - 1,by omega⟩
   simp only [iter,Nat.sub_zero,he]
  | succ k ih =>
   intro hk m hm
   obtain ⟨m,rfl⟩:∃ q,m=q+1:=⟨m - 1,by omega⟩
   simp only [iter,hs (n - (k+1)) (by omega)]
   rw [show n - (k+1)+1=n - k by omega]
   exact ih (by omega) m (by omega)
 have:=key n (Nat.le_refl _) m hm
 rwa [Nat.sub_self] at this
theorem Df (v:View) (part c9:Int) (links:List Int):bA v part c9 links=bif (c9 != (-1))&&(!(bZ links c9)) then [] else sb v part c9 links v.now.af.length:=by
 unfold bA gW
 dsimp +instances only [Sk.dK,Sk.gd,Sk.iP,Sk.fB,Sk.jt,Sk.l7,Sk.dn,il.A1,kk,kp,bH.rD,bH.Zg,aM,qw]
 cases (c9 != (-1))&&(!(bZ links c9)) with
 | true=>rfl
 | false =>
  refine congrArg (fun q=>iY q fun b=>b) (De v.now.af.length (sb v part c9 links) (fun s i=>(s,i)) (fun s=>Sum.inr s) (fun i hi=>?_) ?_ (by omega))
  ·dsimp only
   rw [decide_eq_true (by omega),cond_true]
   show _=Sum.inr (yn v part c9 links i (sb v part c9 links i),i+1)
   unfold yn
   cases fY v ((i:Nat):Int) != part with
   | true=>rfl
   | false =>
    unfold R3
    rw [cond_false,cond_false]
    cases (v.now.af.getD i default).kind == 0 with
    | true=>rfl
    | false =>
     cases (v.now.af.getD i default).kind == 1 with
     | true=>rfl
     | false =>
      cases (v.now.af.getD i default).kind == 2 with
      | true=>cases ((decide (((i:Nat):Int)≤c9))&&((eJ .i64 ((v.now.af.getD i default).flags) 2) == 0))&&bZ links ((i:Nat):Int) <;> rfl
      | false=>cases bZ (sb v part c9 links i) ((v.now.af.getD i default).for_) <;> rfl
  ·dsimp only
   rw [decide_eq_false (by omega),cond_false]
theorem contains_iff (l:List Int) (x:Int):bZ l x=true↔x∈l:=by
 refine Iff.trans (B4 l x) ?_
 constructor
 ·rintro ⟨q,hq,e⟩
  rw [← (beq_iff_eq.1 e:l.getD q default=x)]
  exact vT hq _
 ·intro h
  obtain ⟨i,hi,rfl⟩:=List.getElem_of_mem h
  exact ⟨i,hi,by simp [List.getD,hi]⟩
theorem tY {v:View} {part c9:Int} {links:List Int}:∀ {n:Nat} {y:Int},y∈sb v part c9 links n→0≤y∧y < n∧fY v y=part∧R3 v c9 links (sb v part c9 links y.toNat) y.toNat=true∧∀ z,z∈sb v part c9 links y.toNat→z∈sb v part c9 links n
 | 0,y,h=>by cases h
 | n+1,y,h=>by
  have up:∀ z,z∈sb v part c9 links n→z∈sb v part c9 links (n+1):=fun z hz=>by
   show z∈yn v part c9 links n (sb v part c9 links n)
   unfold yn
   cases fY v ((n:Nat):Int) != part with
   | true=>exact hz
   | false =>
    cases R3 v c9 links (sb v part c9 links n) n with
    | true=>exact List.mem_append_left _ hz
    | false=>exact hz
  have old:y∈sb v part c9 links n→0≤y∧y < ((n+1:Nat):Int)∧fY v y=part∧R3 v c9 links (sb v part c9 links y.toNat) y.toNat=true∧∀ z,z∈sb v part c9 links y.toNat→z∈sb v part c9 links (n+1):=fun hy=>by
   have:=tY hy
   exact ⟨this.1,by omega,this.2.2.1,this.2.2.2.1,fun z hz=>up z (this.2.2.2.2 z hz)⟩
  change y∈yn v part c9 links n (sb v part c9 links n) at h
  unfold yn at h
  cases hp:fY v ((n:Nat):Int) != part with
  | true=>rw [hp,cond_true] at h; exact old h
  | false =>
   rw [hp,cond_false] at h
   cases hi:R3 v c9 links (sb v part c9 links n) n with
   | false=>rw [hi,cond_false] at h; exact old h
   | true =>
    rw [hi,cond_true,List.mem_append,List.mem_singleton] at h
    rcases h with h | rfl
    ·exact old h
    ·exact ⟨by omega,by omega,by simpa using hp,by simpa using hi,fun z hz=>up z (by simpa using hz)⟩
theorem I0 (v:View) (part c9:Int) (links:List Int):∀ n,(sb v part c9 links n).Pairwise (· < ·)
 | 0=>List.Pairwise.nil
 | n+1=>by
  have ih:=I0 v part c9 links n
  show (yn v part c9 links n (sb v part c9 links n)).Pairwise (· < ·)
  unfold yn
  cases fY v ((n:Nat):Int) != part with
  | true=>exact ih
  | false =>
   cases R3 v c9 links (sb v part c9 links n) n with
   | false=>exact ih
   | true =>
    refine List.pairwise_append.2 ⟨ih,by simp,fun a ha b hb=>?_⟩
    simp only [List.mem_singleton] at hb
    subst hb
    exact (tY ha).2.1
theorem Pd (v:View) (part c9:Int) (links:List Int):(bA v part c9 links).Pairwise (· < ·):=by
 rw [Df]
 cases (c9 != (-1))&&(!(bZ links c9)) with
 | true=>exact List.Pairwise.nil
 | false=>exact I0 ..
theorem EJ {v:View} {part c9:Int} {links:List Int} {y:Int} (h:y∈bA v part c9 links):(c9 = -1∨c9∈links)∧y∈sb v part c9 links v.now.af.length:=by
 rw [Df] at h
 cases hc:(c9 != (-1))&&(!(bZ links c9)) with
 | true=>rw [hc] at h; cases h
 | false =>
  rw [hc,cond_false] at h
  refine ⟨?_,h⟩
  by_cases e:c9 = -1
  ·exact .inl e
  ·refine .inr ((contains_iff links c9).1 ?_)
   have:(c9 != (-1))=true:=by simpa using e
   rw [this,Bool.true_and,Bool.not_eq_eq_eq_not,Bool.not_false] at hc
   exact hc
def Gp (now:ak) (i:Int):Bool:=now.aw.any fun a=>a.kind == 7&&a.at_ == i
def I1 (now:ak):List Int:=((List.range now.af.length).filter fun i=>((now.af.getD i default).kind == 2)&&!(Gp now ((i:Nat):Int))).map fun i=>(now.af.getD i default).part
theorem MW {α:Type} (k k':Int) (v:α):∀ (m:List (Int × α)),nK (nC m k v) k'=if k'=k then some v else nK m k'
 | []=>by
  simp only [nC,nK]
  by_cases e:k'=k
  ·subst e; simp
  ·have:(k' == k)=false:=by simpa using e
   rw [this,if_neg e]; rfl
 | p :: r=>by
  have ih:=MW k k' v r
  simp only [nC]
  cases h:k == p.1 with
  | true =>
   have h:=beq_iff_eq.1 h
   simp only [cond_true,nK]
   by_cases e:k'=k
   ·subst e; rw [← h]; simp
   ·have:(k' == p.1)=false:=by rw [← h]; simpa using e
    rw [this,if_neg e]; rfl
  | false =>
   simp only [cond_false,nK,ih]
   by_cases e:k'=k
   ·subst e; rw [h]; simp
   ·rw [if_neg e,if_neg e]
theorem Zu (aw:List bD) (p:bD→Bool) (k:Int) (m:List (Int × Bool)):cT (aw.foldl (fun m a=>bif p a then nC m a.at_ true else m) m) k false=(aw.any (fun a=>p a&&a.at_ == k)||cT m k false):=by
 induction aw generalizing m with
 | nil=>rfl
 | cons a r ih =>
  rw [List.foldl_cons,ih,List.any_cons]
  cases hp:p a with
  | false=>simp
  | true =>
   simp only [cond_true,Bool.true_and]
   unfold cT
   rw [MW]
   by_cases e:k=a.at_
   ·subst e; simp
   ·have:(a.at_ == k)=false:=by simpa using fun h:a.at_=k=>e h.symm
    rw [if_neg e,this,Bool.false_or]
theorem Dg (f:ak) (day:Int):aD f day=⟨f,ai f day,day,bif (((Lib.compact (jZ (I1 (ai f day)))).length:Nat):Int) == 0 then [0] else Lib.compact (jZ (I1 (ai f day)))⟩:=by
 unfold aD qY
 dsimp +instances only [Sk.dK,Sk.gd,Sk.iP,Sk.fB,Sk.jt,Sk.l7,Sk.Rg,Sk.dn,il.A1,kk,kp,bH.rD,bH.Zg,Ji.A1,yU.A1,aV,tc,oL]
 generalize ai f day=now
 rw [qE now.aw (fun s i=>(i,s)) (fun x (s:List (Int × Bool))=>Sum.inr (bif x.kind == 7 then nC s x.at_ true else s)) (fun s=>Sum.inr s) (fun s i hi=>?_) (fun s=>?_) (by omega) []]
 ·rw [j5 (fun (x:bD) s=>bif x.kind == 7 then nC s x.at_ true else s)]
  simp only [vA]
  have hg:∀ k,cT (now.aw.foldl (fun m a=>bif a.kind == 7 then nC m a.at_ true else m) []) k false=Gp now k:=fun k=>by
   rw [Zu now.aw (fun a=>a.kind == 7) k []]
   show (_||false)=_
   rw [Bool.or_false]; rfl
  generalize now.aw.foldl (fun m a=>bif a.kind == 7 then nC m a.at_ true else m) []=m at hg
  refine Eq.trans (congrArg (fun q=>iY q _) (De now.af.length (fun n=>((List.range n).filter fun i=>((now.af.getD i default).kind == 2)&&!(Gp now ((i:Nat):Int))).map fun i=>(now.af.getD i default).part) (fun s i=>(i,s)) (fun s=>Sum.inr s) (fun i hi=>?_) ?_ (by omega))) ?_
  rotate_left
  rotate_left
  ·simp only [vA]
   show (bif (((Lib.compact (jZ (I1 now))).length:Nat):Int) == 0 then View.mk f now day [0] else View.mk f now day (Lib.compact (jZ (I1 now))))=View.mk f now day (bif (((Lib.compact (jZ (I1 now))).length:Nat):Int) == 0 then [0] else Lib.compact (jZ (I1 now)))
   cases (((Lib.compact (jZ (I1 now))).length:Nat):Int) == 0 <;> rfl
  ·dsimp only
   rw [decide_eq_true (by omega),cond_true,hg,List.range_succ,List.filter_append,List.map_append]
   cases hc:((now.af.getD i default).kind == 2)&&!(Gp now ((i:Nat):Int)) with
   | true=>rw [List.filter_cons_of_pos (by simpa using hc)]; rfl
   | false=>rw [List.filter_cons_of_neg (by simpa using hc)]; simp
  ·dsimp only
   rw [decide_eq_false (by omega),cond_false]
 ·rw [decide_eq_true (by omega),cond_true]
  cases (now.aw.getD i default).kind == 7 <;> rfl
 ·rw [decide_eq_false (by omega),cond_false]
theorem UK (f:ak) (day:Int):(aD f day).lead.Pairwise (· < ·):=by
 rw [Dg]
 dsimp only
 cases (((Lib.compact (jZ (I1 (ai f day)))).length:Nat):Int) == 0 with
 | true=>simp
 | false=>exact (R0 _).1
def jE (c_:fy) (o:lP) (sign:Int) (links:List Int) (mu:List cX):Sk (Int × Int) :=
 .r 1 ((uD c_.view sign).c) fun x1 =>
 .r 2 (.aj (.p (bU sign mu.length)) ((sU o.state ((mu.getD sign.toNat default).binds)).c)) fun x2 =>
 .r 4 (.p (bU x1 c_.view.now.af.length)) fun _ =>
 .br (((c_.view.now.af.getD x1.toNat default).kind) == 1)
 (.br (!((c_.due != (-1))&&(decide (c_.view.day≥c_.due))))
 (.fin (0,0))
 (.fin (x2,0)))
 (.r 8 ((j1 c_.view.now.aw).c) fun x3 =>
 .r 9 (.wh ((!((c_.due != (-1))&&(decide (c_.view.day≥c_.due))))&&(!x3)) false (.p (bU x1 mu.length))) fun _ =>
 .br (((!((c_.due != (-1))&&(decide (c_.view.day≥c_.due))))&&(!x3))||(!((mu.getD x1.toNat default).fM)))
 (.fin (0,0))
 (.bt
 (.loop (default:Sum (Int × Int) (Int × Int)) (fun i5=>i5.2.2≤links.length) (fun i5=>links.length - i5.2.2) ((0,1,0):Int × Int × Nat)
 (fun (i5:Int × Int × Nat)=>⟨[(16,iv i5.1),(17,iv i5.2.1),(76,iv (i5.2.2:Int))],[]⟩) fun i5 =>
 .lt 3 0 i5.2.2 links.length
 (.r 14 (.p (bU (i5.2.2:Int) links.length)) fun _ =>
 .bind false (fun _=>True)
 (.br (decide ((links.getD i5.2.2 default)≤o.sign))
 (.fin (.inr (ar (i5.2.1+1))))
 (.fin (.inr i5.2.1)))
 (fun (b6:Int)=>⟨[(17,iv b6)],[]⟩) fun b6 =>
 .br ((decide ((links.getD i5.2.2 default)≤o.sign))&&(decide ((links.getD i5.2.2 default)≥x1)))
 (.nx 19 76 i5.2.2 (ar (i5.1+1),b6,i5.2.2+1))
 (.nx 19 76 i5.2.2 (i5.1,b6,i5.2.2+1)))
 (.fin (.inl (.inr (i5.1,i5.2.1)))))
 (fun (b4:Int × Int)=>⟨[(16,iv b4.1),(17,iv b4.2)],[]⟩) fun b4 =>
 .r 20 ((aM links x1).c) fun x7 =>
 .bind false (fun _=>True)
 (.br (!x7)
 (.fin (.inr b4.2))
 (.fin (.inr b4.1)))
 (fun (b8:Int)=>⟨[(16,iv b8)],[]⟩) fun b8 =>
 .r 22 (.dep ((sW c_.r c_.forum c_.view.all x1 c_.view.day).c) fun x9=>(sU x2 x9.all).c) fun GL =>
 .fin (GL.2,b8)))
def aQ c_ o sign links mu:=(jE c_ o sign links mu).val
theorem EK (c_:fy) (o:lP) (sign:Int) (links:List Int) (mu:List cX) (he:mu.length=c_.view.now.af.length) (hs:0≤sign∧sign < (c_.view.now.af.length:Int)) (hc:c_.view.now=ai c_.view.all c_.view.day) (hF:cb c_.r c_.view.all) (Zv:c_.view.kQ) (VP:c_.view.all.Small) (UG:c_.r.cj) (RZ:c_.r.Small):(jE c_ o sign links mu).bC (fun _=>True):=by
 unfold jE
 try simp only [sW,sU,uD,j1,aM]
 exact mA
def sc c_ o sign links mu:=kk tok mixed Tryz.func120 [av c_.cells,av o.cells,iv sign,lv bI links,lv cX.cells mu] (fun x=>.fD [iv x.1,iv x.2]) true (jE c_ o sign links mu) (aQ c_ o sign links mu) (fun (h:(mu.length=c_.view.now.af.length)∧(0≤sign∧sign < (c_.view.now.af.length:Int))∧(c_.view.now=ai c_.view.all c_.view.day)∧(cb c_.r c_.view.all)∧(c_.view.kQ)∧(c_.view.all.Small)∧(c_.r.cj)∧(c_.r.Small))=>EK c_ o sign links mu h.1 h.2.1 h.2.2.1 h.2.2.2.1 h.2.2.2.2.1 h.2.2.2.2.2.1 h.2.2.2.2.2.2.1 h.2.2.2.2.2.2.2)
structure DQ where
 sum:Int
 mI:Int
 A8:Int
 exchange:Int
 WT:Int
 rest:Int
 au:Int
 deriving Inhabited
def DQ.cells (c:DQ):List D:=[dI c.sum,dI c.mI,dI c.A8,dI c.exchange,dI c.WT,dI c.rest,dI c.au]
def lR (r:ah) (forum:Int) (f:ak) (sign:Int) (day:Int):Sk (cX × Bool) :=
 .r 1 ((nU r forum f day).c) fun x1 =>
 .br ((decide (sign < 0))||(decide (sign≥((x1.f.af.length:Nat):Int))))
 (.fin (({ sign:=0,kind:=0,gD:=0,binds:=0,text:=0,sum:=0,fM:=false }:cX),false))
 (.r 4 ((fC x1 sign).c) fun x2 =>
 .fin (x2,true))
def ee r forum f sign day:=(lR r forum f sign day).val
theorem Kb (r:ah) (forum:Int) (f:ak) (sign:Int) (day:Int) (hP:f.rF∧f.Small):(lR r forum f sign day).dj (fun (x:cX × Bool)=>0≤x.1.sum∧x.1.sum≤1099511627776):=by
 refine Sk.bz _ ?_
 unfold lR
 simp only [Sk.de,Sk.aI,reduceCtorEq,ON,kk,kp,nU,fC,maxLen]
 intro x _ hx
 refine ⟨fun _=>⟨by decide,by decide⟩,fun hc y _ hy=>hy ⟨by rw [hx.1]; exact Ya hP.1 day,by rw [hx.1]; exact Cb hP.2 day,?_⟩⟩
 simp only [LN] at hc
 omega
theorem sX (r:ah) (forum:Int) (f:ak) (sign:Int) (day:Int):(fun (x:cX × Bool)=>(f.rF∧f.Small)→(0≤x.1.sum∧x.1.sum≤1099511627776)) (ee r forum f sign day):=fun hP=>Sk.dk _ (Kb r forum f sign day hP)
theorem MX (r:ah) (forum:Int) (f:ak) (sign:Int) (day:Int) (bj:f.Small) (bR:r.cj) (aX:r.Small):(lR r forum f sign day).bC (fun _=>True):=by
 refine Sk.aR _ ?_
 unfold lR
 simp only [Sk.ju,Sk.aI,reduceCtorEq,ON,kk,kp,nU,fC,maxLen]
 refine ⟨⟨bj,bR,aX⟩,fun x _ hx hc=>?_⟩
 have hS:x.f.Small:=by rw [hx.1]; exact Cb bj day
 have hB:x.r.cj:=by rw [hx.2]; exact bR
 have hR:x.r.Small:=by rw [hx.2]; exact aX
 simp only [LN] at hc
 exact ⟨by omega,hS,hB,hR⟩
def tx r forum f sign day:=kk tok mixed Tryz.func154 [av r.cells,iv forum,av f.cells,iv sign,iv day] (fun x=>.fD [av x.1.cells,bv x.2]) true (lR r forum f sign day) (ee r forum f sign day) (u3 (MX r forum f sign day)) (fun (x:cX × Bool)=>(f.rF∧f.Small)→(0≤x.1.sum∧x.1.sum≤1099511627776)) (sX r forum f sign day)
def qx (n:Int) (gC:Int):Sk (Bool) :=
 .fin ((decide (n≥0))&&(decide (n≤gC)))
def dq n gC:=(qx n gC).val
theorem uE (n:Int) (gC:Int):dq n gC=((decide (n≥0))&&(decide (n≤gC))):=rfl
theorem Kc (n:Int) (gC:Int):(qx n gC).bC (fun _=>True):=by
 unfold qx
 exact qT
def lS n gC:=kk tok mixed Tryz.func219 [iv n,iv gC] (fun x=>bv x) true (qx n gC) (dq n gC) (u0 (Kc n gC))
def T8:List Nat:=[0,1,2,2,3,3,3,3,4,4,4,4,4,4,4,4]++List.replicate 16 5++List.replicate 32 6++List.replicate 64 7++List.replicate 128 8
theorem ago:∀ k,k < 256→0 < k→1≤T8.getD k 0∧T8.getD k 0≤8∧2 ^ (T8.getD k 0 - 1)≤k∧k < 2 ^ (T8.getD k 0):=by decide +kernel
theorem aeG {x d:Int} {n t:Nat} (hd:d=2 ^ n) (h1:(2:Int) ^ (t - 1)≤x / d) (h2:x / d < 2 ^ t) (ht:1≤t):(2:Int) ^ (n+t - 1)≤x∧x < 2 ^ (n+t):=by
 subst hd
 have hp:(0:Int) < 2 ^ n:=Int.pow_pos (by omega)
 have e:=Int.mul_ediv_add_emod x (2 ^ n)
 have r0:=Int.emod_nonneg x (Int.ne_of_gt hp)
 have r1:=Int.emod_lt_of_pos x hp
 rw [show n+t - 1=n+(t - 1) by omega,Int.pow_add,Int.pow_add]
 constructor
 ·have:=Int.mul_le_mul_of_nonneg_left h1 (Int.le_of_lt hp)
  omega
 ·have:(2:Int) ^ n * (x / 2 ^ n+1)≤2 ^ n * 2 ^ t:=Int.mul_le_mul_of_nonneg_left (by omega) (Int.le_of_lt hp)
  rw [Int.mul_add] at this
  omega
theorem Ye (a:Int):ep .u64 a 32=a / 4294967296:=G8 .u64 (b:=32) (by decide)
theorem adL (a:Int):ep .u64 a 16=a / 65536:=G8 .u64 (b:=16) (by decide)
theorem agp (a:Int):ep .u64 a 8=a / 256:=G8 .u64 (b:=8) (by decide)
theorem abx {x:Int} (h:0 < x) (h2:x < 256):1≤T8.getD x.toNat 0∧T8.getD x.toNat 0≤8∧(2:Int) ^ (T8.getD x.toNat 0 - 1)≤x∧x < 2 ^ (T8.getD x.toNat 0):=by
 obtain ⟨h3,h4,h5,h6⟩:=ago x.toNat (by omega) (by omega)
 refine ⟨h3,h4,?_,?_⟩
 ·have:((2 ^ (T8.getD x.toNat 0 - 1):Nat):Int)≤(x.toNat:Int):=by exact_mod_cast h5
  rw [Int.natCast_pow] at this
  have e:((2:Nat):Int)=2:=rfl
  rw [e] at this
  omega
 ·have:((x.toNat:Nat):Int) < ((2 ^ (T8.getD x.toNat 0):Nat):Int):=by exact_mod_cast h6
  rw [Int.natCast_pow] at this
  have e:((2:Nat):Int)=2:=rfl
  rw [e] at this
  omega
theorem aby:∀ k,k < 256→((⟨#[0,1,2,2,3,3,3,3,4,4,4,4,4,4,4,4,5,5,5,5,5,5,5,5,5,5,5,5,5,5,5,5,6,6,6,6,6,6,6,6,6,6,6,6,6,6,6,6,6,6,6,6,6,6,6,6,6,6,6,6,6,6,6,6,7,7,7,7,7,7,7,7,7,7,7,7,7,7,7,7,7,7,7,7,7,7,7,7,7,7,7,7,7,7,7,7,7,7,7,7,7,7,7,7,7,7,7,7,7,7,7,7,7,7,7,7,7,7,7,7,7,7,7,7,7,7,7,7,8,8,8,8,8,8,8,8,8,8,8,8,8,8,8,8,8,8,8,8,8,8,8,8,8,8,8,8,8,8,8,8,8,8,8,8,8,8,8,8,8,8,8,8,8,8,8,8,8,8,8,8,8,8,8,8,8,8,8,8,8,8,8,8,8,8,8,8,8,8,8,8,8,8,8,8,8,8,8,8,8,8,8,8,8,8,8,8,8,8,8,8,8,8,8,8,8,8,8,8,8,8,8,8,8,8,8,8,8,8,8,8,8,8,8,8,8,8,8,8,8,8,8,8,8,8,8,8]⟩:ByteArray).data.toList.getD k 0).toNat=T8.getD k 0:=by decide +kernel
theorem xB {x d:Int} {n t:Nat} (hd:d=2 ^ n) (h1:(2:Int) ^ (t - 1)≤x / d) (h2:x / d < 2 ^ t) (ht:1≤t) (ht8:t≤8) (hn:n≤56) {r:Int} (hr:r=(n+t:Nat)):1≤r∧r≤64∧2 ^ (r.toNat - 1)≤x∧x < 2 ^ r.toNat:=by
 subst hr
 have:=aeG hd h1 h2 ht
 rw [Int.toNat_natCast]
 exact ⟨by omega,by omega,this.1,this.2⟩
def mR (x_:Int):Sk (Int) :=
 .bind false (fun b1=>(0 < x_→0 < b1.1)∧0≤b1.1∧b1.1 < 4294967296∧((b1.2=0∧b1.1=x_)∨(b1.2=32∧b1.1=x_ / 4294967296)))
 (.br (decide (x_≥4294967296))
 (.r 2 (.p (0≤(32:Int))) fun _ =>
 .fin (.inr (ep .u64 x_ 32,32)))
 (.fin (.inr (x_,0))))
 (fun (b1:Int × Int)=>⟨[(0,.d (.v (.int .u64 b1.1))),(2,iv b1.2)],[]⟩) fun b1 =>
 .bind false (fun b2=>(0 < x_→0 < b2.1)∧0≤b2.1∧b2.1 < 65536∧((b2.2=0∧b2.1=x_)∨(b2.2=16∧b2.1=x_ / 65536)∨(b2.2=32∧b2.1=x_ / 4294967296)∨(b2.2=48∧b2.1=x_ / 281474976710656)))
 (.br (decide (b1.1≥65536))
 (.r 5 (.p (0≤(16:Int))) fun _ =>
 .fin (.inr (ep .u64 b1.1 16,ar (b1.2+16))))
 (.fin (.inr (b1.1,b1.2))))
 (fun (b2:Int × Int)=>⟨[(0,.d (.v (.int .u64 b2.1))),(2,iv b2.2)],[]⟩) fun b2 =>
 .br (decide (b2.1≥256))
 (.r 8 (.p (0≤(8:Int))) fun _ =>
 .r 10 (.p (0≤(IntKind.u8.wrap (ep .u64 b2.1 8))∧(IntKind.u8.wrap (ep .u64 b2.1 8)) < (((⟨#[0,1,2,2,3,3,3,3,4,4,4,4,4,4,4,4,5,5,5,5,5,5,5,5,5,5,5,5,5,5,5,5,6,6,6,6,6,6,6,6,6,6,6,6,6,6,6,6,6,6,6,6,6,6,6,6,6,6,6,6,6,6,6,6,7,7,7,7,7,7,7,7,7,7,7,7,7,7,7,7,7,7,7,7,7,7,7,7,7,7,7,7,7,7,7,7,7,7,7,7,7,7,7,7,7,7,7,7,7,7,7,7,7,7,7,7,7,7,7,7,7,7,7,7,7,7,7,7,8,8,8,8,8,8,8,8,8,8,8,8,8,8,8,8,8,8,8,8,8,8,8,8,8,8,8,8,8,8,8,8,8,8,8,8,8,8,8,8,8,8,8,8,8,8,8,8,8,8,8,8,8,8,8,8,8,8,8,8,8,8,8,8,8,8,8,8,8,8,8,8,8,8,8,8,8,8,8,8,8,8,8,8,8,8,8,8,8,8,8,8,8,8,8,8,8,8,8,8,8,8,8,8,8,8,8,8,8,8,8,8,8,8,8,8,8,8,8,8,8,8,8,8,8,8,8,8]⟩:ByteArray).size:Nat):Int))) fun _ =>
 .fin (ar ((ar (b2.2+8))+(ar ((((⟨#[0,1,2,2,3,3,3,3,4,4,4,4,4,4,4,4,5,5,5,5,5,5,5,5,5,5,5,5,5,5,5,5,6,6,6,6,6,6,6,6,6,6,6,6,6,6,6,6,6,6,6,6,6,6,6,6,6,6,6,6,6,6,6,6,7,7,7,7,7,7,7,7,7,7,7,7,7,7,7,7,7,7,7,7,7,7,7,7,7,7,7,7,7,7,7,7,7,7,7,7,7,7,7,7,7,7,7,7,7,7,7,7,7,7,7,7,7,7,7,7,7,7,7,7,7,7,7,7,8,8,8,8,8,8,8,8,8,8,8,8,8,8,8,8,8,8,8,8,8,8,8,8,8,8,8,8,8,8,8,8,8,8,8,8,8,8,8,8,8,8,8,8,8,8,8,8,8,8,8,8,8,8,8,8,8,8,8,8,8,8,8,8,8,8,8,8,8,8,8,8,8,8,8,8,8,8,8,8,8,8,8,8,8,8,8,8,8,8,8,8,8,8,8,8,8,8,8,8,8,8,8,8,8,8,8,8,8,8,8,8,8,8,8,8,8,8,8,8,8,8,8,8,8,8,8,8]⟩:ByteArray).data.toList.getD ((IntKind.u8.wrap (ep .u64 b2.1 8)).toNat) 0).toNat:Int))))))
 (.r 10 (.p (0≤(IntKind.u8.wrap (b2.1))∧(IntKind.u8.wrap (b2.1)) < (((⟨#[0,1,2,2,3,3,3,3,4,4,4,4,4,4,4,4,5,5,5,5,5,5,5,5,5,5,5,5,5,5,5,5,6,6,6,6,6,6,6,6,6,6,6,6,6,6,6,6,6,6,6,6,6,6,6,6,6,6,6,6,6,6,6,6,7,7,7,7,7,7,7,7,7,7,7,7,7,7,7,7,7,7,7,7,7,7,7,7,7,7,7,7,7,7,7,7,7,7,7,7,7,7,7,7,7,7,7,7,7,7,7,7,7,7,7,7,7,7,7,7,7,7,7,7,7,7,7,7,8,8,8,8,8,8,8,8,8,8,8,8,8,8,8,8,8,8,8,8,8,8,8,8,8,8,8,8,8,8,8,8,8,8,8,8,8,8,8,8,8,8,8,8,8,8,8,8,8,8,8,8,8,8,8,8,8,8,8,8,8,8,8,8,8,8,8,8,8,8,8,8,8,8,8,8,8,8,8,8,8,8,8,8,8,8,8,8,8,8,8,8,8,8,8,8,8,8,8,8,8,8,8,8,8,8,8,8,8,8,8,8,8,8,8,8,8,8,8,8,8,8,8,8,8,8,8,8]⟩:ByteArray).size:Nat):Int))) fun _ =>
 .fin (ar (b2.2+(ar ((((⟨#[0,1,2,2,3,3,3,3,4,4,4,4,4,4,4,4,5,5,5,5,5,5,5,5,5,5,5,5,5,5,5,5,6,6,6,6,6,6,6,6,6,6,6,6,6,6,6,6,6,6,6,6,6,6,6,6,6,6,6,6,6,6,6,6,7,7,7,7,7,7,7,7,7,7,7,7,7,7,7,7,7,7,7,7,7,7,7,7,7,7,7,7,7,7,7,7,7,7,7,7,7,7,7,7,7,7,7,7,7,7,7,7,7,7,7,7,7,7,7,7,7,7,7,7,7,7,7,7,8,8,8,8,8,8,8,8,8,8,8,8,8,8,8,8,8,8,8,8,8,8,8,8,8,8,8,8,8,8,8,8,8,8,8,8,8,8,8,8,8,8,8,8,8,8,8,8,8,8,8,8,8,8,8,8,8,8,8,8,8,8,8,8,8,8,8,8,8,8,8,8,8,8,8,8,8,8,8,8,8,8,8,8,8,8,8,8,8,8,8,8,8,8,8,8,8,8,8,8,8,8,8,8,8,8,8,8,8,8,8,8,8,8,8,8,8,8,8,8,8,8,8,8,8,8,8,8]⟩:ByteArray).data.toList.getD ((IntKind.u8.wrap (b2.1)).toNat) 0).toNat:Int))))))
def bits_Len64 x_:=(mR x_).val
theorem MY (x_:Int) (hP:0 < x_∧x_ < 18446744073709551616):(mR x_).dj (fun (x:Int)=>1≤x∧x≤64∧2 ^ (x.toNat - 1)≤x_∧x_ < 2 ^ x.toNat):=by
 refine Sk.bz _ ?_
 unfold mR
 simp only [Sk.de,Sk.aI,reduceCtorEq,ON,kk,kp,maxLen]
 simp only [Ye,adL,agp,aA (n:=(32:Int)) (by decide) (by decide)] at *
 refine ⟨⟨fun hc _=>?_,fun hc=>?_⟩,fun b _ hb=>⟨⟨fun hc _=>?_,fun hc=>?_⟩,fun d _ hd=>⟨fun hc _ _=>?_,fun hc _=>?_⟩⟩⟩
 all_goals simp only [LN] at hc
 ·(try simp only [true_or,or_true,and_true,true_and]); omega
 ·(try simp only [true_or,or_true,and_true,true_and]); omega
 ·have e:ar (b.2+16)=b.2+16:=aA (by omega) (by omega)
  rw [e]
  omega
 ·omega
 ·rw [P7,Int.emod_eq_of_lt (by omega) (by omega),aby _ (by omega)]
  have ht:=abx (x:=d.1 / 256) (by omega) (by omega)
  rw [aA (n:=d.2+8) (by omega) (by omega),aA (n:=((T8.getD (d.1 / 256).toNat 0:Nat):Int)) (by omega) (by omega),aA (by omega) (by omega)]
  rcases hd.2.2.2 with ⟨h1,h2⟩ | ⟨h1,h2⟩ | ⟨h1,h2⟩ | ⟨h1,h2⟩
  ·exact xB (n:=8) (d:=256) (t:=T8.getD (d.1 / 256).toNat 0) (by decide) (by rw [← h2]; exact ht.2.2.1) (by rw [← h2]; exact ht.2.2.2) ht.1 ht.2.1 (by omega) (by omega)
  ·exact xB (n:=24) (d:=16777216) (t:=T8.getD (d.1 / 256).toNat 0) (by decide) (by rw [show x_ / 16777216=d.1 / 256 by omega]; exact ht.2.2.1) (by rw [show x_ / 16777216=d.1 / 256 by omega]; exact ht.2.2.2) ht.1 ht.2.1 (by omega) (by omega)
  ·exact xB (n:=40) (d:=1099511627776) (t:=T8.getD (d.1 / 256).toNat 0) (by decide) (by rw [show x_ / 1099511627776=d.1 / 256 by omega]; exact ht.2.2.1) (by rw [show x_ / 1099511627776=d.1 / 256 by omega]; exact ht.2.2.2) ht.1 ht.2.1 (by omega) (by omega)
  ·exact xB (n:=56) (d:=72057594037927936) (t:=T8.getD (d.1 / 256).toNat 0) (by decide) (by rw [show x_ / 72057594037927936=d.1 / 256 by omega]; exact ht.2.2.1) (by rw [show x_ / 72057594037927936=d.1 / 256 by omega]; exact ht.2.2.2) ht.1 ht.2.1 (by omega) (by omega)
 ·rw [P7,Int.emod_eq_of_lt (by omega) (by omega),aby _ (by omega)]
  have ht:=abx (x:=d.1) (by omega) (by omega)
  rw [aA (n:=((T8.getD d.1.toNat 0:Nat):Int)) (by omega) (by omega),aA (by omega) (by omega)]
  rcases hd.2.2.2 with ⟨h1,h2⟩ | ⟨h1,h2⟩ | ⟨h1,h2⟩ | ⟨h1,h2⟩
  ·exact xB (n:=0) (d:=1) (t:=T8.getD d.1.toNat 0) (by decide) (by rw [show x_ / 1=d.1 by omega]; exact ht.2.2.1) (by rw [show x_ / 1=d.1 by omega]; exact ht.2.2.2) ht.1 ht.2.1 (by omega) (by omega)
  ·exact xB (n:=16) (d:=65536) (t:=T8.getD d.1.toNat 0) (by decide) (by rw [← h2]; exact ht.2.2.1) (by rw [← h2]; exact ht.2.2.2) ht.1 ht.2.1 (by omega) (by omega)
  ·exact xB (n:=32) (d:=4294967296) (t:=T8.getD d.1.toNat 0) (by decide) (by rw [← h2]; exact ht.2.2.1) (by rw [← h2]; exact ht.2.2.2) ht.1 ht.2.1 (by omega) (by omega)
  ·exact xB (n:=48) (d:=281474976710656) (t:=T8.getD d.1.toNat 0) (by decide) (by rw [← h2]; exact ht.2.2.1) (by rw [← h2]; exact ht.2.2.2) ht.1 ht.2.1 (by omega) (by omega)
theorem Kd (x_:Int):(fun (x:Int)=>(0 < x_∧x_ < 18446744073709551616)→(1≤x∧x≤64∧2 ^ (x.toNat - 1)≤x_∧x_ < 2 ^ x.toNat)) (bits_Len64 x_):=fun hP=>Sk.dk _ (MY x_ hP)
theorem Pe (x_:Int) (hx:0≤x_∧x_ < 18446744073709551616):(mR x_).bC (fun _=>True):=by
 refine Sk.aR _ ?_
 unfold mR
 simp only [Sk.ju,Sk.aI,reduceCtorEq,ON,kk,kp,maxLen]
 simp only [Ye,adL,agp,aA (n:=(32:Int)) (by decide) (by decide)] at *
 refine ⟨⟨fun hc=>⟨by decide,fun _=>?_⟩,fun hc=>?_⟩,fun b _ hb=>⟨⟨fun hc=>⟨by decide,fun _=>?_⟩,fun hc=>?_⟩,fun d _ hd=>⟨fun hc=>⟨by decide,fun _=>⟨?_,?_⟩⟩,fun hc=>⟨?_,?_⟩⟩⟩⟩
 all_goals simp only [LN] at hc
 ·(try simp only [true_or,or_true,and_true,true_and]); omega
 ·(try simp only [true_or,or_true,and_true,true_and]); omega
 ·have e:ar (b.2+16)=b.2+16:=aA (by omega) (by omega)
  rw [e]
  omega
 ·omega
 ·rw [P7]; omega
 ·rw [P7,Int.emod_eq_of_lt (by omega) (by omega)]; exact (show _ < ((256:Nat):Int) by omega)
 ·rw [P7]; omega
 ·rw [P7,Int.emod_eq_of_lt (by omega) (by omega)]; exact (show _ < ((256:Nat):Int) by omega)
def Aw x_:=kk tok mixed Tryz.func237 [.d (.v (.int .u64 x_))] (fun x=>iv x) true (mR x_) (bits_Len64 x_) (Pe x_) (fun (x:Int)=>(0 < x_∧x_ < 18446744073709551616)→(1≤x∧x≤64∧2 ^ (x.toNat - 1)≤x_∧x_ < 2 ^ x.toNat)) (Kd x_)
def eD (x_:Int):Sk (Int) :=
 .r 1 ((Aw x_).c) fun x1 =>
 .fin (ar ((64:Int) - x1))
def uR x_:=(eD x_).val
theorem zA (x_:Int) (hP:0 < x_∧x_ < 18446744073709551616):(eD x_).dj (fun (x:Int)=>0≤x∧x≤63∧9223372036854775808≤x_ * 2 ^ x.toNat∧x_ * 2 ^ x.toNat < 18446744073709551616):=by
 refine Sk.bz _ ?_
 unfold eD
 simp only [Sk.de,Sk.aI,reduceCtorEq,ON,kk,kp,Aw,maxLen]
 intro x _ h
 obtain ⟨h1,h2,h3,h4⟩:=h hP
 rw [aA (by omega) (by omega)]
 have e1:x.toNat - 1+(64 - x).toNat=63:=by omega
 have e2:x.toNat+(64 - x).toNat=64:=by omega
 have p:(0:Int) < 2 ^ (64 - x).toNat:=Int.pow_pos (by omega)
 have q1:=Int.mul_le_mul_of_nonneg_right h3 (Int.le_of_lt p)
 have q2:=Int.mul_lt_mul_of_pos_right h4 p
 rw [← Int.pow_add,e1] at q1
 rw [← Int.pow_add,e2] at q2
 refine ⟨by omega,by omega,?_,?_⟩
 ·exact q1
 ·exact q2
theorem yo (x_:Int):(fun (x:Int)=>(0 < x_∧x_ < 18446744073709551616)→(0≤x∧x≤63∧9223372036854775808≤x_ * 2 ^ x.toNat∧x_ * 2 ^ x.toNat < 18446744073709551616)) (uR x_):=fun hP=>Sk.dk _ (zA x_ hP)
theorem Ax (x_:Int) (hx:0≤x_∧x_ < 18446744073709551616):(eD x_).bC (fun _=>True):=by
 unfold eD
 try simp only [Aw]
 exact mA
def m5 x_:=kk tok mixed Tryz.func242 [.d (.v (.int .u64 x_))] (fun x=>iv x) true (eD x_) (uR x_) (Ax x_) (fun (x:Int)=>(0 < x_∧x_ < 18446744073709551616)→(0≤x∧x≤63∧9223372036854775808≤x_ * 2 ^ x.toNat∧x_ * 2 ^ x.toNat < 18446744073709551616)) (yo x_)
end
end Go.Proofs.YtonkchddcgcopaaGreatDoor
