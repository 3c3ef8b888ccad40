/- Functions, as sketches. -/
import Derived.Test.YtilbddpghnnmhaaGreatDoorSa7
import Derived.Test.YtilbddpghnnmhaaGreatDoorAvYl
namespace Go.Proofs.YtilbddpghnnmhaaGreatDoor
noncomputable section
open Go Go.Av
set_option linter.unusedSimpArgs false
set_option linter.unusedVariables false
set_option maxHeartbeats 1000000
set_option maxRecDepth 100000
def vm (r:jg) (city:Int) (day:Int):Sk (Int × Int) :=
 .r 1 ((ki r city).c) fun x1 =>
 .loop (default:Int × Int) (fun i2=>(0:Int)≤i2∧i2≤100001) (fun i2=>(100001 - i2).toNat) (day:Int)
 (fun (i2:Int)=>⟨[(2,iv i2)],[]⟩) fun i2 =>
 .r 2 ((Wf r x1 i2).c) fun x3 =>
 .r 3 (.andl (.p (ixP city r.cities.length)) ((uW (r.cities.getD city.toNat default) x3).c)) fun x4 =>
 .br (x4.2 != 0)
 (.fin (.inl (0,3)))
 (.br (x4.1 == x3)
 (.fin (.inl (x3,0)))
 (.fin (.inr x4.1)))
def za4 (r:jg) (city:Int) (day:Int):Int × Int:=(vm r city day).val
theorem zbq (r:jg) (city:Int) (day:Int) (hP:(0≤city∧city < (r.cities.length:Int))∧(0≤day∧day≤100001)∧r.HaltOK):(vm r city day).pst (fun (x:Int × Int)=>x.2=0→0≤x.1∧x.1≤100001):=by
 refine Sk.pst_of _ ?_
 unfold vm
 simp only [Sk.pstq,Sk.isLoop,reduceCtorEq,ON,kk,uW,ki,Wf,jg.HaltOK,maxLen]
 obtain ⟨hc,hd,hh⟩:=hP
 intro _ _
 refine ⟨hd,fun i hi y hy hyp x hx hxp=>⟨fun _ h=>absurd h (by decide),fun he=>⟨fun hq=>?_,fun hq=>⟨?_,?_⟩⟩⟩⟩
 all_goals have h2:=hyp ⟨hh,hi⟩
 all_goals simp only [LN] at he hq
 all_goals have h3:=hxp he
 all_goals omega
theorem BQ (r:jg) (city:Int) (day:Int):(fun (x:Int × Int)=>((0≤city∧city < (r.cities.length:Int))∧(0≤day∧day≤100001)∧r.HaltOK)→(x.2=0→0≤x.1∧x.1≤100001)) (za4 r city day):=fun hP=>Sk.pval _ (zbq r city day hP)
theorem zd2 (r:jg) (city:Int) (day:Int) (hc:0≤city∧city < (r.cities.length:Int)) (hd:0≤day∧day≤100001) (hh:r.HaltOK):(vm r city day).obs (fun _=>True):=by
 simp only [jg.HaltOK] at hh
 unfold vm
 try simp only [uW,ki,Wf,jg.HaltOK]
 exact okD
def VW (r:jg) (city:Int) (day:Int):Ctr (Int × Int):=kk tok mixed Tryz.func106 [av r.cells,iv city,iv day] (fun x=>.tup [iv x.1,iv x.2]) true (vm r city day) (za4 r city day) (fun (h:(0≤city∧city < (r.cities.length:Int))∧(0≤day∧day≤100001)∧(r.HaltOK))=>zd2 r city day h.1 h.2.1 h.2.2) (fun (x:Int × Int)=>((0≤city∧city < (r.cities.length:Int))∧(0≤day∧day≤100001)∧r.HaltOK)→(x.2=0→0≤x.1∧x.1≤100001)) (BQ r city day)
def Jc (r:jg) (b:vP) (seen:Int) (grace:Int):Sk (Int × Int) :=
 .r 2 (.dep ((ye r).c) fun x1=>.dep (.wh (x1 != 0) false ((KT r b.city).c)) fun x2=>.dep (.wh ((x1 != 0)||(!x2)) false ((KT r b.pay).c)) fun x3=>.wh (((x1 != 0)||(!x2))||(!x3)) false ((Jk b.day).c)) fun p10 =>
 .br ((((p10.1 != 0)||(!p10.2.1))||(!p10.2.2.1))||(!p10.2.2.2))
 (.fin (0,1))
 (.br ((((decide (b.tenor.kind < 0))||(decide (b.tenor.kind≥5)))||(decide (b.tenor.unit < 0)))||(decide (b.tenor.unit≥2)))
 (.fin (0,1))
 (.r 6 (.wh (seen != (-1)) true ((Jk seen).c)) fun x5 =>
 .br ((((seen != (-1))&&(!x5))||(decide (grace < 0)))||(decide (grace > 20000)))
 (.fin (0,1))
 (.r 8 ((VH b.tenor).c) fun x6 =>
 .br (x6&&(seen == (-1)))
 (.fin (0,4))
 (.r 10 ((Wo r b seen).c) fun x7 =>
 .br (x7.2 != 0)
 (.fin (0,x7.2))
 (.r 13 ((Jk x7.1).c) fun x8 =>
 .br ((!x8)||(decide ((w64 (x7.1+grace)) > 100000)))
 (.fin (0,3))
 (.r 15 ((VW r b.pay (w64 (x7.1+grace))).c) fun x9 =>
 .fin (x9.1,x9.2)))))))
def zjI (r:jg) (b:vP) (seen:Int) (grace:Int):Int × Int:=(Jc r b seen grace).val
theorem ziS (r:jg) (b:vP) (seen:Int) (grace:Int):(Jc r b seen grace).pst (fun (x:Int × Int)=>x.2=0→0≤x.1∧x.1≤100001):=by
 refine Sk.pst_of _ ?_
 unfold Jc
 simp only [Sk.pstq,Sk.isLoop,reduceCtorEq,ON,kk,ye,VH,Wo,KT,Jk,VW,WT,WV,Hg,forall_eq,jh.Small,jg.Small,jg.HaltOK,maxLen]
 intro hr
 refine ⟨fun _ h=>absurd h (by decide),fun h1=>⟨fun _ h=>absurd h (by decide),fun _=>⟨fun _ h=>absurd h (by decide),fun h3=>⟨fun _ h=>absurd h (by decide),fun _=>⟨fun h h'=>by rw [h'] at h; exact absurd h (by decide),fun h4=>⟨fun _ h=>absurd h (by decide),fun h5 himp=>?_⟩⟩⟩⟩⟩⟩
 simp only [LN] at h1 h5
 have e:∀ x g:Int,0≤x∧x≤100000→0≤g∧g≤20000→0≤w64 (x+g):=fun x g h1 h2=>by rw [jj (by omega) (by omega)]; omega
 have h6:0≤grace∧grace≤20000:=by simp only [LN] at h3; omega
 refine himp ⟨by omega,⟨e _ _ h5.1 h6,by omega⟩,hr h1.1.1.1⟩
theorem zhc (r:jg) (b:vP) (seen:Int) (grace:Int):(fun (x:Int × Int)=>x.2=0→0≤x.1∧x.1≤100001) (zjI r b seen grace):=have h:=Sk.pval _ (ziS r b seen grace); h
theorem zkh (r:jg) (b:vP) (seen:Int) (grace:Int) (h_r_Small:r.Small):(Jc r b seen grace).obs (fun _=>True):=by
 simp only [jh.Small,jg.Small,jg.HaltOK] at h_r_Small
 unfold Jc
 try simp only [ye,VH,Wo,KT,Jk,VW,WT,WV,Hg,jh.Small,jg.Small,jg.HaltOK]
 exact okG
def zdd (r:jg) (b:vP) (seen:Int) (grace:Int):Ctr (Int × Int):=kk tok mixed Tryz.func74 [av r.cells,av b.cells,iv seen,iv grace] (fun x=>.tup [iv x.1,iv x.2]) true (Jc r b seen grace) (zjI r b seen grace) (fun (h:(r.Small))=>zkh r b seen grace h) (fun (x:Int × Int)=>x.2=0→0≤x.1∧x.1≤100001) (zhc r b seen grace)
def JI (r:jg) (forum:Int) (f:jh) (day:Int):Sk (Int) :=
 .r 1 ((jt f day).c) fun x1 =>
 .br (((x1.signs.length:Nat):Int) == 0)
 (.fin (-1))
 (.r 4 (.dep ((JR r forum 6 x1 day).c) fun x2=>(Ky x2).c) fun p7 =>
 .r 5 (.dep ((QG x1).c) fun x4=>(zdd r x1.bill x4 (jP p7.2 0)).c) fun p6 =>
 .br (p6.2.2 != 0)
 (.fin (-1))
 (.fin p6.2.1))
def gX (r:jg) (forum:Int) (f:jh) (day:Int):Int:=(JI r forum f day).val
theorem zd3 (r:jg) (forum:Int) (f:jh) (day:Int) (h_f_Small:f.Small) (h_r_ByOK:r.ByOK) (h_r_Small:r.Small):(JI r forum f day).obs (fun _=>True):=by
 simp only [jh.Small,jg.Small,jg.ByOK] at h_f_Small
 simp only [jh.Small,jg.Small,jg.ByOK] at h_r_ByOK
 simp only [jh.Small,jg.Small,jg.ByOK] at h_r_Small
 unfold JI
 try simp only [JR,Ky,jt,QG,zdd,jh.Small,jg.Small,jg.ByOK]
 exact okD
def jO (r:jg) (forum:Int) (f:jh) (day:Int):Ctr (Int):=kk tok mixed Tryz.func49 [av r.cells,iv forum,av f.cells,iv day] (fun x=>iv x) true (JI r forum f day) (gX r forum f day) (fun (h:(f.Small)∧(r.ByOK)∧(r.Small))=>zd3 r forum f day h.1 h.2.1 h.2.2)
def Qe (r:jg) (forum:Int) (f:jh) (day:Int):Sk (kV × Bool) :=
 .br ((decide (forum < 0))||(decide (forum≥((r.orders.length:Nat):Int))))
 (.fin (({ view:=({ all:=({ bill:=({ drawer:=0,drawee:=0,payee:=0,sum:=0,currency:=0,tenor:=({ kind:=0,n:=0,unit:=0 }:uT),day:=0,city:=0,pay:=0,need:=0,rate:=0,flags:=0,parts:=0 }:vP),signs:=[],alters:=[],acts:=[],facts:=[] }:jh),now:=({ bill:=({ drawer:=0,drawee:=0,payee:=0,sum:=0,currency:=0,tenor:=({ kind:=0,n:=0,unit:=0 }:uT),day:=0,city:=0,pay:=0,need:=0,rate:=0,flags:=0,parts:=0 }:vP),signs:=[],alters:=[],acts:=[],facts:=[] }:jh),day:=0,lead:=[] }:kM),r:=({ currencies:=[],cities:=[],groups:=[],firms:=[],orders:=[],usances:=[],rates:=[],halts:=[] }:jg),forum:=0,due:=0 }:kV),false))
 (.r 3 (.dep ((FZ f day).c) fun _=>(jO r forum f day).c) fun p3 =>
 .fin (({ view:=p3.1,r:=r,forum:=forum,due:=p3.2 }:kV),true))
def jv (r:jg) (forum:Int) (f:jh) (day:Int):kV × Bool:=(Qe r forum f day).val
theorem zk4 (r:jg) (forum:Int) (f:jh) (day:Int):(Qe r forum f day).pst (fun (x:kV × Bool)=>x.2=true→x.1=⟨jW f day,r,forum,gX r forum f day⟩∧0≤forum∧forum < (r.orders.length:Int)):=by
 unfold Qe
 try simp only [jO,FZ,jh.Small,jg.Small,jg.ByOK]
 exact okP
theorem Wh (r:jg) (forum:Int) (f:jh) (day:Int):(fun (x:kV × Bool)=>x.2=true→x.1=⟨jW f day,r,forum,gX r forum f day⟩∧0≤forum∧forum < (r.orders.length:Int)) (jv r forum f day):=have h:=Sk.pval _ (zk4 r forum f day); h
theorem znx (r:jg) (forum:Int) (f:jh) (day:Int) (h_f_Small:f.Small) (h_r_ByOK:r.ByOK) (h_r_Small:r.Small):(Qe r forum f day).obs (fun _=>True):=by
 simp only [jh.Small,jg.Small,jg.ByOK] at h_f_Small
 simp only [jh.Small,jg.Small,jg.ByOK] at h_r_ByOK
 simp only [jh.Small,jg.Small,jg.ByOK] at h_r_Small
 unfold Qe
 try simp only [jO,FZ,jh.Small,jg.Small,jg.ByOK]
 exact okD
def zcb (r:jg) (forum:Int) (f:jh) (day:Int):Ctr (kV × Bool):=kk tok mixed Tryz.func114 [av r.cells,iv forum,av f.cells,iv day] (fun x=>.tup [av x.1.cells,bv x.2]) false (Qe r forum f day) (jv r forum f day) (fun (h:(f.Small)∧(r.ByOK)∧(r.Small))=>znx r forum f day h.1 h.2.1 h.2.2) (fun (x:kV × Bool)=>x.2=true→x.1=⟨jW f day,r,forum,gX r forum f day⟩∧0≤forum∧forum < (r.orders.length:Int)) (Wh r forum f day)
structure ke where
 sign:Int
 kind:Int
 firm:Int
 binds:Int
 text:Int
 sum:Int
 recourse:Bool
 deriving Inhabited
def ke.cells (c:ke):List D:=[dI c.sign,dI c.kind,dI c.firm,dI c.binds,dI c.text,dI c.sum,dB c.recourse]
def ke.E:Enc ke:=⟨ke.cells,7,fun _=>rfl,fun _=>rfl⟩
structure vR where
 r:jg
 forum:Int
 day:Int
 f:jh
 form:Int
 due:Int
 deriving Inhabited
def vR.cells (c:vR):List D:=c.r.cells++[dI c.forum,dI c.day]++c.f.cells++[dI c.form,dI c.due]
def vR.E:Enc vR:=⟨vR.cells,31,fun _=>rfl,fun _=>rfl⟩
def GU (s:Said):Sk (Int) :=
 .br (s.err != 0)
 (.fin 0)
 (.br (!s.cell.known)
 (.fin 2)
 (.br (s.cell.n != 0)
 (.fin 1)
 (.fin 0)))
def zrb (s:Said):Int:=(GU s).val
theorem zmY (s:Said):(GU s).obs (fun _=>True):=by
 unfold GU
 exact okE
def qF (s:Said):Ctr (Int):=kk tok mixed Tryz.func50 [av s.cells] (fun x=>iv x) true (GU s) (zrb s) (fun (_:True)=>zmY s)
def gP (r:jg) (forum:Int) (f:jh) (day:Int):Sk (vR) :=
 .r 1 ((jt f day).c) fun x1 =>
 .r 2 (.dep ((JR r forum 0 x1 day).c) fun x2=>.dep ((qF x2).c) fun _=>(jO r forum x1 day).c) fun p5 =>
 .fin ({ r:=r,forum:=forum,day:=day,f:=x1,form:=p5.2.1,due:=p5.2.2 }:vR)
def ziZ (r:jg) (forum:Int) (f:jh) (day:Int):vR:=(gP r forum f day).val
theorem zhO (r:jg) (forum:Int) (f:jh) (day:Int):(gP r forum f day).pst (fun (x:vR)=>x.f=ji f day∧x.r=r):=by
 unfold gP
 try simp only [JR,jO,qF,jt,jh.Small,jg.Small,jg.ByOK]
 exact okP
theorem zhb (r:jg) (forum:Int) (f:jh) (day:Int):(fun (x:vR)=>x.f=ji f day∧x.r=r) (ziZ r forum f day):=have h:=Sk.pval _ (zhO r forum f day); h
theorem zkr (r:jg) (forum:Int) (f:jh) (day:Int) (h_f_Small:f.Small) (h_r_ByOK:r.ByOK) (h_r_Small:r.Small):(gP r forum f day).obs (fun _=>True):=by
 simp only [jh.Small,jg.Small,jg.ByOK] at h_f_Small
 simp only [jh.Small,jg.Small,jg.ByOK] at h_r_ByOK
 simp only [jh.Small,jg.Small,jg.ByOK] at h_r_Small
 unfold gP
 try simp only [JR,jO,qF,jt,jh.Small,jg.Small,jg.ByOK]
 exact okD
def Kd (r:jg) (forum:Int) (f:jh) (day:Int):Ctr (vR):=kk tok mixed Tryz.func144 [av r.cells,iv forum,av f.cells,iv day] (fun x=>av x.cells) false (gP r forum f day) (ziZ r forum f day) (fun (h:(f.Small)∧(r.ByOK)∧(r.Small))=>zkr r forum f day h.1 h.2.1 h.2.2) (fun (x:vR)=>x.f=ji f day∧x.r=r) (zhb r forum f day)
def JO (f:jh) (day:Int):Sk ((List (Int × Bool))) :=
 .r 1 (.o [.nrmm (mkM dB)]) fun _ =>
 .bind true (fun _=>True)
 (.loop (default:Sum ((List (Int × Bool))) ((List (Int × Bool)))) (fun i2=>i2.1≤f.acts.length) (fun i2=>f.acts.length - i2.1) ((0,([]:List (Int × Bool))):Nat × (List (Int × Bool)))
 (fun (i2:Nat × (List (Int × Bool)))=>⟨[(12,iv (i2.1:Int))],[(8,mpM dB i2.2)]⟩) fun i2 =>
 .bnd 10 0 f.acts.length <|
 .br (decide ((i2.1:Int) < ((f.acts.length:Nat):Int)))
 (.r 4 (.p (ixP (i2.1:Int) f.acts.length)) fun _ =>
 .br ((((f.acts.getD i2.1 default).kind) == 7)&&(decide (((f.acts.getD i2.1 default).day)≤day)))
 (.r 6 (.andl (.t (Jg dB i2.2)) (.o [.nrmm (zns dB i2.2 ((f.acts.getD i2.1 default).at_) true)])) fun _ =>
 .r 7 .z fun _ =>
 .wi 12 (w64 ((i2.1:Int)+1)) ((i2.1+1:Nat):Int) <|
 .fin (.inr (i2.1+1,yZ i2.2 ((f.acts.getD i2.1 default).at_) true)))
 (.r 7 .z fun _ =>
 .wi 12 (w64 ((i2.1:Int)+1)) ((i2.1+1:Nat):Int) <|
 .fin (.inr (i2.1+1,i2.2))))
 (.fin (.inl (.inr i2.2))))
 (fun (b1:(List (Int × Bool)))=>⟨[],[(8,mpM dB b1)]⟩) fun b1 =>
 .fin b1
def qy (f:jh) (day:Int):(List (Int × Bool)):=(JO f day).val
theorem zdJ (f:jh) (day:Int):(JO f day).obs (fun _=>True):=by
 unfold JO
 exact okD
def KK (f:jh) (day:Int):Ctr ((List (Int × Bool))):=kk tok mixed Tryz.func214 [av f.cells,iv day] (fun x=>pmM dB x) false (JO f day) (qy f day) (fun (_:True)=>zdJ f day)
def JK (f:jh) (sign:Int) (day:Int):Sk (Bool) :=
 .r 1 (.depr (.wh ((decide (sign≥0))&&(decide (sign < ((f.signs.length:Nat):Int)))) true ((KK f day).c)) fun x1=>.wh ((decide (sign≥0))&&(decide (sign < ((f.signs.length:Nat):Int)))) true (.andl (.t (Jg dB x1)) (.o [.cast 21 (zlF dB x1 sign false)]))) fun x1 =>
 .fin (((decide (sign≥0))&&(decide (sign < ((f.signs.length:Nat):Int))))&&(kf x1 sign false))
def zkZ (f:jh) (sign:Int) (day:Int):Bool:=(JK f sign day).val
theorem zdo (f:jh) (sign:Int) (day:Int):(JK f sign day).obs (fun _=>True):=by
 unfold JK
 try simp only [KK]
 exact okE
def VU (f:jh) (sign:Int) (day:Int):Ctr (Bool):=kk tok mixed Tryz.func178 [av f.cells,iv sign,iv day] (fun x=>bv x) true (JK f sign day) (zkZ f sign day) (fun (_:True)=>zdo f sign day)
def yE (v:vR) (question:Int) (sign:Int):Sk (Int) :=
 .r 2 (.dep ((qE v.r v.forum question ({ file:=v.f,sign:=sign,holder:=sign,defence:=(-1),due:=v.due,day:=v.day }:ka)).c) fun x1=>(qF x1).c) fun p3 =>
 .fin p3.2
def zfF (v:vR) (question:Int) (sign:Int):Int:=(yE v question sign).val
theorem zao (v:vR) (question:Int) (sign:Int) (h_v_f_Small:v.f.Small) (h_v_r_ByOK:v.r.ByOK) (h_v_r_Small:v.r.Small):(yE v question sign).obs (fun _=>True):=by
 unfold yE
 try simp only [qE,qF]
 exact okD
def qV (v:vR) (question:Int) (sign:Int):Ctr (Int):=kk tok mixed Tryz.func179 [av v.cells,iv question,iv sign] (fun x=>iv x) true (yE v question sign) (zfF v question sign) (fun (h:(v.f.Small)∧(v.r.ByOK)∧(v.r.Small))=>zao v question sign h.1 h.2.1 h.2.2)
def jn:List Int→Int→Int
 | [],o=>o
 | x :: r,o=>if x=0 then 0 else if x=2 then jn r 2 else jn r o
theorem zbp {l:List Int} {n:Nat} (h:n < l.length) (o:Int):jn (l.drop n) o=if l.getD n default=0 then 0 else if l.getD n default=2 then jn (l.drop (n+1)) 2 else jn (l.drop (n+1)) o:=by
 rw [List.drop_eq_getElem_cons h]
 simp only [jn,List.getD,List.getElem?_eq_getElem h,Option.getD_some]
def gC (l:List Int):Sk (Int) :=
 .bind true (fun b1=>b1=jn l 1)
 (.loop (default:Sum (Int) (Int)) (fun i2=>i2.2≤l.length∧jn l 1=jn (l.drop i2.2) i2.1) (fun i2=>l.length - i2.2) ((1,0):Int × Nat)
 (fun (i2:Int × Nat)=>⟨[(3,iv i2.1),(8,iv (i2.2:Int))],[]⟩) fun i2 =>
 .bnd 6 0 l.length <|
 .br (decide ((i2.2:Int) < ((l.length:Nat):Int)))
 (.r 4 (.p (ixP (i2.2:Int) l.length)) fun _ =>
 .br ((l.getD i2.2 default) == 0)
 (.fin (.inl (.inl 0)))
 (.br ((l.getD i2.2 default) == 2)
 (.r 9 .z fun _ =>
 .wi 8 (w64 ((i2.2:Int)+1)) ((i2.2+1:Nat):Int) <|
 .fin (.inr (2,i2.2+1)))
 (.r 9 .z fun _ =>
 .wi 8 (w64 ((i2.2:Int)+1)) ((i2.2+1:Nat):Int) <|
 .fin (.inr (i2.1,i2.2+1)))))
 (.fin (.inl (.inr i2.1))))
 (fun (b1:Int)=>⟨[(3,iv b1)],[]⟩) fun b1 =>
 .fin b1
def zja (l:List Int):Int:=(gC l).val
theorem zhR (l:List Int):(gC l).pst (fun (x:Int)=>x=jn l 1):=by
 refine Sk.pst_of _ ?_
 unfold gC
 simp only [Sk.pstq,Sk.isLoop,reduceCtorEq,ON,kk,maxLen]
 all_goals simp only [LN] at *
 refine ⟨⟨⟨Nat.zero_le _,by simp⟩,fun i hi=>⟨fun hc _=>⟨fun h=>?_,fun h=>⟨fun h2 _=>⟨⟨by omega,?_⟩,by omega⟩,fun h2 _=>⟨⟨by omega,?_⟩,by omega⟩⟩⟩,fun hc=>?_⟩⟩,fun b hb=>hb⟩
 ·rw [hi.2,zbp (by omega),if_pos h]
 ·rw [hi.2,zbp (by omega),if_neg h,if_pos h2]
 ·rw [hi.2,zbp (by omega),if_neg h,if_neg h2]
 ·rw [hi.2,List.drop_eq_nil_of_le (by omega)]; rfl
theorem XJ (l:List Int):(fun (x:Int)=>x=jn l 1) (zja l):=have h:=Sk.pval _ (zhR l); h
theorem zk1 (l:List Int):(gC l).obs (fun _=>True):=by
 refine Sk.obs_of _ ?_
 unfold gC
 simp only [Sk.obq,Sk.isLoop,reduceCtorEq,ON,kk,maxLen]
 all_goals simp only [LN] at *
 have wi:∀ n:Nat,n < l.length→l.length≤9223372036854775807→w64 ((n:Int)+1)=((n+1:Nat):Int):=fun n h h1=>by rw [jj (by omega) (by omega)]; omega
 refine ⟨⟨Nat.zero_le _,by simp⟩,fun i hi hm=>⟨fun hc=>⟨by omega,fun _ h=>⟨fun h2 _=>⟨wi _ (by omega) (by omega),⟨by omega,?_⟩,by omega⟩,fun h2 _=>⟨wi _ (by omega) (by omega),⟨by omega,?_⟩,by omega⟩⟩⟩,fun hc=>?_⟩⟩
 ·rw [hi.2,zbp (by omega),if_neg h,if_pos h2]
 ·rw [hi.2,zbp (by omega),if_neg h,if_neg h2]
 ·rw [hi.2,List.drop_eq_nil_of_le (by omega)]; rfl
def Zb (l:List Int):Ctr (Int):=kk tok mixed Tryz.func45 [lv jA l] (fun x=>iv x) true (gC l) (zja l) (fun (_:True)=>zk1 l) (fun (x:Int)=>x=jn l 1) (XJ l)
def uj (f:jh) (i:Int):Sk (Int) :=
 .bind true (fun b1=>f.SumOK→0≤b1∧b1≤1099511627776)
 (.loop (default:Sum (Int) (Int)) (fun i2=>i2.2≤f.alters.length∧(f.SumOK→0≤i2.1∧i2.1≤1099511627776)) (fun i2=>f.alters.length - i2.2) ((f.bill.sum,0):Int × Nat)
 (fun (i2:Int × Nat)=>⟨[(5,iv i2.1),(14,iv (i2.2:Int))],[]⟩) fun i2 =>
 .bnd 12 0 f.alters.length <|
 .br (decide ((i2.2:Int) < ((f.alters.length:Nat):Int)))
 (.r 4 (.p (ixP (i2.2:Int) f.alters.length)) fun _ =>
 .br (decide (((f.alters.getD i2.2 default).at_)≤i))
 (.r 7 .z fun _ =>
 .wi 14 (w64 ((i2.2:Int)+1)) ((i2.2+1:Nat):Int) <|
 .fin (.inr ((f.alters.getD i2.2 default).sum,i2.2+1)))
 (.r 7 .z fun _ =>
 .wi 14 (w64 ((i2.2:Int)+1)) ((i2.2+1:Nat):Int) <|
 .fin (.inr (i2.1,i2.2+1))))
 (.fin (.inl (.inr i2.1))))
 (fun (b1:Int)=>⟨[(5,iv b1)],[]⟩) fun b1 =>
 .fin b1
def zcU (f:jh) (i:Int):Int:=(uj f i).val
theorem zer (f:jh) (i:Int) (hP:f.SumOK):(uj f i).pst (fun (x:Int)=>0≤x∧x≤1099511627776):=by
 refine Sk.pst_of _ ?_
 unfold uj
 simp only [Sk.pstq,Sk.isLoop,reduceCtorEq,ON,kk,maxLen]
 refine ⟨⟨⟨Nat.zero_le _,fun h=>h.1⟩,fun i hi=>⟨fun hc _=>?_,fun _=>hi.2⟩⟩,fun b hb=>hb hP⟩
 simp only [LN] at hc
 exact ⟨fun _ _=>⟨⟨by omega,fun h=>h.2.1 _ (by omega)⟩,by omega⟩,fun _ _=>⟨⟨by omega,hi.2⟩,by omega⟩⟩
theorem zcG (f:jh) (i:Int):(fun (x:Int)=>(f.SumOK)→(0≤x∧x≤1099511627776)) (zcU f i):=fun hP=>Sk.pval _ (zer f i hP)
theorem zgv (f:jh) (i:Int):(uj f i).obs (fun _=>True):=by
 refine Sk.obs_of _ ?_
 unfold uj
 simp only [Sk.obq,Sk.isLoop,reduceCtorEq,ON,kk,maxLen]
 refine ⟨⟨Nat.zero_le _,fun h=>h.1⟩,fun i hi hm=>⟨fun hc=>?_,fun _=>hi.2⟩⟩
 simp only [LN] at hc
 have hw:w64 ((i.2:Int)+1)=((i.2+1:Nat):Int):=(jj (by omega) (by omega)).trans (by omega)
 exact ⟨by omega,fun _=>⟨fun _ _=>⟨hw,⟨by omega,fun h=>h.2.1 _ (by omega)⟩,by omega⟩,fun _ _=>⟨hw,⟨by omega,hi.2⟩,by omega⟩⟩⟩
def Yl (f:jh) (i:Int):Ctr (Int):=kk tok mixed Tryz.func215 [av f.cells,iv i] (fun x=>iv x) true (uj f i) (zcU f i) (fun (_:True)=>zgv f i) (fun (x:Int)=>(f.SumOK)→(0≤x∧x≤1099511627776)) (zcG f i)
def zp (v:vR) (sign:Int):Sk (Int × Int) :=
 .r 1 ((Yl v.f sign).c) fun x1 =>
 .bind true (fun b2=>b2=true→v.f.alters.length≠0)
 (.loop (default:Sum (Int × Int) (Bool)) (fun i3=>i3.2≤v.f.alters.length∧(i3.1=true→v.f.alters.length≠0)) (fun i3=>v.f.alters.length - i3.2) ((false,0):Bool × Nat)
 (fun (i3:Bool × Nat)=>⟨[(7,bv i3.1),(23,iv (i3.2:Int))],[]⟩) fun i3 =>
 .bnd 21 0 v.f.alters.length <|
 .br (decide ((i3.2:Int) < ((v.f.alters.length:Nat):Int)))
 (.r 6 (.p (ixP (i3.2:Int) v.f.alters.length)) fun _ =>
 .r 8 .z fun _ =>
 .wi 23 (w64 ((i3.2:Int)+1)) ((i3.2+1:Nat):Int) <|
 .fin (.inr (i3.1||(decide (((v.f.alters.getD i3.2 default).at_) > sign)),i3.2+1)))
 (.fin (.inl (.inr i3.1))))
 (fun (b2:Bool)=>⟨[(7,bv b2)],[]⟩) fun b2 =>
 .br (!b2)
 (.fin (0,x1))
 (.r 11 (.p (ixP (w64 (((v.f.alters.length:Nat):Int) - 1)) v.f.alters.length)) fun _ =>
 .r 12 ((qV v 4 sign).c) fun x4 =>
 .br (x4 == 1)
 (.fin (x4,(v.f.alters.getD ((w64 (((v.f.alters.length:Nat):Int) - 1)).toNat) default).sum))
 (.br (x4 == 2)
 (.fin (x4,qI x1 ((v.f.alters.getD ((w64 (((v.f.alters.length:Nat):Int) - 1)).toNat) default).sum)))
 (.fin (x4,x1))))
def XY (v:vR) (sign:Int):Int × Int:=(zp v sign).val
theorem Bn (v:vR) (sign:Int) (hP:v.f.SumOK∧v.f.Small):(zp v sign).pst (fun (x:Int × Int)=>0≤x.2∧x.2≤1099511627776):=by
 refine Sk.pst_of _ ?_
 unfold zp
 simp only [Sk.pstq,Sk.isLoop,reduceCtorEq,ON,kk,qV,Yl,maxLen]
 intro x _ hx
 have hx:=hx hP.1
 refine ⟨⟨Nat.zero_le _,fun i hi=>⟨fun hc _ _=>?_,fun _=>hi.2⟩⟩,fun b hb=>⟨fun _=>hx,fun hb2 _ y _=>?_⟩⟩
 ·simp only [LN] at hc
  exact ⟨⟨by omega,fun _=>by omega⟩,by omega⟩
 ·have hn:=hb (by simpa using hb2)
  have hl:=hP.2.2.1
  rw [jj (by omega) (by omega)]
  obtain ⟨h1,h2⟩:=hP.1.2.1 ((v.f.alters.length:Int) - 1).toNat (by omega)
  refine ⟨fun _=>⟨h1,h2⟩,fun _=>⟨fun _=>?_,fun _=>hx⟩⟩
  unfold qI
  split <;> omega
theorem Fx (v:vR) (sign:Int):(fun (x:Int × Int)=>(v.f.SumOK∧v.f.Small)→(0≤x.2∧x.2≤1099511627776)) (XY v sign):=fun hP=>Sk.pval _ (Bn v sign hP)
theorem zaA (v:vR) (sign:Int) (h_v_f_Small:v.f.Small) (h_v_r_ByOK:v.r.ByOK) (h_v_r_Small:v.r.Small):(zp v sign).obs (fun _=>True):=by
 refine Sk.obs_of _ ?_
 unfold zp
 simp only [Sk.obq,Sk.isLoop,reduceCtorEq,ON,kk,qV,Yl,maxLen]
 intro x _ _
 refine ⟨⟨Nat.zero_le _,fun i hi hm=>⟨fun hc=>?_,fun _=>hi.2⟩⟩,fun b hb hb2=>?_⟩
 ·simp only [LN] at hc
  exact ⟨by omega,fun _ _=>⟨(jj (by omega) (by omega)).trans (by omega),⟨by omega,fun _=>by omega⟩,by omega⟩⟩
 ·have hn:=hb (by simpa using hb2)
  have hl:=h_v_f_Small.2.1
  rw [jj (by omega) (by omega)]
  exact ⟨by omega,fun _=>⟨h_v_f_Small,h_v_r_ByOK,h_v_r_Small⟩⟩
def Qh (v:vR) (sign:Int):Ctr (Int × Int):=kk tok mixed Tryz.func180 [av v.cells,iv sign] (fun x=>.tup [iv x.1,iv x.2]) true (zp v sign) (XY v sign) (fun (h:(v.f.Small)∧(v.r.ByOK)∧(v.r.Small))=>zaA v sign h.1 h.2.1 h.2.2) (fun (x:Int × Int)=>(v.f.SumOK∧v.f.Small)→(0≤x.2∧x.2≤1099511627776)) (Fx v sign)
def qG (v:vR) (sign:Int):Sk (ke) :=
 .r 1 (.p (ixP sign v.f.signs.length)) fun _ =>
 .r 3 ((VU v.f sign v.day).c) fun x1 =>
 .bind false (fun _=>True)
 (.br (!x1)
 (.r 4 (.dep ((qV v 1 sign).c) fun x3=>.dep ((qV v 2 sign).c) fun x4=>.andl (.o [.nrm (qt ky [v.form,x3,x4])]) ((Zb [v.form,x3,x4]).c)) fun p6 =>
 .fin (.inr p6.2.2))
 (.fin (.inr 0)))
 (fun (b2:Int)=>⟨[],[(6,.box [iv sign,iv ((v.f.signs.getD sign.toNat default).kind),iv ((v.f.signs.getD sign.toNat default).who),iv b2,iv 0,iv 0,bv ((((v.f.signs.getD sign.toNat default).kind) != 1)&&((kY .i64 ((v.f.signs.getD sign.toNat default).flags) 1) == 0))])]⟩) fun b2 =>
 .r 5 ((Qh v sign).c) fun x7 =>
 .br ((((v.f.signs.getD sign.toNat default).kind) == 1)||(((v.f.signs.getD sign.toNat default).kind) == 4))
 (.fin ({ sign:=sign,kind:=(v.f.signs.getD sign.toNat default).kind,firm:=(v.f.signs.getD sign.toNat default).who,binds:=b2,text:=x7.1,sum:=qI x7.2 ((v.f.signs.getD sign.toNat default).sum),recourse:=(((v.f.signs.getD sign.toNat default).kind) != 1)&&((kY .i64 ((v.f.signs.getD sign.toNat default).flags) 1) == 0) }:ke))
 (.fin ({ sign:=sign,kind:=(v.f.signs.getD sign.toNat default).kind,firm:=(v.f.signs.getD sign.toNat default).who,binds:=b2,text:=x7.1,sum:=x7.2,recourse:=(((v.f.signs.getD sign.toNat default).kind) != 1)&&((kY .i64 ((v.f.signs.getD sign.toNat default).flags) 1) == 0) }:ke))
def GL (v:vR) (sign:Int):ke:=(qG v sign).val
theorem HH (v:vR) (sign:Int) (hP:v.f.SumOK∧v.f.Small∧0≤sign∧sign < (v.f.signs.length:Int)):(qG v sign).pst (fun (x:ke)=>0≤x.sum∧x.sum≤1099511627776):=by
 refine Sk.pst_of _ ?_
 unfold qG
 simp only [Sk.pstq,Sk.isLoop,reduceCtorEq,ON,kk,Zb,qV,Qh,VU,maxLen]
 intro _ x _ b _ y _ hy
 have hy:=hy ⟨hP.1,hP.2.1⟩
 obtain ⟨h1,h2⟩:=hP.1.2.2.1 sign.toNat (by omega)
 exact ⟨fun _=>by unfold qI; split <;> omega,fun _=>hy⟩
theorem Xn (v:vR) (sign:Int):(fun (x:ke)=>(v.f.SumOK∧v.f.Small∧0≤sign∧sign < (v.f.signs.length:Int))→(0≤x.sum∧x.sum≤1099511627776)) (GL v sign):=fun hP=>Sk.pval _ (HH v sign hP)
theorem FD (v:vR) (sign:Int) (hs:0≤sign∧sign < (v.f.signs.length:Int)) (h_v_f_Small:v.f.Small) (h_v_r_ByOK:v.r.ByOK) (h_v_r_Small:v.r.Small):(qG v sign).obs (fun _=>True):=by
 unfold qG
 try simp only [Zb,qV,Qh,VU]
 exact okD
def qU (v:vR) (sign:Int):Ctr (ke):=kk tok mixed Tryz.func145 [av v.cells,iv sign] (fun x=>av x.cells) true (qG v sign) (GL v sign) (fun (h:(0≤sign∧sign < (v.f.signs.length:Int))∧(v.f.Small)∧(v.r.ByOK)∧(v.r.Small))=>FD v sign h.1 h.2.1 h.2.2.1 h.2.2.2) (fun (x:ke)=>(v.f.SumOK∧v.f.Small∧0≤sign∧sign < (v.f.signs.length:Int))→(0≤x.sum∧x.sum≤1099511627776)) (Xn v sign)
def vq (r:jg) (forum:Int) (f:jh) (day:Int):Sk ((List ke)) :=
 .r 1 ((Kd r forum f day).c) fun x1 =>
 .bind true (fun b2=>b2.length=x1.f.signs.length)
 (.loop (default:Sum ((List ke)) ((List ke))) (fun i3=>i3.2≤x1.f.signs.length∧i3.1.length=i3.2) (fun i3=>x1.f.signs.length - i3.2) (([],0):(List ke) × Nat)
 (fun (i3:(List ke) × Nat)=>⟨[(10,ow 100002 i3.1),(21,iv (i3.2:Int))],[(100002,jy 244 7 ke.cells i3.1)]⟩) fun i3 =>
 .bnd 9 25 x1.f.signs.length <|
 .br (decide ((i3.2:Int) < ((x1.f.signs.length:Nat):Int)))
 (.r 6 (.depr ((qU x1 (i3.2:Int)).c) fun x4=>.andl (.o [.nrm (qt ke.E [x4])]) (.andl (.o [.nrm (Ji ke.E i3.1 [x4])]) (.andl (.t (ke.E.ones [x4])) (.p (szP i3.1.length [x4].length 56))))) fun x4 =>
 .r 7 .z fun _ =>
 .wi 21 (w64 ((i3.2:Int)+1)) ((i3.2+1:Nat):Int) <|
 .fin (.inr (i3.1++[x4],i3.2+1)))
 (.fin (.inl (.inr i3.1))))
 (fun (b2:(List ke))=>⟨[(10,ow 100001 b2)],[(100001,jy 244 7 ke.cells b2)]⟩) fun b2 =>
 .fin b2
def kB (r:jg) (forum:Int) (f:jh) (day:Int):(List ke):=(vq r forum f day).val
theorem zcs (r:jg) (forum:Int) (f:jh) (day:Int):(vq r forum f day).pst (fun (x:(List ke))=>x.length=(ji f day).signs.length):=by
 unfold vq
 try simp only [Kd,qU]
 exact okP
theorem zaj (r:jg) (forum:Int) (f:jh) (day:Int):(fun (x:(List ke))=>x.length=(ji f day).signs.length) (kB r forum f day):=have h:=Sk.pval _ (zcs r forum f day); h
theorem zdK (r:jg) (forum:Int) (f:jh) (day:Int) (h_f_Small:f.Small) (h_r_ByOK:r.ByOK) (h_r_Small:r.Small):(vq r forum f day).obs (fun _=>True):=by
 refine Sk.obs_of _ ?_
 unfold vq
 simp only [Sk.obq,Sk.isLoop,reduceCtorEq,ON,kk,Kd,qU,maxLen]
 refine ⟨⟨h_f_Small,h_r_ByOK,h_r_Small⟩,fun x _ hx=>?_⟩
 have hS:x.f.Small:=by rw [hx.1]; exact HC h_f_Small day
 have hB:x.r.ByOK:=by rw [hx.2]; exact h_r_ByOK
 have hR:x.r.Small:=by rw [hx.2]; exact h_r_Small
 have hS1:=hS.1
 all_goals exact okT
def Uk (r:jg) (forum:Int) (f:jh) (day:Int):Ctr ((List ke)):=kk tok mixed Tryz.func115 [av r.cells,iv forum,av f.cells,iv day] (fun x=>lv ke.cells x) false (vq r forum f day) (kB r forum f day) (fun (h:(f.Small)∧(r.ByOK)∧(r.Small))=>zdK r forum f day h.1 h.2.1 h.2.2) (fun (x:(List ke))=>x.length=(ji f day).signs.length) (zaj r forum f day)
structure YR where
 signs:List Int
 holder:Int
 broken:Int
 bearer:Bool
 agent:Int
 late:List Int
 deriving Inhabited
def YR.cells (c:YR):List D:=[slD jA c.signs,dI c.holder,dI c.broken,dB c.bearer,dI c.agent,slD jA c.late]
def YR.E:Enc YR:=⟨YR.cells,6,fun _=>rfl,fun _=>rfl⟩
def vt (f:jh) (day:Int):Sk (Int × Bool) :=
 .bind true (fun _=>True)
 (.loop (default:Sum (Int × Bool) (Int × Bool)) (fun i2=>i2.2.2≤f.acts.length) (fun i2=>f.acts.length - i2.2.2) ((0,false,0):Int × Bool × Nat)
 (fun (i2:Int × Bool × Nat)=>⟨[(6,iv i2.1),(7,bv i2.2.1),(13,iv (i2.2.2:Int))],[]⟩) fun i2 =>
 .bnd 11 0 f.acts.length <|
 .br (decide ((i2.2.2:Int) < ((f.acts.length:Nat):Int)))
 (.r 4 (.p (ixP (i2.2.2:Int) f.acts.length)) fun _ =>
 .br ((((((f.acts.getD i2.2.2 default).kind) != 1)&&(((f.acts.getD i2.2.2 default).kind) != 3))&&(((f.acts.getD i2.2.2 default).kind) != 4))||(decide (((f.acts.getD i2.2.2 default).day) > day)))
 (.r 8 .z fun _ =>
 .wi 13 (w64 ((i2.2.2:Int)+1)) ((i2.2.2+1:Nat):Int) <|
 .fin (.inr (i2.1,i2.2.1,i2.2.2+1)))
 (.br ((!i2.2.1)||(decide (((f.acts.getD i2.2.2 default).day) < i2.1)))
 (.r 8 .z fun _ =>
 .wi 13 (w64 ((i2.2.2:Int)+1)) ((i2.2.2+1:Nat):Int) <|
 .fin (.inr ((f.acts.getD i2.2.2 default).day,true,i2.2.2+1)))
 (.r 8 .z fun _ =>
 .wi 13 (w64 ((i2.2.2:Int)+1)) ((i2.2.2+1:Nat):Int) <|
 .fin (.inr (i2.1,i2.2.1,i2.2.2+1)))))
 (.fin (.inl (.inr (i2.1,i2.2.1)))))
 (fun (b1:Int × Bool)=>⟨[(6,iv b1.1),(7,bv b1.2)],[]⟩) fun b1 =>
 .fin (b1.1,b1.2)
def vH (f:jh) (day:Int):Int × Bool:=(vt f day).val
theorem XT (f:jh) (day:Int):(vt f day).obs (fun _=>True):=by
 unfold vt
 exact okD
def ub (f:jh) (day:Int):Ctr (Int × Bool):=kk tok mixed Tryz.func181 [av f.cells,iv day] (fun x=>.tup [iv x.1,bv x.2]) true (vt f day) (vH f day) (fun (_:True)=>XT f day)
def vd (f:jh) (part:Int) (day:Int):Sk (Unit) :=
 .fin ()
def VY (f:jh) (part:Int) (day:Int):Unit:=(vd f part day).val
theorem Qc (f:jh) (part:Int) (day:Int):VY f part day=():=rfl
theorem Xr (f:jh) (part:Int) (day:Int):(vd f part day).obs (fun _=>True):=by
 unfold vd
 exact okE
def vE (f:jh) (part:Int) (day:Int):Ctr (Unit):=kk tok mixed Tryz.func182 [av f.cells,iv part,iv day] (fun x=>.fn 216 [.ref f.cells,.ref [dI day],.ref [dI part]]) false (vd f part day) (VY f part day) (fun (_:True)=>Xr f part day)
end
end Go.Proofs.YtilbddpghnnmhaaGreatDoor
namespace Go.Proofs.YtilbddpghnnmhaaGreatDoor
noncomputable section
open Go Go.Av
set_option linter.unusedSimpArgs false
set_option linter.unusedVariables false
set_option maxHeartbeats 1000000
set_option maxRecDepth 100000
def zbn (f:jh) (day part:Int) (i:Nat):Bool :=
 ((((f.signs.getD i default).kind == 2)&&((f.signs.getD i default).part == part))&&decide ((f.signs.getD i default).day≤day))&&!(kf (qy f day) ((i:Nat):Int) false)
def jJ (f:jh) (day part:Int):List (Int × ql):=((List.range f.signs.length).filter (zbn f day part)).map fun i=>(((i:Nat):Int),f.signs.getD i default)
def zhk (y:Int × ql):List AV:=[iv y.1,av y.2.cells]
def zsI:Code:=Tryz.f216.body.getD .skip
def znH:Code:=cA (cA (cB (cB zsI)))
def zlO:Code:=cA (cB (cB znH))
def znm:Array Oper:=opsOf (cA (cB (cA zlO)))
def zqu (f:jh) (day part:Int) (m:List (Int × Bool)) (i:Nat):List (Nat × AV):=[(2,.ref [dI day]),(3,.ref [dI part]),(5,pmM dB m),(12,lv ql.cells f.signs),(13,iv ((f.signs.length:Nat):Int)),(14,iv ((i:Nat):Int))]
def VI (f:jh) (day part:Int) (i:Nat):Nat:=((List.range i).filter (zbn f day part)).length
def zqG:List Item:=[.code (cB (cB (cA zlO))),.inBlock 1,.code (cB (cB (cB znH))),.inLoop znH,.inBlock 0]
theorem znc (f:jh) (day part:Int) {i:Nat} (hi:i < f.signs.length) (h:zbn f day part i=true):((jJ f day part).map zhk)[VI f day part i]? = some (zhk (((i:Nat):Int),f.signs.getD i default)):=by
 have e:List.range f.signs.length=List.range i++i :: (List.range' (i+1) (f.signs.length - i - 1)):=by
  rw [List.range_eq_range',List.range_eq_range']
  have h1:=List.range'_append (s:=0) (m:=i) (n:=f.signs.length - i) (step:=1)
  have h2:f.signs.length - i=(f.signs.length - i - 1)+1:=by omega
  rw [show f.signs.length=i+(f.signs.length - i) by omega,← h1,h2,List.range'_succ]
  simp
 unfold jJ VI
 rw [e,List.filter_append,List.filter_cons_of_pos h]
 simp
theorem zlj (f:jh) (day part:Int) (i:Nat):VI f day part (i+1)=bif zbn f day part i then VI f day part i+1 else VI f day part i:=by
 unfold VI
 rw [List.range_succ,List.filter_append]
 cases h:zbn f day part i <;> simp [h]
def BT (q:Nat):Oper:=znm.getD q default
def znO (f:jh) (day part:Int) (i:Nat) (sl:List (Nat × AV)):St:=⟨sl++[(6,iv ((i:Nat):Int)),(7,.ptr 7 0)]++zqu f day part (qy f day) i,[(7,.box ((f.signs.getD i default).cells.map .d))]⟩
def zcR (f:jh) (i:Nat):Sk Bool :=
 .bnd 12 0 f.signs.length <| .br (decide (((i:Nat):Int) < ((f.signs.length:Nat):Int))) (.r 3 (.p (ixP ((i:Nat):Int) f.signs.length)) fun _=>.fin true) (.fin false)
def zrl (f:jh) (i:Nat):Sk Unit :=
 .bnd 12 0 f.signs.length <| .brf <| .r 5 .z fun _=>.wi 14 (w64 (((i:Nat):Int)+1)) ((i+1:Nat):Int) <| .fin ()
def zqD (f:jh) (day part:Int) (i:Nat):Cal Unit :=
 .wh ((((f.signs.getD i default).kind == 2)&&((f.signs.getD i default).part == part))&&decide ((f.signs.getD i default).day≤day)) true (.andl (.t (Jg dB (qy f day))) (.o [.cast 37 (zlF dB (qy f day) ((i:Nat):Int) false)]))
theorem UC (f:jh) (day part:Int):ItA Tryz.prog 216 [.ref f.cells,.ref [dI day],.ref [dI part]] ((jJ f day part).map zhk):=by
 refine ItA.intro (T:=TT) Tryz.func216 rfl (by kernel_rfl) (Nat.le_of_ble_eq_true (by kernel_rfl)) (fun X=>?_)
 have hr4:cA (cB (cA zlO))=.region 4 znm false:=by kernel_rfl
 have hrg:List.range' 22 (znm.size - 22)=[22,23,24,25,26,27]:=by kernel_rfl
 have key:∀ d i,i+d=f.signs.length→G (X.g TT Tryz.f216 (X.H (VI f day part i))) [.code znH,.inLoop znH,.inBlock 0] ⟨zqu f day part (qy f day) i,[]⟩:=by
  intro d
  induction d with
  | zero =>
   intro i hi
   refine ItX.sk tok mixed Tryz.func216 _ (zcR f i) (fun b=>bif b then .go (.code (cA (cB (cA zlO))) :: zqG) (znO f day part i []) else .go [] ⟨[],[]⟩) 100 (by kernel_rfl) ?_ ?_
   ·refine Sk.obs_of _ ?_
    simp only [zcR,Sk.obq,Cal.p,ixP,implies_true,and_true]
    intro h hd
    simp at hd
    omega
   ·intro a ha
    have:(zcR f i).val=false:=by simp only [zcR,Sk.val]; simp; omega
    rw [this] at ha
    subst ha
    refine (ItX.ret Tryz.func216 (by kernel_rfl) (fun C h=>.inl ?_)).1
    have e:VI f day part i=((jJ f day part).map zhk).length:=by
     have:i=f.signs.length:=by omega
     subst this
     simp [VI,jJ]
    rw [← e]
    exact h
  | succ d ih =>
   intro i hi
   have hlt:i < f.signs.length:=by omega
   refine ItX.sk tok mixed Tryz.func216 _ (zcR f i) (fun b=>bif b then .go (.code (cA (cB (cA zlO))) :: zqG) (znO f day part i []) else .go [] ⟨[],[]⟩) 100 (by kernel_rfl) ?_ ?_
   ·refine Sk.obs_of _ ?_
    simp only [zcR,Sk.obq,Cal.p,ixP,implies_true,and_true]
    intro _ _
    omega
   ·intro a ha
    have:(zcR f i).val=true:=by simp only [zcR,Sk.val]; simp; omega
    rw [this] at ha
    subst ha
    show G _ _ _
    rw [hr4]
    -- behind the yield
    have next:∀ st,LeS st ⟨(46,bv false) :: zqu f day part (qy f day) i,[]⟩→G (X.g TT Tryz.f216 (X.H (VI f day part (i+1)))) zqG st:=by
     intro st hst
     refine .le hst ?_
     refine ItX.sk tok mixed Tryz.func216 _ (zrl f i) (fun _=>.go [.inLoop znH,.inBlock 0] ⟨zqu f day part (qy f day) (i+1),[]⟩) 100 (by kernel_rfl) ?_ (fun _ _=>.inLoop (ih (i+1) (by omega)))
     refine Sk.obs_of _ ?_
     simp only [zrl,Sk.obq,Cal.z,maxLen,implies_true,and_true]
     intro h
     refine ⟨trivial,fun _ _ _=>?_⟩
     refine (jj ?_ ?_).trans ?_ <;> omega
    refine G.yr ?_
    refine YW.preC tok mixed (zqD f day part i) 22 (fun _=>znO f day part i [(40,bv (zbn f day part i))]) (by kernel_rfl) (Nat.le_of_ble_eq_true (by kernel_rfl)) (fun _=>by kernel_rfl) ?_ ?_
    ·simp [zqD,Cal.wh,Cal.andl,Cal.t,Cal.o]
    rw [hrg]
    refine YW.know (s:=40) (b:=zbn f day part i) rfl (Nat.le_of_ble_eq_true (by kernel_rfl)) ?_
    have hcs:=zlj f day part i
    cases he:zbn f day part i with
    | true =>
     rw [he,cond_true] at hcs
     refine YW.mvC (o:=BT 22) (d:=41) (u:=0) (by kernel_rfl) (by kernel_rfl) (by kernel_rfl) (by simp) (by kernel_rfl) ?_
     refine YW.opC tok mixed (o:=BT 23) (znO f day part i [(42,iv ((i:Nat):Int))]) (by kernel_rfl) (by kernel_rfl) (by kernel_rfl) ?_
     refine YW.opC tok mixed (o:=BT 24) (znO f day part i [(43,av (f.signs.getD i default).cells),(42,iv ((i:Nat):Int))]) (by kernel_rfl) (by kernel_rfl) (by kernel_rfl) ?_
     refine YW.ylC (o:=BT 25) (d:=44) (u:=41) (n:=VI f day part i) (ts:=[42,43]) (c:={ callee:=.value (.tmp 41),args:=#[.tmp 42,.tmp 43],argTypes:=#[3,147] }) (by kernel_rfl) (by kernel_rfl) (by kernel_rfl) rfl (by simp) (by kernel_rfl) (znc f day part hlt he) rfl (by kernel_rfl) (by kernel_rfl) ?_ ?_
     ·refine YW.opC tok mixed (o:=BT 26) (znO f day part i [(45,bv false)]) (by kernel_rfl) (by kernel_rfl) (by kernel_rfl) ?_
      refine YW.pickC (o:=BT 27) (d:=46) (x:=.tmp 45) (y:=.const (.bool false)) false (by kernel_rfl) (by kernel_rfl) (by kernel_rfl) (by kernel_rfl) (by kernel_rfl) ?_
      refine YW.nil (T:=TT) (fn:=Tryz.f216) (by simp) ?_
      rw [← hcs]
      exact next _ (znV (by kernel_rfl))
     ·refine YW.opC tok mixed (o:=BT 26) (znO f day part i [(45,bv true)]) (by kernel_rfl) (by kernel_rfl) (by kernel_rfl) ?_
      refine YW.pickC (o:=BT 27) (d:=46) (x:=.tmp 45) (y:=.const (.bool false)) true (by kernel_rfl) (by kernel_rfl) (by kernel_rfl) (by kernel_rfl) (by kernel_rfl) ?_
      refine YW.nil (T:=TT) (fn:=Tryz.f216) (by simp) ?_
      refine ItX.sk tok mixed Tryz.func216 _ (.brt (.fin ()):Sk Unit) (fun _=>.go (.code .ret :: zqG.tail) ⟨[],[]⟩) 100 (by kernel_rfl) trivial (fun _ _=>(ItX.ret Tryz.func216 (by kernel_rfl) (fun C h=>.inr h)).2 _)
    | false =>
     rw [he,cond_false] at hcs
     refine YW.skipC (o:=BT 22) (d:=41) (by kernel_rfl) (by kernel_rfl) (by kernel_rfl) ?_
     refine YW.skipC (o:=BT 23) (d:=42) (by kernel_rfl) (by kernel_rfl) (by kernel_rfl) ?_
     refine YW.skipC (o:=BT 24) (d:=43) (by kernel_rfl) (by kernel_rfl) (by kernel_rfl) ?_
     refine YW.skipC (o:=BT 25) (d:=44) (by kernel_rfl) (by kernel_rfl) (by kernel_rfl) ?_
     refine YW.skipC (o:=BT 26) (d:=45) (by kernel_rfl) (by kernel_rfl) (by kernel_rfl) ?_
     refine YW.pickC (o:=BT 27) (d:=46) (x:=.tmp 45) (y:=.const (.bool false)) false (by kernel_rfl) (by kernel_rfl) (by kernel_rfl) (by kernel_rfl) (by kernel_rfl) ?_
     refine YW.nil (T:=TT) (fn:=Tryz.f216) (by simp) ?_
     rw [← hcs]
     exact next _ (znV (by kernel_rfl))
 refine ItX.sk tok mixed Tryz.func216 _ (.r 0 ((KK f day).c) fun m=>.r 1 .z fun _=>.fin m:Sk (List (Int × Bool))) (fun m=>.go [.code (.loop znH),.inBlock 0] ⟨zqu f day part m 0,[]⟩) 100 (by kernel_rfl) ?_ (fun m hm=>?_)
 ·refine Sk.obs_of _ ?_
  simp [Sk.obq,Cal.z,Ctr.c,kk,KK]
 ·have hm:m=qy f day:=hm
  subst hm
  exact .loopIn (key f.signs.length 0 (by omega))
def zc (f:jh) (day part:Int):ItC (Int × ql):=⟨Tryz.prog,216,[.ref f.cells,.ref [dI day],.ref [dI part]],jJ f day part,zhk,True,fun _=>UC f day part⟩
end
end Go.Proofs.YtilbddpghnnmhaaGreatDoor
