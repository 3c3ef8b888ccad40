/- Functions, as sketches. -/
import Derived.Test.YtilbddpghnnmhaaGreatDoorSa7
import Derived.Test.YtilbddpghnnmhaaGreatDoorAvYl
namespace Go.Proofs.YtilbddpghnnmhaaGreatDoor
noncomputable section
open Go Go.Av
set_option linter.unusedSimpArgs false
set_option linter.unusedVariables false
set_option maxHeartbeats 1000000
set_option maxRecDepth 100000
def vw (r:jg) (city:Int) (day:Int):Sk (Int × Int) :=
 .r 1 ((kp r city).c) fun x1 =>
 .loop (default:Int × Int) (fun i2=>(0:Int)≤i2∧i2≤100001) (fun i2=>(100001 - i2).toNat) (day:Int)
 (fun (i2:Int)=>⟨[(2,iv i2)],[]⟩) fun i2 =>
 .r 2 ((Wu r x1 i2).c) fun x3 =>
 .r 3 (.andl (.p (ixP city r.cities.length)) ((yy (r.cities.getD city.toNat default) x3).c)) fun x4 =>
 .br (x4.2 != 0)
 (.fin (.inl (0,3)))
 (.br (x4.1 == x3)
 (.fin (.inl (x3,0)))
 (.fin (.inr x4.1)))
def zbp (r:jg) (city:Int) (day:Int):Int × Int:=(vw r city day).val
theorem zcs (r:jg) (city:Int) (day:Int) (hP:(0≤city∧city < (r.cities.length:Int))∧(0≤day∧day≤100001)∧r.HaltOK):(vw r city day).pst (fun (x:Int × Int)=>x.2=0→0≤x.1∧x.1≤100001):=by
 refine Sk.pst_of _ ?_
 unfold vw
 simp only [Sk.pstq,Sk.isLoop,reduceCtorEq,ON,kk,yy,kp,Wu,jg.HaltOK,maxLen]
 obtain ⟨hc,hd,hh⟩:=hP
 intro _ _
 refine ⟨hd,fun i hi y hy hyp x hx hxp=>⟨fun _ h=>absurd h (by decide),fun he=>⟨fun hq=>?_,fun hq=>⟨?_,?_⟩⟩⟩⟩
 all_goals have h2:=hyp ⟨hh,hi⟩
 all_goals simp only [LN] at he hq
 all_goals have h3:=hxp he
 all_goals omega
theorem zbv (r:jg) (city:Int) (day:Int):(fun (x:Int × Int)=>((0≤city∧city < (r.cities.length:Int))∧(0≤day∧day≤100001)∧r.HaltOK)→(x.2=0→0≤x.1∧x.1≤100001)) (zbp r city day):=fun hP=>Sk.pval _ (zcs r city day hP)
theorem zdS (r:jg) (city:Int) (day:Int) (hc:0≤city∧city < (r.cities.length:Int)) (hd:0≤day∧day≤100001) (hh:r.HaltOK):(vw r city day).obs (fun _=>True):=by
 simp only [jg.HaltOK] at hh
 unfold vw
 try simp only [yy,kp,Wu,jg.HaltOK]
 exact okD
def Uh (r:jg) (city:Int) (day:Int):Ctr (Int × Int):=kk tok mixed Tryz.func106 [av r.cells,iv city,iv day] (fun x=>.tup [iv x.1,iv x.2]) true (vw r city day) (zbp r city day) (fun (h:(0≤city∧city < (r.cities.length:Int))∧(0≤day∧day≤100001)∧(r.HaltOK))=>zdS r city day h.1 h.2.1 h.2.2) (fun (x:Int × Int)=>((0≤city∧city < (r.cities.length:Int))∧(0≤day∧day≤100001)∧r.HaltOK)→(x.2=0→0≤x.1∧x.1≤100001)) (zbv r city day)
def Jh (r:jg) (b:ua) (seen:Int) (grace:Int):Sk (Int × Int) :=
 .r 2 (.dep ((yT r).c) fun x1=>.dep (.wh (x1 != 0) false ((KQ r b.city).c)) fun x2=>.dep (.wh ((x1 != 0)||(!x2)) false ((KQ r b.pay).c)) fun x3=>.wh (((x1 != 0)||(!x2))||(!x3)) false ((JE b.day).c)) fun p10 =>
 .br ((((p10.1 != 0)||(!p10.2.1))||(!p10.2.2.1))||(!p10.2.2.2))
 (.fin (0,1))
 (.br ((((decide (b.tenor.kind < 0))||(decide (b.tenor.kind≥5)))||(decide (b.tenor.unit < 0)))||(decide (b.tenor.unit≥2)))
 (.fin (0,1))
 (.r 6 (.wh (seen != (-1)) true ((JE seen).c)) fun x5 =>
 .br ((((seen != (-1))&&(!x5))||(decide (grace < 0)))||(decide (grace > 20000)))
 (.fin (0,1))
 (.r 8 ((Ui b.tenor).c) fun x6 =>
 .br (x6&&(seen == (-1)))
 (.fin (0,4))
 (.r 10 ((WW r b seen).c) fun x7 =>
 .br (x7.2 != 0)
 (.fin (0,x7.2))
 (.r 13 ((JE x7.1).c) fun x8 =>
 .br ((!x8)||(decide ((w64 (x7.1+grace)) > 100000)))
 (.fin (0,3))
 (.r 15 ((Uh r b.pay (w64 (x7.1+grace))).c) fun x9 =>
 .fin (x9.1,x9.2)))))))
def zi9 (r:jg) (b:ua) (seen:Int) (grace:Int):Int × Int:=(Jh r b seen grace).val
theorem ziv (r:jg) (b:ua) (seen:Int) (grace:Int):(Jh r b seen grace).pst (fun (x:Int × Int)=>x.2=0→0≤x.1∧x.1≤100001):=by
 refine Sk.pst_of _ ?_
 unfold Jh
 simp only [Sk.pstq,Sk.isLoop,reduceCtorEq,ON,kk,yT,Ui,WW,KQ,JE,Uh,Xo,Xq,Fa,forall_eq,jh.Small,jg.Small,jg.HaltOK,maxLen]
 intro hr
 refine ⟨fun _ h=>absurd h (by decide),fun h1=>⟨fun _ h=>absurd h (by decide),fun _=>⟨fun _ h=>absurd h (by decide),fun h3=>⟨fun _ h=>absurd h (by decide),fun _=>⟨fun h h'=>by rw [h'] at h; exact absurd h (by decide),fun h4=>⟨fun _ h=>absurd h (by decide),fun h5 himp=>?_⟩⟩⟩⟩⟩⟩
 simp only [LN] at h1 h5
 have e:∀ x g:Int,0≤x∧x≤100000→0≤g∧g≤20000→0≤w64 (x+g):=fun x g h1 h2=>by rw [jj (by omega) (by omega)]; omega
 have h6:0≤grace∧grace≤20000:=by simp only [LN] at h3; omega
 refine himp ⟨by omega,⟨e _ _ h5.1 h6,by omega⟩,hr h1.1.1.1⟩
theorem zgT (r:jg) (b:ua) (seen:Int) (grace:Int):(fun (x:Int × Int)=>x.2=0→0≤x.1∧x.1≤100001) (zi9 r b seen grace):=have h:=Sk.pval _ (ziv r b seen grace); h
theorem zks (r:jg) (b:ua) (seen:Int) (grace:Int) (h_r_Small:r.Small):(Jh r b seen grace).obs (fun _=>True):=by
 simp only [jh.Small,jg.Small,jg.HaltOK] at h_r_Small
 unfold Jh
 try simp only [yT,Ui,WW,KQ,JE,Uh,Xo,Xq,Fa,jh.Small,jg.Small,jg.HaltOK]
 exact okG
def zc2 (r:jg) (b:ua) (seen:Int) (grace:Int):Ctr (Int × Int):=kk tok mixed Tryz.func74 [av r.cells,av b.cells,iv seen,iv grace] (fun x=>.tup [iv x.1,iv x.2]) true (Jh r b seen grace) (zi9 r b seen grace) (fun (h:(r.Small))=>zks r b seen grace h) (fun (x:Int × Int)=>x.2=0→0≤x.1∧x.1≤100001) (zgT r b seen grace)
def Kc (r:jg) (forum:Int) (f:jh) (day:Int):Sk (Int) :=
 .r 1 ((ju f day).c) fun x1 =>
 .br (((x1.signs.length:Nat):Int) == 0)
 (.fin (-1))
 (.r 4 (.dep ((Kl r forum 6 x1 day).c) fun x2=>(Qa x2).c) fun p7 =>
 .r 5 (.dep ((Zn x1).c) fun x4=>(zc2 r x1.bill x4 (ki p7.2 0)).c) fun p6 =>
 .br (p6.2.2 != 0)
 (.fin (-1))
 (.fin p6.2.1))
def Ju (r:jg) (forum:Int) (f:jh) (day:Int):Int:=(Kc r forum f day).val
theorem zdQ (r:jg) (forum:Int) (f:jh) (day:Int) (h_f_Small:f.Small) (h_r_ByOK:r.ByOK) (h_r_Small:r.Small):(Kc r forum f day).obs (fun _=>True):=by
 simp only [jh.Small,jg.Small,jg.ByOK] at h_f_Small
 simp only [jh.Small,jg.Small,jg.ByOK] at h_r_ByOK
 simp only [jh.Small,jg.Small,jg.ByOK] at h_r_Small
 unfold Kc
 try simp only [Kl,Qa,ju,Zn,zc2,jh.Small,jg.Small,jg.ByOK]
 exact okD
def jS (r:jg) (forum:Int) (f:jh) (day:Int):Ctr (Int):=kk tok mixed Tryz.func49 [av r.cells,iv forum,av f.cells,iv day] (fun x=>iv x) true (Kc r forum f day) (Ju r forum f day) (fun (h:(f.Small)∧(r.ByOK)∧(r.Small))=>zdQ r forum f day h.1 h.2.1 h.2.2)
def QC (r:jg) (forum:Int) (f:jh) (day:Int):Sk (qc × Bool) :=
 .br ((decide (forum < 0))||(decide (forum≥((r.orders.length:Nat):Int))))
 (.fin (({ view:=({ all:=({ bill:=({ drawer:=0,drawee:=0,payee:=0,sum:=0,currency:=0,tenor:=({ kind:=0,n:=0,unit:=0 }:yw),day:=0,city:=0,pay:=0,need:=0,rate:=0,flags:=0,parts:=0 }:ua),signs:=[],alters:=[],acts:=[],facts:=[] }:jh),now:=({ bill:=({ drawer:=0,drawee:=0,payee:=0,sum:=0,currency:=0,tenor:=({ kind:=0,n:=0,unit:=0 }:yw),day:=0,city:=0,pay:=0,need:=0,rate:=0,flags:=0,parts:=0 }:ua),signs:=[],alters:=[],acts:=[],facts:=[] }:jh),day:=0,lead:=[] }:kS),r:=({ currencies:=[],cities:=[],groups:=[],firms:=[],orders:=[],usances:=[],rates:=[],halts:=[] }:jg),forum:=0,due:=0 }:qc),false))
 (.r 3 (.dep ((Bk f day).c) fun _=>(jS r forum f day).c) fun p3 =>
 .fin (({ view:=p3.1,r:=r,forum:=forum,due:=p3.2 }:qc),true))
def jx (r:jg) (forum:Int) (f:jh) (day:Int):qc × Bool:=(QC r forum f day).val
theorem zlO (r:jg) (forum:Int) (f:jh) (day:Int):(QC r forum f day).pst (fun (x:qc × Bool)=>x.2=true→x.1=⟨jY f day,r,forum,Ju r forum f day⟩∧0≤forum∧forum < (r.orders.length:Int)):=by
 unfold QC
 try simp only [jS,Bk,jh.Small,jg.Small,jg.ByOK]
 exact okP
theorem WJ (r:jg) (forum:Int) (f:jh) (day:Int):(fun (x:qc × Bool)=>x.2=true→x.1=⟨jY f day,r,forum,Ju r forum f day⟩∧0≤forum∧forum < (r.orders.length:Int)) (jx r forum f day):=have h:=Sk.pval _ (zlO r forum f day); h
theorem znH (r:jg) (forum:Int) (f:jh) (day:Int) (h_f_Small:f.Small) (h_r_ByOK:r.ByOK) (h_r_Small:r.Small):(QC r forum f day).obs (fun _=>True):=by
 simp only [jh.Small,jg.Small,jg.ByOK] at h_f_Small
 simp only [jh.Small,jg.Small,jg.ByOK] at h_r_ByOK
 simp only [jh.Small,jg.Small,jg.ByOK] at h_r_Small
 unfold QC
 try simp only [jS,Bk,jh.Small,jg.Small,jg.ByOK]
 exact okD
def zbI (r:jg) (forum:Int) (f:jh) (day:Int):Ctr (qc × Bool):=kk tok mixed Tryz.func114 [av r.cells,iv forum,av f.cells,iv day] (fun x=>.tup [av x.1.cells,bv x.2]) false (QC r forum f day) (jx r forum f day) (fun (h:(f.Small)∧(r.ByOK)∧(r.Small))=>znH r forum f day h.1 h.2.1 h.2.2) (fun (x:qc × Bool)=>x.2=true→x.1=⟨jY f day,r,forum,Ju r forum f day⟩∧0≤forum∧forum < (r.orders.length:Int)) (WJ r forum f day)
structure kh where
 sign:Int
 kind:Int
 firm:Int
 binds:Int
 text:Int
 sum:Int
 recourse:Bool
 deriving Inhabited
def kh.cells (c:kh):List D:=[dI c.sign,dI c.kind,dI c.firm,dI c.binds,dI c.text,dI c.sum,dB c.recourse]
def kh.E:Enc kh:=⟨kh.cells,7,fun _=>rfl,fun _=>rfl⟩
structure ug where
 r:jg
 forum:Int
 day:Int
 f:jh
 form:Int
 due:Int
 deriving Inhabited
def ug.cells (c:ug):List D:=c.r.cells++[dI c.forum,dI c.day]++c.f.cells++[dI c.form,dI c.due]
def ug.E:Enc ug:=⟨ug.cells,31,fun _=>rfl,fun _=>rfl⟩
def WI (s:Said):Sk (Int) :=
 .br (s.err != 0)
 (.fin 0)
 (.br (!s.cell.known)
 (.fin 2)
 (.br (s.cell.n != 0)
 (.fin 1)
 (.fin 0)))
def zri (s:Said):Int:=(WI s).val
theorem zn9 (s:Said):(WI s).obs (fun _=>True):=by
 unfold WI
 exact okE
def qK (s:Said):Ctr (Int):=kk tok mixed Tryz.func50 [av s.cells] (fun x=>iv x) true (WI s) (zri s) (fun (_:True)=>zn9 s)
def Jj (r:jg) (forum:Int) (f:jh) (day:Int):Sk (ug) :=
 .r 1 ((ju f day).c) fun x1 =>
 .r 2 (.dep ((Kl r forum 0 x1 day).c) fun x2=>.dep ((qK x2).c) fun _=>(jS r forum x1 day).c) fun p5 =>
 .fin ({ r:=r,forum:=forum,day:=day,f:=x1,form:=p5.2.1,due:=p5.2.2 }:ug)
def zjo (r:jg) (forum:Int) (f:jh) (day:Int):ug:=(Jj r forum f day).val
theorem zh8 (r:jg) (forum:Int) (f:jh) (day:Int):(Jj r forum f day).pst (fun (x:ug)=>x.f=ji f day∧x.r=r):=by
 unfold Jj
 try simp only [Kl,jS,qK,ju,jh.Small,jg.Small,jg.ByOK]
 exact okP
theorem zhj (r:jg) (forum:Int) (f:jh) (day:Int):(fun (x:ug)=>x.f=ji f day∧x.r=r) (zjo r forum f day):=have h:=Sk.pval _ (zh8 r forum f day); h
theorem zlc (r:jg) (forum:Int) (f:jh) (day:Int) (h_f_Small:f.Small) (h_r_ByOK:r.ByOK) (h_r_Small:r.Small):(Jj r forum f day).obs (fun _=>True):=by
 simp only [jh.Small,jg.Small,jg.ByOK] at h_f_Small
 simp only [jh.Small,jg.Small,jg.ByOK] at h_r_ByOK
 simp only [jh.Small,jg.Small,jg.ByOK] at h_r_Small
 unfold Jj
 try simp only [Kl,jS,qK,ju,jh.Small,jg.Small,jg.ByOK]
 exact okD
def Kw (r:jg) (forum:Int) (f:jh) (day:Int):Ctr (ug):=kk tok mixed Tryz.func144 [av r.cells,iv forum,av f.cells,iv day] (fun x=>av x.cells) false (Jj r forum f day) (zjo r forum f day) (fun (h:(f.Small)∧(r.ByOK)∧(r.Small))=>zlc r forum f day h.1 h.2.1 h.2.2) (fun (x:ug)=>x.f=ji f day∧x.r=r) (zhj r forum f day)
def JU (f:jh) (day:Int):Sk ((List (Int × Bool))) :=
 .r 1 (.o [.nrmm (mkM dB)]) fun _ =>
 .bind true (fun _=>True)
 (.loop (default:Sum ((List (Int × Bool))) ((List (Int × Bool)))) (fun i2=>i2.1≤f.acts.length) (fun i2=>f.acts.length - i2.1) ((0,([]:List (Int × Bool))):Nat × (List (Int × Bool)))
 (fun (i2:Nat × (List (Int × Bool)))=>⟨[(12,iv (i2.1:Int))],[(8,mpM dB i2.2)]⟩) fun i2 =>
 .bnd 10 0 f.acts.length <|
 .br (decide ((i2.1:Int) < ((f.acts.length:Nat):Int)))
 (.r 4 (.p (ixP (i2.1:Int) f.acts.length)) fun _ =>
 .br ((((f.acts.getD i2.1 default).kind) == 7)&&(decide (((f.acts.getD i2.1 default).day)≤day)))
 (.r 6 (.andl (.t (Jy dB i2.2)) (.o [.nrmm (znU dB i2.2 ((f.acts.getD i2.1 default).at_) true)])) fun _ =>
 .r 7 .z fun _ =>
 .wi 12 (w64 ((i2.1:Int)+1)) ((i2.1+1:Nat):Int) <|
 .fin (.inr (i2.1+1,gt i2.2 ((f.acts.getD i2.1 default).at_) true)))
 (.r 7 .z fun _ =>
 .wi 12 (w64 ((i2.1:Int)+1)) ((i2.1+1:Nat):Int) <|
 .fin (.inr (i2.1+1,i2.2))))
 (.fin (.inl (.inr i2.2))))
 (fun (b1:(List (Int × Bool)))=>⟨[],[(8,mpM dB b1)]⟩) fun b1 =>
 .fin b1
def qH (f:jh) (day:Int):(List (Int × Bool)):=(JU f day).val
theorem zdX (f:jh) (day:Int):(JU f day).obs (fun _=>True):=by
 unfold JU
 exact okD
def KX (f:jh) (day:Int):Ctr ((List (Int × Bool))):=kk tok mixed Tryz.func214 [av f.cells,iv day] (fun x=>pmM dB x) false (JU f day) (qH f day) (fun (_:True)=>zdX f day)
def Kg (f:jh) (sign:Int) (day:Int):Sk (Bool) :=
 .r 1 (.depr (.wh ((decide (sign≥0))&&(decide (sign < ((f.signs.length:Nat):Int)))) true ((KX f day).c)) fun x1=>.wh ((decide (sign≥0))&&(decide (sign < ((f.signs.length:Nat):Int)))) true (.andl (.t (Jy dB x1)) (.o [.cast 21 (zlM dB x1 sign false)]))) fun x1 =>
 .fin (((decide (sign≥0))&&(decide (sign < ((f.signs.length:Nat):Int))))&&(km x1 sign false))
def zjY (f:jh) (sign:Int) (day:Int):Bool:=(Kg f sign day).val
theorem zdY (f:jh) (sign:Int) (day:Int):(Kg f sign day).obs (fun _=>True):=by
 unfold Kg
 try simp only [KX]
 exact okE
def UG (f:jh) (sign:Int) (day:Int):Ctr (Bool):=kk tok mixed Tryz.func178 [av f.cells,iv sign,iv day] (fun x=>bv x) true (Kg f sign day) (zjY f sign day) (fun (_:True)=>zdY f sign day)
def gn (v:ug) (question:Int) (sign:Int):Sk (Int) :=
 .r 2 (.dep ((qN v.r v.forum question ({ file:=v.f,sign:=sign,holder:=sign,defence:=(-1),due:=v.due,day:=v.day }:ke)).c) fun x1=>(qK x1).c) fun p3 =>
 .fin p3.2
def zhe (v:ug) (question:Int) (sign:Int):Int:=(gn v question sign).val
theorem zaB (v:ug) (question:Int) (sign:Int) (h_v_f_Small:v.f.Small) (h_v_r_ByOK:v.r.ByOK) (h_v_r_Small:v.r.Small):(gn v question sign).obs (fun _=>True):=by
 unfold gn
 try simp only [qN,qK]
 exact okD
def zf (v:ug) (question:Int) (sign:Int):Ctr (Int):=kk tok mixed Tryz.func179 [av v.cells,iv question,iv sign] (fun x=>iv x) true (gn v question sign) (zhe v question sign) (fun (h:(v.f.Small)∧(v.r.ByOK)∧(v.r.Small))=>zaB v question sign h.1 h.2.1 h.2.2)
def jn:List Int→Int→Int
 | [],o=>o
 | x :: r,o=>if x=0 then 0 else if x=2 then jn r 2 else jn r o
theorem zaA {l:List Int} {n:Nat} (h:n < l.length) (o:Int):jn (l.drop n) o=if l.getD n default=0 then 0 else if l.getD n default=2 then jn (l.drop (n+1)) 2 else jn (l.drop (n+1)) o:=by
 rw [List.drop_eq_getElem_cons h]
 simp only [jn,List.getD,List.getElem?_eq_getElem h,Option.getD_some]
def Jg (l:List Int):Sk (Int) :=
 .bind true (fun b1=>b1=jn l 1)
 (.loop (default:Sum (Int) (Int)) (fun i2=>i2.2≤l.length∧jn l 1=jn (l.drop i2.2) i2.1) (fun i2=>l.length - i2.2) ((1,0):Int × Nat)
 (fun (i2:Int × Nat)=>⟨[(3,iv i2.1),(8,iv (i2.2:Int))],[]⟩) fun i2 =>
 .bnd 6 0 l.length <|
 .br (decide ((i2.2:Int) < ((l.length:Nat):Int)))
 (.r 4 (.p (ixP (i2.2:Int) l.length)) fun _ =>
 .br ((l.getD i2.2 default) == 0)
 (.fin (.inl (.inl 0)))
 (.br ((l.getD i2.2 default) == 2)
 (.r 9 .z fun _ =>
 .wi 8 (w64 ((i2.2:Int)+1)) ((i2.2+1:Nat):Int) <|
 .fin (.inr (2,i2.2+1)))
 (.r 9 .z fun _ =>
 .wi 8 (w64 ((i2.2:Int)+1)) ((i2.2+1:Nat):Int) <|
 .fin (.inr (i2.1,i2.2+1)))))
 (.fin (.inl (.inr i2.1))))
 (fun (b1:Int)=>⟨[(3,iv b1)],[]⟩) fun b1 =>
 .fin b1
def zjB (l:List Int):Int:=(Jg l).val
theorem zhy (l:List Int):(Jg l).pst (fun (x:Int)=>x=jn l 1):=by
 refine Sk.pst_of _ ?_
 unfold Jg
 simp only [Sk.pstq,Sk.isLoop,reduceCtorEq,ON,kk,maxLen]
 all_goals simp only [LN] at *
 refine ⟨⟨⟨Nat.zero_le _,by simp⟩,fun i hi=>⟨fun hc _=>⟨fun h=>?_,fun h=>⟨fun h2 _=>⟨⟨by omega,?_⟩,by omega⟩,fun h2 _=>⟨⟨by omega,?_⟩,by omega⟩⟩⟩,fun hc=>?_⟩⟩,fun b hb=>hb⟩
 ·rw [hi.2,zaA (by omega),if_pos h]
 ·rw [hi.2,zaA (by omega),if_neg h,if_pos h2]
 ·rw [hi.2,zaA (by omega),if_neg h,if_neg h2]
 ·rw [hi.2,List.drop_eq_nil_of_le (by omega)]; rfl
theorem Hr (l:List Int):(fun (x:Int)=>x=jn l 1) (zjB l):=have h:=Sk.pval _ (zhy l); h
theorem zk4 (l:List Int):(Jg l).obs (fun _=>True):=by
 refine Sk.obs_of _ ?_
 unfold Jg
 simp only [Sk.obq,Sk.isLoop,reduceCtorEq,ON,kk,maxLen]
 all_goals simp only [LN] at *
 have wi:∀ n:Nat,n < l.length→l.length≤9223372036854775807→w64 ((n:Int)+1)=((n+1:Nat):Int):=fun n h h1=>by rw [jj (by omega) (by omega)]; omega
 refine ⟨⟨Nat.zero_le _,by simp⟩,fun i hi hm=>⟨fun hc=>⟨by omega,fun _ h=>⟨fun h2 _=>⟨wi _ (by omega) (by omega),⟨by omega,?_⟩,by omega⟩,fun h2 _=>⟨wi _ (by omega) (by omega),⟨by omega,?_⟩,by omega⟩⟩⟩,fun hc=>?_⟩⟩
 ·rw [hi.2,zaA (by omega),if_neg h,if_pos h2]
 ·rw [hi.2,zaA (by omega),if_neg h,if_neg h2]
 ·rw [hi.2,List.drop_eq_nil_of_le (by omega)]; rfl
def ZA (l:List Int):Ctr (Int):=kk tok mixed Tryz.func45 [lv jC l] (fun x=>iv x) true (Jg l) (zjB l) (fun (_:True)=>zk4 l) (fun (x:Int)=>x=jn l 1) (Hr l)
def uL (f:jh) (i:Int):Sk (Int) :=
 .bind true (fun b1=>f.SumOK→0≤b1∧b1≤1099511627776)
 (.loop (default:Sum (Int) (Int)) (fun i2=>i2.2≤f.alters.length∧(f.SumOK→0≤i2.1∧i2.1≤1099511627776)) (fun i2=>f.alters.length - i2.2) ((f.bill.sum,0):Int × Nat)
 (fun (i2:Int × Nat)=>⟨[(5,iv i2.1),(14,iv (i2.2:Int))],[]⟩) fun i2 =>
 .bnd 12 0 f.alters.length <|
 .br (decide ((i2.2:Int) < ((f.alters.length:Nat):Int)))
 (.r 4 (.p (ixP (i2.2:Int) f.alters.length)) fun _ =>
 .br (decide (((f.alters.getD i2.2 default).at_)≤i))
 (.r 7 .z fun _ =>
 .wi 14 (w64 ((i2.2:Int)+1)) ((i2.2+1:Nat):Int) <|
 .fin (.inr ((f.alters.getD i2.2 default).sum,i2.2+1)))
 (.r 7 .z fun _ =>
 .wi 14 (w64 ((i2.2:Int)+1)) ((i2.2+1:Nat):Int) <|
 .fin (.inr (i2.1,i2.2+1))))
 (.fin (.inl (.inr i2.1))))
 (fun (b1:Int)=>⟨[(5,iv b1)],[]⟩) fun b1 =>
 .fin b1
def zdd (f:jh) (i:Int):Int:=(uL f i).val
theorem zex (f:jh) (i:Int) (hP:f.SumOK):(uL f i).pst (fun (x:Int)=>0≤x∧x≤1099511627776):=by
 refine Sk.pst_of _ ?_
 unfold uL
 simp only [Sk.pstq,Sk.isLoop,reduceCtorEq,ON,kk,maxLen]
 refine ⟨⟨⟨Nat.zero_le _,fun h=>h.1⟩,fun i hi=>⟨fun hc _=>?_,fun _=>hi.2⟩⟩,fun b hb=>hb hP⟩
 simp only [LN] at hc
 exact ⟨fun _ _=>⟨⟨by omega,fun h=>h.2.1 _ (by omega)⟩,by omega⟩,fun _ _=>⟨⟨by omega,hi.2⟩,by omega⟩⟩
theorem zch (f:jh) (i:Int):(fun (x:Int)=>(f.SumOK)→(0≤x∧x≤1099511627776)) (zdd f i):=fun hP=>Sk.pval _ (zex f i hP)
theorem zfT (f:jh) (i:Int):(uL f i).obs (fun _=>True):=by
 refine Sk.obs_of _ ?_
 unfold uL
 simp only [Sk.obq,Sk.isLoop,reduceCtorEq,ON,kk,maxLen]
 refine ⟨⟨Nat.zero_le _,fun h=>h.1⟩,fun i hi hm=>⟨fun hc=>?_,fun _=>hi.2⟩⟩
 simp only [LN] at hc
 have hw:w64 ((i.2:Int)+1)=((i.2+1:Nat):Int):=(jj (by omega) (by omega)).trans (by omega)
 exact ⟨by omega,fun _=>⟨fun _ _=>⟨hw,⟨by omega,fun h=>h.2.1 _ (by omega)⟩,by omega⟩,fun _ _=>⟨hw,⟨by omega,hi.2⟩,by omega⟩⟩⟩
def YQ (f:jh) (i:Int):Ctr (Int):=kk tok mixed Tryz.func215 [av f.cells,iv i] (fun x=>iv x) true (uL f i) (zdd f i) (fun (_:True)=>zfT f i) (fun (x:Int)=>(f.SumOK)→(0≤x∧x≤1099511627776)) (zch f i)
def zy (v:ug) (sign:Int):Sk (Int × Int) :=
 .r 1 ((YQ v.f sign).c) fun x1 =>
 .bind true (fun b2=>b2=true→v.f.alters.length≠0)
 (.loop (default:Sum (Int × Int) (Bool)) (fun i3=>i3.2≤v.f.alters.length∧(i3.1=true→v.f.alters.length≠0)) (fun i3=>v.f.alters.length - i3.2) ((false,0):Bool × Nat)
 (fun (i3:Bool × Nat)=>⟨[(7,bv i3.1),(23,iv (i3.2:Int))],[]⟩) fun i3 =>
 .bnd 21 0 v.f.alters.length <|
 .br (decide ((i3.2:Int) < ((v.f.alters.length:Nat):Int)))
 (.r 6 (.p (ixP (i3.2:Int) v.f.alters.length)) fun _ =>
 .r 8 .z fun _ =>
 .wi 23 (w64 ((i3.2:Int)+1)) ((i3.2+1:Nat):Int) <|
 .fin (.inr (i3.1||(decide (((v.f.alters.getD i3.2 default).at_) > sign)),i3.2+1)))
 (.fin (.inl (.inr i3.1))))
 (fun (b2:Bool)=>⟨[(7,bv b2)],[]⟩) fun b2 =>
 .br (!b2)
 (.fin (0,x1))
 (.r 11 (.p (ixP (w64 (((v.f.alters.length:Nat):Int) - 1)) v.f.alters.length)) fun _ =>
 .r 12 ((zf v 4 sign).c) fun x4 =>
 .br (x4 == 1)
 (.fin (x4,(v.f.alters.getD ((w64 (((v.f.alters.length:Nat):Int) - 1)).toNat) default).sum))
 (.br (x4 == 2)
 (.fin (x4,qO x1 ((v.f.alters.getD ((w64 (((v.f.alters.length:Nat):Int) - 1)).toNat) default).sum)))
 (.fin (x4,x1))))
def HL (v:ug) (sign:Int):Int × Int:=(zy v sign).val
theorem Bx (v:ug) (sign:Int) (hP:v.f.SumOK∧v.f.Small):(zy v sign).pst (fun (x:Int × Int)=>0≤x.2∧x.2≤1099511627776):=by
 refine Sk.pst_of _ ?_
 unfold zy
 simp only [Sk.pstq,Sk.isLoop,reduceCtorEq,ON,kk,zf,YQ,maxLen]
 intro x _ hx
 have hx:=hx hP.1
 refine ⟨⟨Nat.zero_le _,fun i hi=>⟨fun hc _ _=>?_,fun _=>hi.2⟩⟩,fun b hb=>⟨fun _=>hx,fun hb2 _ y _=>?_⟩⟩
 ·simp only [LN] at hc
  exact ⟨⟨by omega,fun _=>by omega⟩,by omega⟩
 ·have hn:=hb (by simpa using hb2)
  have hl:=hP.2.2.1
  rw [jj (by omega) (by omega)]
  obtain ⟨h1,h2⟩:=hP.1.2.1 ((v.f.alters.length:Int) - 1).toNat (by omega)
  refine ⟨fun _=>⟨h1,h2⟩,fun _=>⟨fun _=>?_,fun _=>hx⟩⟩
  unfold qO
  split <;> omega
theorem FX (v:ug) (sign:Int):(fun (x:Int × Int)=>(v.f.SumOK∧v.f.Small)→(0≤x.2∧x.2≤1099511627776)) (HL v sign):=fun hP=>Sk.pval _ (Bx v sign hP)
theorem zae (v:ug) (sign:Int) (h_v_f_Small:v.f.Small) (h_v_r_ByOK:v.r.ByOK) (h_v_r_Small:v.r.Small):(zy v sign).obs (fun _=>True):=by
 refine Sk.obs_of _ ?_
 unfold zy
 simp only [Sk.obq,Sk.isLoop,reduceCtorEq,ON,kk,zf,YQ,maxLen]
 intro x _ _
 refine ⟨⟨Nat.zero_le _,fun i hi hm=>⟨fun hc=>?_,fun _=>hi.2⟩⟩,fun b hb hb2=>?_⟩
 ·simp only [LN] at hc
  exact ⟨by omega,fun _ _=>⟨(jj (by omega) (by omega)).trans (by omega),⟨by omega,fun _=>by omega⟩,by omega⟩⟩
 ·have hn:=hb (by simpa using hb2)
  have hl:=h_v_f_Small.2.1
  rw [jj (by omega) (by omega)]
  exact ⟨by omega,fun _=>⟨h_v_f_Small,h_v_r_ByOK,h_v_r_Small⟩⟩
def QR (v:ug) (sign:Int):Ctr (Int × Int):=kk tok mixed Tryz.func180 [av v.cells,iv sign] (fun x=>.tup [iv x.1,iv x.2]) true (zy v sign) (HL v sign) (fun (h:(v.f.Small)∧(v.r.ByOK)∧(v.r.Small))=>zae v sign h.1 h.2.1 h.2.2) (fun (x:Int × Int)=>(v.f.SumOK∧v.f.Small)→(0≤x.2∧x.2≤1099511627776)) (FX v sign)
def qL (v:ug) (sign:Int):Sk (kh) :=
 .r 1 (.p (ixP sign v.f.signs.length)) fun _ =>
 .r 3 ((UG v.f sign v.day).c) fun x1 =>
 .bind false (fun _=>True)
 (.br (!x1)
 (.r 4 (.dep ((zf v 1 sign).c) fun x3=>.dep ((zf v 2 sign).c) fun x4=>.andl (.o [.nrm (qk kA [v.form,x3,x4])]) ((ZA [v.form,x3,x4]).c)) fun p6 =>
 .fin (.inr p6.2.2))
 (.fin (.inr 0)))
 (fun (b2:Int)=>⟨[],[(6,.box [iv sign,iv ((v.f.signs.getD sign.toNat default).kind),iv ((v.f.signs.getD sign.toNat default).who),iv b2,iv 0,iv 0,bv ((((v.f.signs.getD sign.toNat default).kind) != 1)&&((qg .i64 ((v.f.signs.getD sign.toNat default).flags) 1) == 0))])]⟩) fun b2 =>
 .r 5 ((QR v sign).c) fun x7 =>
 .br ((((v.f.signs.getD sign.toNat default).kind) == 1)||(((v.f.signs.getD sign.toNat default).kind) == 4))
 (.fin ({ sign:=sign,kind:=(v.f.signs.getD sign.toNat default).kind,firm:=(v.f.signs.getD sign.toNat default).who,binds:=b2,text:=x7.1,sum:=qO x7.2 ((v.f.signs.getD sign.toNat default).sum),recourse:=(((v.f.signs.getD sign.toNat default).kind) != 1)&&((qg .i64 ((v.f.signs.getD sign.toNat default).flags) 1) == 0) }:kh))
 (.fin ({ sign:=sign,kind:=(v.f.signs.getD sign.toNat default).kind,firm:=(v.f.signs.getD sign.toNat default).who,binds:=b2,text:=x7.1,sum:=x7.2,recourse:=(((v.f.signs.getD sign.toNat default).kind) != 1)&&((qg .i64 ((v.f.signs.getD sign.toNat default).flags) 1) == 0) }:kh))
def Gx (v:ug) (sign:Int):kh:=(qL v sign).val
theorem HZ (v:ug) (sign:Int) (hP:v.f.SumOK∧v.f.Small∧0≤sign∧sign < (v.f.signs.length:Int)):(qL v sign).pst (fun (x:kh)=>0≤x.sum∧x.sum≤1099511627776):=by
 refine Sk.pst_of _ ?_
 unfold qL
 simp only [Sk.pstq,Sk.isLoop,reduceCtorEq,ON,kk,ZA,zf,QR,UG,maxLen]
 intro _ x _ b _ y _ hy
 have hy:=hy ⟨hP.1,hP.2.1⟩
 obtain ⟨h1,h2⟩:=hP.1.2.2.1 sign.toNat (by omega)
 exact ⟨fun _=>by unfold qO; split <;> omega,fun _=>hy⟩
theorem XE (v:ug) (sign:Int):(fun (x:kh)=>(v.f.SumOK∧v.f.Small∧0≤sign∧sign < (v.f.signs.length:Int))→(0≤x.sum∧x.sum≤1099511627776)) (Gx v sign):=fun hP=>Sk.pval _ (HZ v sign hP)
theorem Fy (v:ug) (sign:Int) (hs:0≤sign∧sign < (v.f.signs.length:Int)) (h_v_f_Small:v.f.Small) (h_v_r_ByOK:v.r.ByOK) (h_v_r_Small:v.r.Small):(qL v sign).obs (fun _=>True):=by
 unfold qL
 try simp only [ZA,zf,QR,UG]
 exact okD
def za (v:ug) (sign:Int):Ctr (kh):=kk tok mixed Tryz.func145 [av v.cells,iv sign] (fun x=>av x.cells) true (qL v sign) (Gx v sign) (fun (h:(0≤sign∧sign < (v.f.signs.length:Int))∧(v.f.Small)∧(v.r.ByOK)∧(v.r.Small))=>Fy v sign h.1 h.2.1 h.2.2.1 h.2.2.2) (fun (x:kh)=>(v.f.SumOK∧v.f.Small∧0≤sign∧sign < (v.f.signs.length:Int))→(0≤x.sum∧x.sum≤1099511627776)) (XE v sign)
def vF (r:jg) (forum:Int) (f:jh) (day:Int):Sk ((List kh)) :=
 .r 1 ((Kw r forum f day).c) fun x1 =>
 .bind true (fun b2=>b2.length=x1.f.signs.length)
 (.loop (default:Sum ((List kh)) ((List kh))) (fun i3=>i3.2≤x1.f.signs.length∧i3.1.length=i3.2) (fun i3=>x1.f.signs.length - i3.2) (([],0):(List kh) × Nat)
 (fun (i3:(List kh) × Nat)=>⟨[(10,ow 100002 i3.1),(21,iv (i3.2:Int))],[(100002,jz 244 7 kh.cells i3.1)]⟩) fun i3 =>
 .bnd 9 25 x1.f.signs.length <|
 .br (decide ((i3.2:Int) < ((x1.f.signs.length:Nat):Int)))
 (.r 6 (.depr ((za x1 (i3.2:Int)).c) fun x4=>.andl (.o [.nrm (qk kh.E [x4])]) (.andl (.o [.nrm (gy kh.E i3.1 [x4])]) (.andl (.t (kh.E.ones [x4])) (.p (szP i3.1.length [x4].length 56))))) fun x4 =>
 .r 7 .z fun _ =>
 .wi 21 (w64 ((i3.2:Int)+1)) ((i3.2+1:Nat):Int) <|
 .fin (.inr (i3.1++[x4],i3.2+1)))
 (.fin (.inl (.inr i3.1))))
 (fun (b2:(List kh))=>⟨[(10,ow 100001 b2)],[(100001,jz 244 7 kh.cells b2)]⟩) fun b2 =>
 .fin b2
def kH (r:jg) (forum:Int) (f:jh) (day:Int):(List kh):=(vF r forum f day).val
theorem zcf (r:jg) (forum:Int) (f:jh) (day:Int):(vF r forum f day).pst (fun (x:(List kh))=>x.length=(ji f day).signs.length):=by
 unfold vF
 try simp only [Kw,za]
 exact okP
theorem zba (r:jg) (forum:Int) (f:jh) (day:Int):(fun (x:(List kh))=>x.length=(ji f day).signs.length) (kH r forum f day):=have h:=Sk.pval _ (zcf r forum f day); h
theorem zeb (r:jg) (forum:Int) (f:jh) (day:Int) (h_f_Small:f.Small) (h_r_ByOK:r.ByOK) (h_r_Small:r.Small):(vF r forum f day).obs (fun _=>True):=by
 refine Sk.obs_of _ ?_
 unfold vF
 simp only [Sk.obq,Sk.isLoop,reduceCtorEq,ON,kk,Kw,za,maxLen]
 refine ⟨⟨h_f_Small,h_r_ByOK,h_r_Small⟩,fun x _ hx=>?_⟩
 have hS:x.f.Small:=by rw [hx.1]; exact XR h_f_Small day
 have hB:x.r.ByOK:=by rw [hx.2]; exact h_r_ByOK
 have hR:x.r.Small:=by rw [hx.2]; exact h_r_Small
 have hS1:=hS.1
 all_goals exact okT
def UL (r:jg) (forum:Int) (f:jh) (day:Int):Ctr ((List kh)):=kk tok mixed Tryz.func115 [av r.cells,iv forum,av f.cells,iv day] (fun x=>lv kh.cells x) false (vF r forum f day) (kH r forum f day) (fun (h:(f.Small)∧(r.ByOK)∧(r.Small))=>zeb r forum f day h.1 h.2.1 h.2.2) (fun (x:(List kh))=>x.length=(ji f day).signs.length) (zba r forum f day)
structure GI where
 signs:List Int
 holder:Int
 broken:Int
 bearer:Bool
 agent:Int
 late:List Int
 deriving Inhabited
def GI.cells (c:GI):List D:=[slD jC c.signs,dI c.holder,dI c.broken,dB c.bearer,dI c.agent,slD jC c.late]
def GI.E:Enc GI:=⟨GI.cells,6,fun _=>rfl,fun _=>rfl⟩
def vV (f:jh) (day:Int):Sk (Int × Bool) :=
 .bind true (fun _=>True)
 (.loop (default:Sum (Int × Bool) (Int × Bool)) (fun i2=>i2.2.2≤f.acts.length) (fun i2=>f.acts.length - i2.2.2) ((0,false,0):Int × Bool × Nat)
 (fun (i2:Int × Bool × Nat)=>⟨[(6,iv i2.1),(7,bv i2.2.1),(13,iv (i2.2.2:Int))],[]⟩) fun i2 =>
 .bnd 11 0 f.acts.length <|
 .br (decide ((i2.2.2:Int) < ((f.acts.length:Nat):Int)))
 (.r 4 (.p (ixP (i2.2.2:Int) f.acts.length)) fun _ =>
 .br ((((((f.acts.getD i2.2.2 default).kind) != 1)&&(((f.acts.getD i2.2.2 default).kind) != 3))&&(((f.acts.getD i2.2.2 default).kind) != 4))||(decide (((f.acts.getD i2.2.2 default).day) > day)))
 (.r 8 .z fun _ =>
 .wi 13 (w64 ((i2.2.2:Int)+1)) ((i2.2.2+1:Nat):Int) <|
 .fin (.inr (i2.1,i2.2.1,i2.2.2+1)))
 (.br ((!i2.2.1)||(decide (((f.acts.getD i2.2.2 default).day) < i2.1)))
 (.r 8 .z fun _ =>
 .wi 13 (w64 ((i2.2.2:Int)+1)) ((i2.2.2+1:Nat):Int) <|
 .fin (.inr ((f.acts.getD i2.2.2 default).day,true,i2.2.2+1)))
 (.r 8 .z fun _ =>
 .wi 13 (w64 ((i2.2.2:Int)+1)) ((i2.2.2+1:Nat):Int) <|
 .fin (.inr (i2.1,i2.2.1,i2.2.2+1)))))
 (.fin (.inl (.inr (i2.1,i2.2.1)))))
 (fun (b1:Int × Bool)=>⟨[(6,iv b1.1),(7,bv b1.2)],[]⟩) fun b1 =>
 .fin (b1.1,b1.2)
def vI (f:jh) (day:Int):Int × Bool:=(vV f day).val
theorem HX (f:jh) (day:Int):(vV f day).obs (fun _=>True):=by
 unfold vV
 exact okD
def uq (f:jh) (day:Int):Ctr (Int × Bool):=kk tok mixed Tryz.func181 [av f.cells,iv day] (fun x=>.tup [iv x.1,bv x.2]) true (vV f day) (vI f day) (fun (_:True)=>HX f day)
def vj (f:jh) (part:Int) (day:Int):Sk (Unit) :=
 .fin ()
def VZ (f:jh) (part:Int) (day:Int):Unit:=(vj f part day).val
theorem Qu (f:jh) (part:Int) (day:Int):VZ f part day=():=rfl
theorem Xv (f:jh) (part:Int) (day:Int):(vj f part day).obs (fun _=>True):=by
 unfold vj
 exact okE
def vN (f:jh) (part:Int) (day:Int):Ctr (Unit):=kk tok mixed Tryz.func182 [av f.cells,iv part,iv day] (fun x=>.fn 216 [.ref f.cells,.ref [dI day],.ref [dI part]]) false (vj f part day) (VZ f part day) (fun (_:True)=>Xv f part day)
end
end Go.Proofs.YtilbddpghnnmhaaGreatDoor
namespace Go.Proofs.YtilbddpghnnmhaaGreatDoor
noncomputable section
open Go Go.Av
set_option linter.unusedSimpArgs false
set_option linter.unusedVariables false
set_option maxHeartbeats 1000000
set_option maxRecDepth 100000
def zaR (f:jh) (day part:Int) (i:Nat):Bool :=
 ((((f.signs.getD i default).kind == 2)&&((f.signs.getD i default).part == part))&&decide ((f.signs.getD i default).day≤day))&&!(km (qH f day) ((i:Nat):Int) false)
def jO (f:jh) (day part:Int):List (Int × qt):=((List.range f.signs.length).filter (zaR f day part)).map fun i=>(((i:Nat):Int),f.signs.getD i default)
def zgi (y:Int × qt):List AV:=[iv y.1,av y.2.cells]
def zs0:Code:=Tryz.f216.body.getD .skip
def znJ:Code:=cA (cA (cB (cB zs0)))
def zli:Code:=cA (cB (cB znJ))
def zn0:Array Oper:=opsOf (cA (cB (cA zli)))
def zp9 (f:jh) (day part:Int) (m:List (Int × Bool)) (i:Nat):List (Nat × AV):=[(2,.ref [dI day]),(3,.ref [dI part]),(5,pmM dB m),(12,lv qt.cells f.signs),(13,iv ((f.signs.length:Nat):Int)),(14,iv ((i:Nat):Int))]
def Ua (f:jh) (day part:Int) (i:Nat):Nat:=((List.range i).filter (zaR f day part)).length
def zrb:List Item:=[.code (cB (cB (cA zli))),.inBlock 1,.code (cB (cB (cB znJ))),.inLoop znJ,.inBlock 0]
theorem znM (f:jh) (day part:Int) {i:Nat} (hi:i < f.signs.length) (h:zaR f day part i=true):((jO f day part).map zgi)[Ua f day part i]? = some (zgi (((i:Nat):Int),f.signs.getD i default)):=by
 have e:List.range f.signs.length=List.range i++i :: (List.range' (i+1) (f.signs.length - i - 1)):=by
  rw [List.range_eq_range',List.range_eq_range']
  have h1:=List.range'_append (s:=0) (m:=i) (n:=f.signs.length - i) (step:=1)
  have h2:f.signs.length - i=(f.signs.length - i - 1)+1:=by omega
  rw [show f.signs.length=i+(f.signs.length - i) by omega,← h1,h2,List.range'_succ]
  simp
 unfold jO Ua
 rw [e,List.filter_append,List.filter_cons_of_pos h]
 simp
theorem zmc (f:jh) (day part:Int) (i:Nat):Ua f day part (i+1)=bif zaR f day part i then Ua f day part i+1 else Ua f day part i:=by
 unfold Ua
 rw [List.range_succ,List.filter_append]
 cases h:zaR f day part i <;> simp [h]
def zbl (q:Nat):Oper:=zn0.getD q default
def zn3 (f:jh) (day part:Int) (i:Nat) (sl:List (Nat × AV)):St:=⟨sl++[(6,iv ((i:Nat):Int)),(7,.ptr 7 0)]++zp9 f day part (qH f day) i,[(7,.box ((f.signs.getD i default).cells.map .d))]⟩
def zdg (f:jh) (i:Nat):Sk Bool :=
 .bnd 12 0 f.signs.length <| .br (decide (((i:Nat):Int) < ((f.signs.length:Nat):Int))) (.r 3 (.p (ixP ((i:Nat):Int) f.signs.length)) fun _=>.fin true) (.fin false)
def zrI (f:jh) (i:Nat):Sk Unit :=
 .bnd 12 0 f.signs.length <| .brf <| .r 5 .z fun _=>.wi 14 (w64 (((i:Nat):Int)+1)) ((i+1:Nat):Int) <| .fin ()
def zpZ (f:jh) (day part:Int) (i:Nat):Cal Unit :=
 .wh ((((f.signs.getD i default).kind == 2)&&((f.signs.getD i default).part == part))&&decide ((f.signs.getD i default).day≤day)) true (.andl (.t (Jy dB (qH f day))) (.o [.cast 37 (zlM dB (qH f day) ((i:Nat):Int) false)]))
theorem UO (f:jh) (day part:Int):ItA Tryz.prog 216 [.ref f.cells,.ref [dI day],.ref [dI part]] ((jO f day part).map zgi):=by
 refine ItA.intro (T:=TT) Tryz.func216 rfl (by kernel_rfl) (Nat.le_of_ble_eq_true (by kernel_rfl)) (fun X=>?_)
 have hr4:cA (cB (cA zli))=.region 4 zn0 false:=by kernel_rfl
 have hrg:List.range' 22 (zn0.size - 22)=[22,23,24,25,26,27]:=by kernel_rfl
 have key:∀ d i,i+d=f.signs.length→G (X.g TT Tryz.f216 (X.H (Ua f day part i))) [.code znJ,.inLoop znJ,.inBlock 0] ⟨zp9 f day part (qH f day) i,[]⟩:=by
  intro d
  induction d with
  | zero =>
   intro i hi
   refine ItX.sk tok mixed Tryz.func216 _ (zdg f i) (fun b=>bif b then .go (.code (cA (cB (cA zli))) :: zrb) (zn3 f day part i []) else .go [] ⟨[],[]⟩) 100 (by kernel_rfl) ?_ ?_
   ·refine Sk.obs_of _ ?_
    simp only [zdg,Sk.obq,Cal.p,ixP,implies_true,and_true]
    intro h hd
    simp at hd
    omega
   ·intro a ha
    have:(zdg f i).val=false:=by simp only [zdg,Sk.val]; simp; omega
    rw [this] at ha
    subst ha
    refine (ItX.ret Tryz.func216 (by kernel_rfl) (fun C h=>.inl ?_)).1
    have e:Ua f day part i=((jO f day part).map zgi).length:=by
     have:i=f.signs.length:=by omega
     subst this
     simp [Ua,jO]
    rw [← e]
    exact h
  | succ d ih =>
   intro i hi
   have hlt:i < f.signs.length:=by omega
   refine ItX.sk tok mixed Tryz.func216 _ (zdg f i) (fun b=>bif b then .go (.code (cA (cB (cA zli))) :: zrb) (zn3 f day part i []) else .go [] ⟨[],[]⟩) 100 (by kernel_rfl) ?_ ?_
   ·refine Sk.obs_of _ ?_
    simp only [zdg,Sk.obq,Cal.p,ixP,implies_true,and_true]
    intro _ _
    omega
   ·intro a ha
    have:(zdg f i).val=true:=by simp only [zdg,Sk.val]; simp; omega
    rw [this] at ha
    subst ha
    show G _ _ _
    rw [hr4]
    -- behind the yield
    have next:∀ st,LeS st ⟨(46,bv false) :: zp9 f day part (qH f day) i,[]⟩→G (X.g TT Tryz.f216 (X.H (Ua f day part (i+1)))) zrb st:=by
     intro st hst
     refine .le hst ?_
     refine ItX.sk tok mixed Tryz.func216 _ (zrI f i) (fun _=>.go [.inLoop znJ,.inBlock 0] ⟨zp9 f day part (qH f day) (i+1),[]⟩) 100 (by kernel_rfl) ?_ (fun _ _=>.inLoop (ih (i+1) (by omega)))
     refine Sk.obs_of _ ?_
     simp only [zrI,Sk.obq,Cal.z,maxLen,implies_true,and_true]
     intro h
     refine ⟨trivial,fun _ _ _=>?_⟩
     refine (jj ?_ ?_).trans ?_ <;> omega
    refine G.yr ?_
    refine YW.preC tok mixed (zpZ f day part i) 22 (fun _=>zn3 f day part i [(40,bv (zaR f day part i))]) (by kernel_rfl) (Nat.le_of_ble_eq_true (by kernel_rfl)) (fun _=>by kernel_rfl) ?_ ?_
    ·simp [zpZ,Cal.wh,Cal.andl,Cal.t,Cal.o]
    rw [hrg]
    refine YW.know (s:=40) (b:=zaR f day part i) rfl (Nat.le_of_ble_eq_true (by kernel_rfl)) ?_
    have hcs:=zmc f day part i
    cases he:zaR f day part i with
    | true =>
     rw [he,cond_true] at hcs
     refine YW.mvC (o:=zbl 22) (d:=41) (u:=0) (by kernel_rfl) (by kernel_rfl) (by kernel_rfl) (by simp) (by kernel_rfl) ?_
     refine YW.opC tok mixed (o:=zbl 23) (zn3 f day part i [(42,iv ((i:Nat):Int))]) (by kernel_rfl) (by kernel_rfl) (by kernel_rfl) ?_
     refine YW.opC tok mixed (o:=zbl 24) (zn3 f day part i [(43,av (f.signs.getD i default).cells),(42,iv ((i:Nat):Int))]) (by kernel_rfl) (by kernel_rfl) (by kernel_rfl) ?_
     refine YW.ylC (o:=zbl 25) (d:=44) (u:=41) (n:=Ua f day part i) (ts:=[42,43]) (c:={ callee:=.value (.tmp 41),args:=#[.tmp 42,.tmp 43],argTypes:=#[3,147] }) (by kernel_rfl) (by kernel_rfl) (by kernel_rfl) rfl (by simp) (by kernel_rfl) (znM f day part hlt he) rfl (by kernel_rfl) (by kernel_rfl) ?_ ?_
     ·refine YW.opC tok mixed (o:=zbl 26) (zn3 f day part i [(45,bv false)]) (by kernel_rfl) (by kernel_rfl) (by kernel_rfl) ?_
      refine YW.pickC (o:=zbl 27) (d:=46) (x:=.tmp 45) (y:=.const (.bool false)) false (by kernel_rfl) (by kernel_rfl) (by kernel_rfl) (by kernel_rfl) (by kernel_rfl) ?_
      refine YW.nil (T:=TT) (fn:=Tryz.f216) (by simp) ?_
      rw [← hcs]
      exact next _ (zox (by kernel_rfl))
     ·refine YW.opC tok mixed (o:=zbl 26) (zn3 f day part i [(45,bv true)]) (by kernel_rfl) (by kernel_rfl) (by kernel_rfl) ?_
      refine YW.pickC (o:=zbl 27) (d:=46) (x:=.tmp 45) (y:=.const (.bool false)) true (by kernel_rfl) (by kernel_rfl) (by kernel_rfl) (by kernel_rfl) (by kernel_rfl) ?_
      refine YW.nil (T:=TT) (fn:=Tryz.f216) (by simp) ?_
      refine ItX.sk tok mixed Tryz.func216 _ (.brt (.fin ()):Sk Unit) (fun _=>.go (.code .ret :: zrb.tail) ⟨[],[]⟩) 100 (by kernel_rfl) trivial (fun _ _=>(ItX.ret Tryz.func216 (by kernel_rfl) (fun C h=>.inr h)).2 _)
    | false =>
     rw [he,cond_false] at hcs
     refine YW.skipC (o:=zbl 22) (d:=41) (by kernel_rfl) (by kernel_rfl) (by kernel_rfl) ?_
     refine YW.skipC (o:=zbl 23) (d:=42) (by kernel_rfl) (by kernel_rfl) (by kernel_rfl) ?_
     refine YW.skipC (o:=zbl 24) (d:=43) (by kernel_rfl) (by kernel_rfl) (by kernel_rfl) ?_
     refine YW.skipC (o:=zbl 25) (d:=44) (by kernel_rfl) (by kernel_rfl) (by kernel_rfl) ?_
     refine YW.skipC (o:=zbl 26) (d:=45) (by kernel_rfl) (by kernel_rfl) (by kernel_rfl) ?_
     refine YW.pickC (o:=zbl 27) (d:=46) (x:=.tmp 45) (y:=.const (.bool false)) false (by kernel_rfl) (by kernel_rfl) (by kernel_rfl) (by kernel_rfl) (by kernel_rfl) ?_
     refine YW.nil (T:=TT) (fn:=Tryz.f216) (by simp) ?_
     rw [← hcs]
     exact next _ (zox (by kernel_rfl))
 refine ItX.sk tok mixed Tryz.func216 _ (.r 0 ((KX f day).c) fun m=>.r 1 .z fun _=>.fin m:Sk (List (Int × Bool))) (fun m=>.go [.code (.loop znJ),.inBlock 0] ⟨zp9 f day part m 0,[]⟩) 100 (by kernel_rfl) ?_ (fun m hm=>?_)
 ·refine Sk.obs_of _ ?_
  simp [Sk.obq,Cal.z,Ctr.c,kk,KX]
 ·have hm:m=qH f day:=hm
  subst hm
  exact .loopIn (key f.signs.length 0 (by omega))
def zi (f:jh) (day part:Int):ItC (Int × qt):=⟨Tryz.prog,216,[.ref f.cells,.ref [dI day],.ref [dI part]],jO f day part,zgi,True,fun _=>UO f day part⟩
end
end Go.Proofs.YtilbddpghnnmhaaGreatDoor
