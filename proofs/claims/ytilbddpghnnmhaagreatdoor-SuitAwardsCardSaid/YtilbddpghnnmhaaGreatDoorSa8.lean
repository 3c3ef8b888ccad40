/- Functions, as sketches. -/
import Derived.Test.YtilbddpghnnmhaaGreatDoorSa7
import Derived.Test.YtilbddpghnnmhaaGreatDoorAvYl
namespace Go.Proofs.YtilbddpghnnmhaaGreatDoor
noncomputable section
open Go Go.Av
set_option linter.unusedSimpArgs false
set_option linter.unusedVariables false
set_option maxHeartbeats 1000000
set_option maxRecDepth 100000
def vp (r:jg) (city:Int) (day:Int):Sk (Int × Int) :=
 .r 1 ((ki r city).c) fun x1 =>
 .loop (default:Int × Int) (fun i2=>(0:Int)≤i2∧i2≤100001) (fun i2=>(100001 - i2).toNat) (day:Int)
 (fun (i2:Int)=>⟨[(2,iv i2)],[]⟩) fun i2 =>
 .r 2 ((Wy r x1 i2).c) fun x3 =>
 .r 3 (.andl (.p (ixP city r.cities.length)) ((uV (r.cities.getD city.toNat default) x3).c)) fun x4 =>
 .br (x4.2 != 0)
 (.fin (.inl (0,3)))
 (.br (x4.1 == x3)
 (.fin (.inl (x3,0)))
 (.fin (.inr x4.1)))
def zbm (r:jg) (city:Int) (day:Int):Int × Int:=(vp r city day).val
theorem zcD (r:jg) (city:Int) (day:Int) (hP:(0≤city∧city < (r.cities.length:Int))∧(0≤day∧day≤100001)∧r.HaltOK):(vp r city day).pst (fun (x:Int × Int)=>x.2=0→0≤x.1∧x.1≤100001):=by
 refine Sk.pst_of _ ?_
 unfold vp
 simp only [Sk.pstq,Sk.isLoop,reduceCtorEq,ON,kk,uV,ki,Wy,jg.HaltOK,maxLen]
 obtain ⟨hc,hd,hh⟩:=hP
 intro _ _
 refine ⟨hd,fun i hi y hy hyp x hx hxp=>⟨fun _ h=>absurd h (by decide),fun he=>⟨fun hq=>?_,fun hq=>⟨?_,?_⟩⟩⟩⟩
 all_goals have h2:=hyp ⟨hh,hi⟩
 all_goals simp only [LN] at he hq
 all_goals have h3:=hxp he
 all_goals omega
theorem BS (r:jg) (city:Int) (day:Int):(fun (x:Int × Int)=>((0≤city∧city < (r.cities.length:Int))∧(0≤day∧day≤100001)∧r.HaltOK)→(x.2=0→0≤x.1∧x.1≤100001)) (zbm r city day):=fun hP=>Sk.pval _ (zcD r city day hP)
theorem zdp (r:jg) (city:Int) (day:Int) (hc:0≤city∧city < (r.cities.length:Int)) (hd:0≤day∧day≤100001) (hh:r.HaltOK):(vp r city day).obs (fun _=>True):=by
 simp only [jg.HaltOK] at hh
 unfold vp
 try simp only [uV,ki,Wy,jg.HaltOK]
 exact okD
def Uy (r:jg) (city:Int) (day:Int):Ctr (Int × Int):=kk tok mixed Tryz.func106 [av r.cells,iv city,iv day] (fun x=>.tup [iv x.1,iv x.2]) true (vp r city day) (zbm r city day) (fun (h:(0≤city∧city < (r.cities.length:Int))∧(0≤day∧day≤100001)∧(r.HaltOK))=>zdp r city day h.1 h.2.1 h.2.2) (fun (x:Int × Int)=>((0≤city∧city < (r.cities.length:Int))∧(0≤day∧day≤100001)∧r.HaltOK)→(x.2=0→0≤x.1∧x.1≤100001)) (BS r city day)
def gB (r:jg) (b:vN) (seen:Int) (grace:Int):Sk (Int × Int) :=
 .r 2 (.dep ((yg r).c) fun x1=>.dep (.wh (x1 != 0) false ((KW r b.city).c)) fun x2=>.dep (.wh ((x1 != 0)||(!x2)) false ((KW r b.pay).c)) fun x3=>.wh (((x1 != 0)||(!x2))||(!x3)) false ((Jk b.day).c)) fun p10 =>
 .br ((((p10.1 != 0)||(!p10.2.1))||(!p10.2.2.1))||(!p10.2.2.2))
 (.fin (0,1))
 (.br ((((decide (b.tenor.kind < 0))||(decide (b.tenor.kind≥5)))||(decide (b.tenor.unit < 0)))||(decide (b.tenor.unit≥2)))
 (.fin (0,1))
 (.r 6 (.wh (seen != (-1)) true ((Jk seen).c)) fun x5 =>
 .br ((((seen != (-1))&&(!x5))||(decide (grace < 0)))||(decide (grace > 20000)))
 (.fin (0,1))
 (.r 8 ((Um b.tenor).c) fun x6 =>
 .br (x6&&(seen == (-1)))
 (.fin (0,4))
 (.r 10 ((Wj r b seen).c) fun x7 =>
 .br (x7.2 != 0)
 (.fin (0,x7.2))
 (.r 13 ((Jk x7.1).c) fun x8 =>
 .br ((!x8)||(decide ((w64 (x7.1+grace)) > 100000)))
 (.fin (0,3))
 (.r 15 ((Uy r b.pay (w64 (x7.1+grace))).c) fun x9 =>
 .fin (x9.1,x9.2)))))))
def zjy (r:jg) (b:vN) (seen:Int) (grace:Int):Int × Int:=(gB r b seen grace).val
theorem ziV (r:jg) (b:vN) (seen:Int) (grace:Int):(gB r b seen grace).pst (fun (x:Int × Int)=>x.2=0→0≤x.1∧x.1≤100001):=by
 refine Sk.pst_of _ ?_
 unfold gB
 simp only [Sk.pstq,Sk.isLoop,reduceCtorEq,ON,kk,yg,Um,Wj,KW,Jk,Uy,Xb,WV,HA,forall_eq,jh.Small,jg.Small,jg.HaltOK,maxLen]
 intro hr
 refine ⟨fun _ h=>absurd h (by decide),fun h1=>⟨fun _ h=>absurd h (by decide),fun _=>⟨fun _ h=>absurd h (by decide),fun h3=>⟨fun _ h=>absurd h (by decide),fun _=>⟨fun h h'=>by rw [h'] at h; exact absurd h (by decide),fun h4=>⟨fun _ h=>absurd h (by decide),fun h5 himp=>?_⟩⟩⟩⟩⟩⟩
 simp only [LN] at h1 h5
 have e:∀ x g:Int,0≤x∧x≤100000→0≤g∧g≤20000→0≤w64 (x+g):=fun x g h1 h2=>by rw [jj (by omega) (by omega)]; omega
 have h6:0≤grace∧grace≤20000:=by simp only [LN] at h3; omega
 refine himp ⟨by omega,⟨e _ _ h5.1 h6,by omega⟩,hr h1.1.1.1⟩
theorem zf7 (r:jg) (b:vN) (seen:Int) (grace:Int):(fun (x:Int × Int)=>x.2=0→0≤x.1∧x.1≤100001) (zjy r b seen grace):=have h:=Sk.pval _ (ziV r b seen grace); h
theorem zk0 (r:jg) (b:vN) (seen:Int) (grace:Int) (h_r_Small:r.Small):(gB r b seen grace).obs (fun _=>True):=by
 simp only [jh.Small,jg.Small,jg.HaltOK] at h_r_Small
 unfold gB
 try simp only [yg,Um,Wj,KW,Jk,Uy,Xb,WV,HA,jh.Small,jg.Small,jg.HaltOK]
 exact okG
def zcK (r:jg) (b:vN) (seen:Int) (grace:Int):Ctr (Int × Int):=kk tok mixed Tryz.func74 [av r.cells,av b.cells,iv seen,iv grace] (fun x=>.tup [iv x.1,iv x.2]) true (gB r b seen grace) (zjy r b seen grace) (fun (h:(r.Small))=>zk0 r b seen grace h) (fun (x:Int × Int)=>x.2=0→0≤x.1∧x.1≤100001) (zf7 r b seen grace)
def Ju (r:jg) (forum:Int) (f:jh) (day:Int):Sk (Int) :=
 .r 1 ((jt f day).c) fun x1 =>
 .br (((x1.signs.length:Nat):Int) == 0)
 (.fin (-1))
 (.r 4 (.dep ((JT r forum 6 x1 day).c) fun x2=>(KT x2).c) fun p7 =>
 .r 5 (.dep ((QM x1).c) fun x4=>(zcK r x1.bill x4 (jP p7.2 0)).c) fun p6 =>
 .br (p6.2.2 != 0)
 (.fin (-1))
 (.fin p6.2.1))
def gM (r:jg) (forum:Int) (f:jh) (day:Int):Int:=(Ju r forum f day).val
theorem zdo (r:jg) (forum:Int) (f:jh) (day:Int) (h_f_Small:f.Small) (h_r_ByOK:r.ByOK) (h_r_Small:r.Small):(Ju r forum f day).obs (fun _=>True):=by
 simp only [jh.Small,jg.Small,jg.ByOK] at h_f_Small
 simp only [jh.Small,jg.Small,jg.ByOK] at h_r_ByOK
 simp only [jh.Small,jg.Small,jg.ByOK] at h_r_Small
 unfold Ju
 try simp only [JT,KT,jt,QM,zcK,jh.Small,jg.Small,jg.ByOK]
 exact okD
def jO (r:jg) (forum:Int) (f:jh) (day:Int):Ctr (Int):=kk tok mixed Tryz.func49 [av r.cells,iv forum,av f.cells,iv day] (fun x=>iv x) true (Ju r forum f day) (gM r forum f day) (fun (h:(f.Small)∧(r.ByOK)∧(r.Small))=>zdo r forum f day h.1 h.2.1 h.2.2)
def Qi (r:jg) (forum:Int) (f:jh) (day:Int):Sk (kV × Bool) :=
 .br ((decide (forum < 0))||(decide (forum≥((r.orders.length:Nat):Int))))
 (.fin (({ view:=({ all:=({ bill:=({ drawer:=0,drawee:=0,payee:=0,sum:=0,currency:=0,tenor:=({ kind:=0,n:=0,unit:=0 }:uT),day:=0,city:=0,pay:=0,need:=0,rate:=0,flags:=0,parts:=0 }:vN),signs:=[],alters:=[],acts:=[],facts:=[] }:jh),now:=({ bill:=({ drawer:=0,drawee:=0,payee:=0,sum:=0,currency:=0,tenor:=({ kind:=0,n:=0,unit:=0 }:uT),day:=0,city:=0,pay:=0,need:=0,rate:=0,flags:=0,parts:=0 }:vN),signs:=[],alters:=[],acts:=[],facts:=[] }:jh),day:=0,lead:=[] }:kM),r:=({ currencies:=[],cities:=[],groups:=[],firms:=[],orders:=[],usances:=[],rates:=[],halts:=[] }:jg),forum:=0,due:=0 }:kV),false))
 (.r 3 (.dep ((Bh f day).c) fun _=>(jO r forum f day).c) fun p3 =>
 .fin (({ view:=p3.1,r:=r,forum:=forum,due:=p3.2 }:kV),true))
def jv (r:jg) (forum:Int) (f:jh) (day:Int):kV × Bool:=(Qi r forum f day).val
theorem zmK (r:jg) (forum:Int) (f:jh) (day:Int):(Qi r forum f day).pst (fun (x:kV × Bool)=>x.2=true→x.1=⟨jV f day,r,forum,gM r forum f day⟩∧0≤forum∧forum < (r.orders.length:Int)):=by
 unfold Qi
 try simp only [jO,Bh,jh.Small,jg.Small,jg.ByOK]
 exact okP
theorem GX (r:jg) (forum:Int) (f:jh) (day:Int):(fun (x:kV × Bool)=>x.2=true→x.1=⟨jV f day,r,forum,gM r forum f day⟩∧0≤forum∧forum < (r.orders.length:Int)) (jv r forum f day):=have h:=Sk.pval _ (zmK r forum f day); h
theorem zmU (r:jg) (forum:Int) (f:jh) (day:Int) (h_f_Small:f.Small) (h_r_ByOK:r.ByOK) (h_r_Small:r.Small):(Qi r forum f day).obs (fun _=>True):=by
 simp only [jh.Small,jg.Small,jg.ByOK] at h_f_Small
 simp only [jh.Small,jg.Small,jg.ByOK] at h_r_ByOK
 simp only [jh.Small,jg.Small,jg.ByOK] at h_r_Small
 unfold Qi
 try simp only [jO,Bh,jh.Small,jg.Small,jg.ByOK]
 exact okD
def zbR (r:jg) (forum:Int) (f:jh) (day:Int):Ctr (kV × Bool):=kk tok mixed Tryz.func114 [av r.cells,iv forum,av f.cells,iv day] (fun x=>.tup [av x.1.cells,bv x.2]) false (Qi r forum f day) (jv r forum f day) (fun (h:(f.Small)∧(r.ByOK)∧(r.Small))=>zmU r forum f day h.1 h.2.1 h.2.2) (fun (x:kV × Bool)=>x.2=true→x.1=⟨jV f day,r,forum,gM r forum f day⟩∧0≤forum∧forum < (r.orders.length:Int)) (GX r forum f day)
structure ke where
 sign:Int
 kind:Int
 firm:Int
 binds:Int
 text:Int
 sum:Int
 recourse:Bool
 deriving Inhabited
def ke.cells (c:ke):List D:=[dI c.sign,dI c.kind,dI c.firm,dI c.binds,dI c.text,dI c.sum,dB c.recourse]
def ke.E:Enc ke:=⟨ke.cells,7,fun _=>rfl,fun _=>rfl⟩
structure vR where
 r:jg
 forum:Int
 day:Int
 f:jh
 form:Int
 due:Int
 deriving Inhabited
def vR.cells (c:vR):List D:=c.r.cells++[dI c.forum,dI c.day]++c.f.cells++[dI c.form,dI c.due]
def vR.E:Enc vR:=⟨vR.cells,31,fun _=>rfl,fun _=>rfl⟩
def Wl (s:Said):Sk (Int) :=
 .br (s.err != 0)
 (.fin 0)
 (.br (!s.cell.known)
 (.fin 2)
 (.br (s.cell.n != 0)
 (.fin 1)
 (.fin 0)))
def zq9 (s:Said):Int:=(Wl s).val
theorem zm7 (s:Said):(Wl s).obs (fun _=>True):=by
 unfold Wl
 exact okE
def qE (s:Said):Ctr (Int):=kk tok mixed Tryz.func50 [av s.cells] (fun x=>iv x) true (Wl s) (zq9 s) (fun (_:True)=>zm7 s)
def gQ (r:jg) (forum:Int) (f:jh) (day:Int):Sk (vR) :=
 .r 1 ((jt f day).c) fun x1 =>
 .r 2 (.dep ((JT r forum 0 x1 day).c) fun x2=>.dep ((qE x2).c) fun _=>(jO r forum x1 day).c) fun p5 =>
 .fin ({ r:=r,forum:=forum,day:=day,f:=x1,form:=p5.2.1,due:=p5.2.2 }:vR)
def zjC (r:jg) (forum:Int) (f:jh) (day:Int):vR:=(gQ r forum f day).val
theorem ziR (r:jg) (forum:Int) (f:jh) (day:Int):(gQ r forum f day).pst (fun (x:vR)=>x.f=ji f day∧x.r=r):=by
 unfold gQ
 try simp only [JT,jO,qE,jt,jh.Small,jg.Small,jg.ByOK]
 exact okP
theorem zf9 (r:jg) (forum:Int) (f:jh) (day:Int):(fun (x:vR)=>x.f=ji f day∧x.r=r) (zjC r forum f day):=have h:=Sk.pval _ (ziR r forum f day); h
theorem zkL (r:jg) (forum:Int) (f:jh) (day:Int) (h_f_Small:f.Small) (h_r_ByOK:r.ByOK) (h_r_Small:r.Small):(gQ r forum f day).obs (fun _=>True):=by
 simp only [jh.Small,jg.Small,jg.ByOK] at h_f_Small
 simp only [jh.Small,jg.Small,jg.ByOK] at h_r_ByOK
 simp only [jh.Small,jg.Small,jg.ByOK] at h_r_Small
 unfold gQ
 try simp only [JT,jO,qE,jt,jh.Small,jg.Small,jg.ByOK]
 exact okD
def Kj (r:jg) (forum:Int) (f:jh) (day:Int):Ctr (vR):=kk tok mixed Tryz.func144 [av r.cells,iv forum,av f.cells,iv day] (fun x=>av x.cells) false (gQ r forum f day) (zjC r forum f day) (fun (h:(f.Small)∧(r.ByOK)∧(r.Small))=>zkL r forum f day h.1 h.2.1 h.2.2) (fun (x:vR)=>x.f=ji f day∧x.r=r) (zf9 r forum f day)
def Jv (f:jh) (day:Int):Sk ((List (Int × Bool))) :=
 .r 1 (.o [.nrmm (mkM dB)]) fun _ =>
 .bind true (fun _=>True)
 (.loop (default:Sum ((List (Int × Bool))) ((List (Int × Bool)))) (fun i2=>i2.1≤f.acts.length) (fun i2=>f.acts.length - i2.1) ((0,([]:List (Int × Bool))):Nat × (List (Int × Bool)))
 (fun (i2:Nat × (List (Int × Bool)))=>⟨[(12,iv (i2.1:Int))],[(8,mpM dB i2.2)]⟩) fun i2 =>
 .bnd 10 0 f.acts.length <|
 .br (decide ((i2.1:Int) < ((f.acts.length:Nat):Int)))
 (.r 4 (.p (ixP (i2.1:Int) f.acts.length)) fun _ =>
 .br ((((f.acts.getD i2.1 default).kind) == 7)&&(decide (((f.acts.getD i2.1 default).day)≤day)))
 (.r 6 (.andl (.t (Je dB i2.2)) (.o [.nrmm (znB dB i2.2 ((f.acts.getD i2.1 default).at_) true)])) fun _ =>
 .r 7 .z fun _ =>
 .wi 12 (w64 ((i2.1:Int)+1)) ((i2.1+1:Nat):Int) <|
 .fin (.inr (i2.1+1,gn i2.2 ((f.acts.getD i2.1 default).at_) true)))
 (.r 7 .z fun _ =>
 .wi 12 (w64 ((i2.1:Int)+1)) ((i2.1+1:Nat):Int) <|
 .fin (.inr (i2.1+1,i2.2))))
 (.fin (.inl (.inr i2.2))))
 (fun (b1:(List (Int × Bool)))=>⟨[],[(8,mpM dB b1)]⟩) fun b1 =>
 .fin b1
def qD (f:jh) (day:Int):(List (Int × Bool)):=(Jv f day).val
theorem zdI (f:jh) (day:Int):(Jv f day).obs (fun _=>True):=by
 unfold Jv
 exact okD
def KA (f:jh) (day:Int):Ctr ((List (Int × Bool))):=kk tok mixed Tryz.func214 [av f.cells,iv day] (fun x=>pmM dB x) false (Jv f day) (qD f day) (fun (_:True)=>zdI f day)
def JN (f:jh) (sign:Int) (day:Int):Sk (Bool) :=
 .r 1 (.depr (.wh ((decide (sign≥0))&&(decide (sign < ((f.signs.length:Nat):Int)))) true ((KA f day).c)) fun x1=>.wh ((decide (sign≥0))&&(decide (sign < ((f.signs.length:Nat):Int)))) true (.andl (.t (Je dB x1)) (.o [.cast 21 (zlb dB x1 sign false)]))) fun x1 =>
 .fin (((decide (sign≥0))&&(decide (sign < ((f.signs.length:Nat):Int))))&&(kf x1 sign false))
def zks (f:jh) (sign:Int) (day:Int):Bool:=(JN f sign day).val
theorem zdF (f:jh) (sign:Int) (day:Int):(JN f sign day).obs (fun _=>True):=by
 unfold JN
 try simp only [KA]
 exact okE
def Ui (f:jh) (sign:Int) (day:Int):Ctr (Bool):=kk tok mixed Tryz.func178 [av f.cells,iv sign,iv day] (fun x=>bv x) true (JN f sign day) (zks f sign day) (fun (_:True)=>zdF f sign day)
def yJ (v:vR) (question:Int) (sign:Int):Sk (Int) :=
 .r 2 (.dep ((qH v.r v.forum question ({ file:=v.f,sign:=sign,holder:=sign,defence:=(-1),due:=v.due,day:=v.day }:ka)).c) fun x1=>(qE x1).c) fun p3 =>
 .fin p3.2
def zgE (v:vR) (question:Int) (sign:Int):Int:=(yJ v question sign).val
theorem zbk (v:vR) (question:Int) (sign:Int) (h_v_f_Small:v.f.Small) (h_v_r_ByOK:v.r.ByOK) (h_v_r_Small:v.r.Small):(yJ v question sign).obs (fun _=>True):=by
 unfold yJ
 try simp only [qH,qE]
 exact okD
def qT (v:vR) (question:Int) (sign:Int):Ctr (Int):=kk tok mixed Tryz.func179 [av v.cells,iv question,iv sign] (fun x=>iv x) true (yJ v question sign) (zgE v question sign) (fun (h:(v.f.Small)∧(v.r.ByOK)∧(v.r.Small))=>zbk v question sign h.1 h.2.1 h.2.2)
def jn:List Int→Int→Int
 | [],o=>o
 | x :: r,o=>if x=0 then 0 else if x=2 then jn r 2 else jn r o
theorem zaE {l:List Int} {n:Nat} (h:n < l.length) (o:Int):jn (l.drop n) o=if l.getD n default=0 then 0 else if l.getD n default=2 then jn (l.drop (n+1)) 2 else jn (l.drop (n+1)) o:=by
 rw [List.drop_eq_getElem_cons h]
 simp only [jn,List.getD,List.getElem?_eq_getElem h,Option.getD_some]
def gI (l:List Int):Sk (Int) :=
 .bind true (fun b1=>b1=jn l 1)
 (.loop (default:Sum (Int) (Int)) (fun i2=>i2.2≤l.length∧jn l 1=jn (l.drop i2.2) i2.1) (fun i2=>l.length - i2.2) ((1,0):Int × Nat)
 (fun (i2:Int × Nat)=>⟨[(3,iv i2.1),(8,iv (i2.2:Int))],[]⟩) fun i2 =>
 .bnd 6 0 l.length <|
 .br (decide ((i2.2:Int) < ((l.length:Nat):Int)))
 (.r 4 (.p (ixP (i2.2:Int) l.length)) fun _ =>
 .br ((l.getD i2.2 default) == 0)
 (.fin (.inl (.inl 0)))
 (.br ((l.getD i2.2 default) == 2)
 (.r 9 .z fun _ =>
 .wi 8 (w64 ((i2.2:Int)+1)) ((i2.2+1:Nat):Int) <|
 .fin (.inr (2,i2.2+1)))
 (.r 9 .z fun _ =>
 .wi 8 (w64 ((i2.2:Int)+1)) ((i2.2+1:Nat):Int) <|
 .fin (.inr (i2.1,i2.2+1)))))
 (.fin (.inl (.inr i2.1))))
 (fun (b1:Int)=>⟨[(3,iv b1)],[]⟩) fun b1 =>
 .fin b1
def ziX (l:List Int):Int:=(gI l).val
theorem zid (l:List Int):(gI l).pst (fun (x:Int)=>x=jn l 1):=by
 refine Sk.pst_of _ ?_
 unfold gI
 simp only [Sk.pstq,Sk.isLoop,reduceCtorEq,ON,kk,maxLen]
 all_goals simp only [LN] at *
 refine ⟨⟨⟨Nat.zero_le _,by simp⟩,fun i hi=>⟨fun hc _=>⟨fun h=>?_,fun h=>⟨fun h2 _=>⟨⟨by omega,?_⟩,by omega⟩,fun h2 _=>⟨⟨by omega,?_⟩,by omega⟩⟩⟩,fun hc=>?_⟩⟩,fun b hb=>hb⟩
 ·rw [hi.2,zaE (by omega),if_pos h]
 ·rw [hi.2,zaE (by omega),if_neg h,if_pos h2]
 ·rw [hi.2,zaE (by omega),if_neg h,if_neg h2]
 ·rw [hi.2,List.drop_eq_nil_of_le (by omega)]; rfl
theorem XQ (l:List Int):(fun (x:Int)=>x=jn l 1) (ziX l):=have h:=Sk.pval _ (zid l); h
theorem zkg (l:List Int):(gI l).obs (fun _=>True):=by
 refine Sk.obs_of _ ?_
 unfold gI
 simp only [Sk.obq,Sk.isLoop,reduceCtorEq,ON,kk,maxLen]
 all_goals simp only [LN] at *
 have wi:∀ n:Nat,n < l.length→l.length≤9223372036854775807→w64 ((n:Int)+1)=((n+1:Nat):Int):=fun n h h1=>by rw [jj (by omega) (by omega)]; omega
 refine ⟨⟨Nat.zero_le _,by simp⟩,fun i hi hm=>⟨fun hc=>⟨by omega,fun _ h=>⟨fun h2 _=>⟨wi _ (by omega) (by omega),⟨by omega,?_⟩,by omega⟩,fun h2 _=>⟨wi _ (by omega) (by omega),⟨by omega,?_⟩,by omega⟩⟩⟩,fun hc=>?_⟩⟩
 ·rw [hi.2,zaE (by omega),if_neg h,if_pos h2]
 ·rw [hi.2,zaE (by omega),if_neg h,if_neg h2]
 ·rw [hi.2,List.drop_eq_nil_of_le (by omega)]; rfl
def Zc (l:List Int):Ctr (Int):=kk tok mixed Tryz.func45 [lv jz l] (fun x=>iv x) true (gI l) (ziX l) (fun (_:True)=>zkg l) (fun (x:Int)=>x=jn l 1) (XQ l)
def ui (f:jh) (i:Int):Sk (Int) :=
 .bind true (fun b1=>f.SumOK→0≤b1∧b1≤1099511627776)
 (.loop (default:Sum (Int) (Int)) (fun i2=>i2.2≤f.alters.length∧(f.SumOK→0≤i2.1∧i2.1≤1099511627776)) (fun i2=>f.alters.length - i2.2) ((f.bill.sum,0):Int × Nat)
 (fun (i2:Int × Nat)=>⟨[(5,iv i2.1),(14,iv (i2.2:Int))],[]⟩) fun i2 =>
 .bnd 12 0 f.alters.length <|
 .br (decide ((i2.2:Int) < ((f.alters.length:Nat):Int)))
 (.r 4 (.p (ixP (i2.2:Int) f.alters.length)) fun _ =>
 .br (decide (((f.alters.getD i2.2 default).at_)≤i))
 (.r 7 .z fun _ =>
 .wi 14 (w64 ((i2.2:Int)+1)) ((i2.2+1:Nat):Int) <|
 .fin (.inr ((f.alters.getD i2.2 default).sum,i2.2+1)))
 (.r 7 .z fun _ =>
 .wi 14 (w64 ((i2.2:Int)+1)) ((i2.2+1:Nat):Int) <|
 .fin (.inr (i2.1,i2.2+1))))
 (.fin (.inl (.inr i2.1))))
 (fun (b1:Int)=>⟨[(5,iv b1)],[]⟩) fun b1 =>
 .fin b1
def zcZ (f:jh) (i:Int):Int:=(ui f i).val
theorem zdV (f:jh) (i:Int) (hP:f.SumOK):(ui f i).pst (fun (x:Int)=>0≤x∧x≤1099511627776):=by
 refine Sk.pst_of _ ?_
 unfold ui
 simp only [Sk.pstq,Sk.isLoop,reduceCtorEq,ON,kk,maxLen]
 refine ⟨⟨⟨Nat.zero_le _,fun h=>h.1⟩,fun i hi=>⟨fun hc _=>?_,fun _=>hi.2⟩⟩,fun b hb=>hb hP⟩
 simp only [LN] at hc
 exact ⟨fun _ _=>⟨⟨by omega,fun h=>h.2.1 _ (by omega)⟩,by omega⟩,fun _ _=>⟨⟨by omega,hi.2⟩,by omega⟩⟩
theorem zbt (f:jh) (i:Int):(fun (x:Int)=>(f.SumOK)→(0≤x∧x≤1099511627776)) (zcZ f i):=fun hP=>Sk.pval _ (zdV f i hP)
theorem zgP (f:jh) (i:Int):(ui f i).obs (fun _=>True):=by
 refine Sk.obs_of _ ?_
 unfold ui
 simp only [Sk.obq,Sk.isLoop,reduceCtorEq,ON,kk,maxLen]
 refine ⟨⟨Nat.zero_le _,fun h=>h.1⟩,fun i hi hm=>⟨fun hc=>?_,fun _=>hi.2⟩⟩
 simp only [LN] at hc
 have hw:w64 ((i.2:Int)+1)=((i.2+1:Nat):Int):=(jj (by omega) (by omega)).trans (by omega)
 exact ⟨by omega,fun _=>⟨fun _ _=>⟨hw,⟨by omega,fun h=>h.2.1 _ (by omega)⟩,by omega⟩,fun _ _=>⟨hw,⟨by omega,hi.2⟩,by omega⟩⟩⟩
def YJ (f:jh) (i:Int):Ctr (Int):=kk tok mixed Tryz.func215 [av f.cells,iv i] (fun x=>iv x) true (ui f i) (zcZ f i) (fun (_:True)=>zgP f i) (fun (x:Int)=>(f.SumOK)→(0≤x∧x≤1099511627776)) (zbt f i)
def zg (v:vR) (sign:Int):Sk (Int × Int) :=
 .r 1 ((YJ v.f sign).c) fun x1 =>
 .bind true (fun b2=>b2=true→v.f.alters.length≠0)
 (.loop (default:Sum (Int × Int) (Bool)) (fun i3=>i3.2≤v.f.alters.length∧(i3.1=true→v.f.alters.length≠0)) (fun i3=>v.f.alters.length - i3.2) ((false,0):Bool × Nat)
 (fun (i3:Bool × Nat)=>⟨[(7,bv i3.1),(23,iv (i3.2:Int))],[]⟩) fun i3 =>
 .bnd 21 0 v.f.alters.length <|
 .br (decide ((i3.2:Int) < ((v.f.alters.length:Nat):Int)))
 (.r 6 (.p (ixP (i3.2:Int) v.f.alters.length)) fun _ =>
 .r 8 .z fun _ =>
 .wi 23 (w64 ((i3.2:Int)+1)) ((i3.2+1:Nat):Int) <|
 .fin (.inr (i3.1||(decide (((v.f.alters.getD i3.2 default).at_) > sign)),i3.2+1)))
 (.fin (.inl (.inr i3.1))))
 (fun (b2:Bool)=>⟨[(7,bv b2)],[]⟩) fun b2 =>
 .br (!b2)
 (.fin (0,x1))
 (.r 11 (.p (ixP (w64 (((v.f.alters.length:Nat):Int) - 1)) v.f.alters.length)) fun _ =>
 .r 12 ((qT v 4 sign).c) fun x4 =>
 .br (x4 == 1)
 (.fin (x4,(v.f.alters.getD ((w64 (((v.f.alters.length:Nat):Int) - 1)).toNat) default).sum))
 (.br (x4 == 2)
 (.fin (x4,qI x1 ((v.f.alters.getD ((w64 (((v.f.alters.length:Nat):Int) - 1)).toNat) default).sum)))
 (.fin (x4,x1))))
def XN (v:vR) (sign:Int):Int × Int:=(zg v sign).val
theorem Bu (v:vR) (sign:Int) (hP:v.f.SumOK∧v.f.Small):(zg v sign).pst (fun (x:Int × Int)=>0≤x.2∧x.2≤1099511627776):=by
 refine Sk.pst_of _ ?_
 unfold zg
 simp only [Sk.pstq,Sk.isLoop,reduceCtorEq,ON,kk,qT,YJ,maxLen]
 intro x _ hx
 have hx:=hx hP.1
 refine ⟨⟨Nat.zero_le _,fun i hi=>⟨fun hc _ _=>?_,fun _=>hi.2⟩⟩,fun b hb=>⟨fun _=>hx,fun hb2 _ y _=>?_⟩⟩
 ·simp only [LN] at hc
  exact ⟨⟨by omega,fun _=>by omega⟩,by omega⟩
 ·have hn:=hb (by simpa using hb2)
  have hl:=hP.2.2.1
  rw [jj (by omega) (by omega)]
  obtain ⟨h1,h2⟩:=hP.1.2.1 ((v.f.alters.length:Int) - 1).toNat (by omega)
  refine ⟨fun _=>⟨h1,h2⟩,fun _=>⟨fun _=>?_,fun _=>hx⟩⟩
  unfold qI
  split <;> omega
theorem Ft (v:vR) (sign:Int):(fun (x:Int × Int)=>(v.f.SumOK∧v.f.Small)→(0≤x.2∧x.2≤1099511627776)) (XN v sign):=fun hP=>Sk.pval _ (Bu v sign hP)
theorem BW (v:vR) (sign:Int) (h_v_f_Small:v.f.Small) (h_v_r_ByOK:v.r.ByOK) (h_v_r_Small:v.r.Small):(zg v sign).obs (fun _=>True):=by
 refine Sk.obs_of _ ?_
 unfold zg
 simp only [Sk.obq,Sk.isLoop,reduceCtorEq,ON,kk,qT,YJ,maxLen]
 intro x _ _
 refine ⟨⟨Nat.zero_le _,fun i hi hm=>⟨fun hc=>?_,fun _=>hi.2⟩⟩,fun b hb hb2=>?_⟩
 ·simp only [LN] at hc
  exact ⟨by omega,fun _ _=>⟨(jj (by omega) (by omega)).trans (by omega),⟨by omega,fun _=>by omega⟩,by omega⟩⟩
 ·have hn:=hb (by simpa using hb2)
  have hl:=h_v_f_Small.2.1
  rw [jj (by omega) (by omega)]
  exact ⟨by omega,fun _=>⟨h_v_f_Small,h_v_r_ByOK,h_v_r_Small⟩⟩
def Qk (v:vR) (sign:Int):Ctr (Int × Int):=kk tok mixed Tryz.func180 [av v.cells,iv sign] (fun x=>.tup [iv x.1,iv x.2]) true (zg v sign) (XN v sign) (fun (h:(v.f.Small)∧(v.r.ByOK)∧(v.r.Small))=>BW v sign h.1 h.2.1 h.2.2) (fun (x:Int × Int)=>(v.f.SumOK∧v.f.Small)→(0≤x.2∧x.2≤1099511627776)) (Ft v sign)
def qG (v:vR) (sign:Int):Sk (ke) :=
 .r 1 (.p (ixP sign v.f.signs.length)) fun _ =>
 .r 3 ((Ui v.f sign v.day).c) fun x1 =>
 .bind false (fun _=>True)
 (.br (!x1)
 (.r 4 (.dep ((qT v 1 sign).c) fun x3=>.dep ((qT v 2 sign).c) fun x4=>.andl (.o [.nrm (qt ky [v.form,x3,x4])]) ((Zc [v.form,x3,x4]).c)) fun p6 =>
 .fin (.inr p6.2.2))
 (.fin (.inr 0)))
 (fun (b2:Int)=>⟨[],[(6,.box [iv sign,iv ((v.f.signs.getD sign.toNat default).kind),iv ((v.f.signs.getD sign.toNat default).who),iv b2,iv 0,iv 0,bv ((((v.f.signs.getD sign.toNat default).kind) != 1)&&((kY .i64 ((v.f.signs.getD sign.toNat default).flags) 1) == 0))])]⟩) fun b2 =>
 .r 5 ((Qk v sign).c) fun x7 =>
 .br ((((v.f.signs.getD sign.toNat default).kind) == 1)||(((v.f.signs.getD sign.toNat default).kind) == 4))
 (.fin ({ sign:=sign,kind:=(v.f.signs.getD sign.toNat default).kind,firm:=(v.f.signs.getD sign.toNat default).who,binds:=b2,text:=x7.1,sum:=qI x7.2 ((v.f.signs.getD sign.toNat default).sum),recourse:=(((v.f.signs.getD sign.toNat default).kind) != 1)&&((kY .i64 ((v.f.signs.getD sign.toNat default).flags) 1) == 0) }:ke))
 (.fin ({ sign:=sign,kind:=(v.f.signs.getD sign.toNat default).kind,firm:=(v.f.signs.getD sign.toNat default).who,binds:=b2,text:=x7.1,sum:=x7.2,recourse:=(((v.f.signs.getD sign.toNat default).kind) != 1)&&((kY .i64 ((v.f.signs.getD sign.toNat default).flags) 1) == 0) }:ke))
def Gk (v:vR) (sign:Int):ke:=(qG v sign).val
theorem Hh (v:vR) (sign:Int) (hP:v.f.SumOK∧v.f.Small∧0≤sign∧sign < (v.f.signs.length:Int)):(qG v sign).pst (fun (x:ke)=>0≤x.sum∧x.sum≤1099511627776):=by
 refine Sk.pst_of _ ?_
 unfold qG
 simp only [Sk.pstq,Sk.isLoop,reduceCtorEq,ON,kk,Zc,qT,Qk,Ui,maxLen]
 intro _ x _ b _ y _ hy
 have hy:=hy ⟨hP.1,hP.2.1⟩
 obtain ⟨h1,h2⟩:=hP.1.2.2.1 sign.toNat (by omega)
 exact ⟨fun _=>by unfold qI; split <;> omega,fun _=>hy⟩
theorem Xq (v:vR) (sign:Int):(fun (x:ke)=>(v.f.SumOK∧v.f.Small∧0≤sign∧sign < (v.f.signs.length:Int))→(0≤x.sum∧x.sum≤1099511627776)) (Gk v sign):=fun hP=>Sk.pval _ (Hh v sign hP)
theorem Fs (v:vR) (sign:Int) (hs:0≤sign∧sign < (v.f.signs.length:Int)) (h_v_f_Small:v.f.Small) (h_v_r_ByOK:v.r.ByOK) (h_v_r_Small:v.r.Small):(qG v sign).obs (fun _=>True):=by
 unfold qG
 try simp only [Zc,qT,Qk,Ui]
 exact okD
def qS (v:vR) (sign:Int):Ctr (ke):=kk tok mixed Tryz.func145 [av v.cells,iv sign] (fun x=>av x.cells) true (qG v sign) (Gk v sign) (fun (h:(0≤sign∧sign < (v.f.signs.length:Int))∧(v.f.Small)∧(v.r.ByOK)∧(v.r.Small))=>Fs v sign h.1 h.2.1 h.2.2.1 h.2.2.2) (fun (x:ke)=>(v.f.SumOK∧v.f.Small∧0≤sign∧sign < (v.f.signs.length:Int))→(0≤x.sum∧x.sum≤1099511627776)) (Xq v sign)
def vn (r:jg) (forum:Int) (f:jh) (day:Int):Sk ((List ke)) :=
 .r 1 ((Kj r forum f day).c) fun x1 =>
 .bind true (fun b2=>b2.length=x1.f.signs.length)
 (.loop (default:Sum ((List ke)) ((List ke))) (fun i3=>i3.2≤x1.f.signs.length∧i3.1.length=i3.2) (fun i3=>x1.f.signs.length - i3.2) (([],0):(List ke) × Nat)
 (fun (i3:(List ke) × Nat)=>⟨[(10,ow 100002 i3.1),(21,iv (i3.2:Int))],[(100002,jx 244 7 ke.cells i3.1)]⟩) fun i3 =>
 .bnd 9 25 x1.f.signs.length <|
 .br (decide ((i3.2:Int) < ((x1.f.signs.length:Nat):Int)))
 (.r 6 (.depr ((qS x1 (i3.2:Int)).c) fun x4=>.andl (.o [.nrm (qt ke.E [x4])]) (.andl (.o [.nrm (Ji ke.E i3.1 [x4])]) (.andl (.t (ke.E.ones [x4])) (.p (szP i3.1.length [x4].length 56))))) fun x4 =>
 .r 7 .z fun _ =>
 .wi 21 (w64 ((i3.2:Int)+1)) ((i3.2+1:Nat):Int) <|
 .fin (.inr (i3.1++[x4],i3.2+1)))
 (.fin (.inl (.inr i3.1))))
 (fun (b2:(List ke))=>⟨[(10,ow 100001 b2)],[(100001,jx 244 7 ke.cells b2)]⟩) fun b2 =>
 .fin b2
def kB (r:jg) (forum:Int) (f:jh) (day:Int):(List ke):=(vn r forum f day).val
theorem zcl (r:jg) (forum:Int) (f:jh) (day:Int):(vn r forum f day).pst (fun (x:(List ke))=>x.length=(ji f day).signs.length):=by
 unfold vn
 try simp only [Kj,qS]
 exact okP
theorem zay (r:jg) (forum:Int) (f:jh) (day:Int):(fun (x:(List ke))=>x.length=(ji f day).signs.length) (kB r forum f day):=have h:=Sk.pval _ (zcl r forum f day); h
theorem zef (r:jg) (forum:Int) (f:jh) (day:Int) (h_f_Small:f.Small) (h_r_ByOK:r.ByOK) (h_r_Small:r.Small):(vn r forum f day).obs (fun _=>True):=by
 refine Sk.obs_of _ ?_
 unfold vn
 simp only [Sk.obq,Sk.isLoop,reduceCtorEq,ON,kk,Kj,qS,maxLen]
 refine ⟨⟨h_f_Small,h_r_ByOK,h_r_Small⟩,fun x _ hx=>?_⟩
 have hS:x.f.Small:=by rw [hx.1]; exact Hk h_f_Small day
 have hB:x.r.ByOK:=by rw [hx.2]; exact h_r_ByOK
 have hR:x.r.Small:=by rw [hx.2]; exact h_r_Small
 have hS1:=hS.1
 all_goals exact okT
def Uq (r:jg) (forum:Int) (f:jh) (day:Int):Ctr ((List ke)):=kk tok mixed Tryz.func115 [av r.cells,iv forum,av f.cells,iv day] (fun x=>lv ke.cells x) false (vn r forum f day) (kB r forum f day) (fun (h:(f.Small)∧(r.ByOK)∧(r.Small))=>zef r forum f day h.1 h.2.1 h.2.2) (fun (x:(List ke))=>x.length=(ji f day).signs.length) (zay r forum f day)
structure GE where
 signs:List Int
 holder:Int
 broken:Int
 bearer:Bool
 agent:Int
 late:List Int
 deriving Inhabited
def GE.cells (c:GE):List D:=[slD jz c.signs,dI c.holder,dI c.broken,dB c.bearer,dI c.agent,slD jz c.late]
def GE.E:Enc GE:=⟨GE.cells,6,fun _=>rfl,fun _=>rfl⟩
def vG (f:jh) (day:Int):Sk (Int × Bool) :=
 .bind true (fun _=>True)
 (.loop (default:Sum (Int × Bool) (Int × Bool)) (fun i2=>i2.2.2≤f.acts.length) (fun i2=>f.acts.length - i2.2.2) ((0,false,0):Int × Bool × Nat)
 (fun (i2:Int × Bool × Nat)=>⟨[(6,iv i2.1),(7,bv i2.2.1),(13,iv (i2.2.2:Int))],[]⟩) fun i2 =>
 .bnd 11 0 f.acts.length <|
 .br (decide ((i2.2.2:Int) < ((f.acts.length:Nat):Int)))
 (.r 4 (.p (ixP (i2.2.2:Int) f.acts.length)) fun _ =>
 .br ((((((f.acts.getD i2.2.2 default).kind) != 1)&&(((f.acts.getD i2.2.2 default).kind) != 3))&&(((f.acts.getD i2.2.2 default).kind) != 4))||(decide (((f.acts.getD i2.2.2 default).day) > day)))
 (.r 8 .z fun _ =>
 .wi 13 (w64 ((i2.2.2:Int)+1)) ((i2.2.2+1:Nat):Int) <|
 .fin (.inr (i2.1,i2.2.1,i2.2.2+1)))
 (.br ((!i2.2.1)||(decide (((f.acts.getD i2.2.2 default).day) < i2.1)))
 (.r 8 .z fun _ =>
 .wi 13 (w64 ((i2.2.2:Int)+1)) ((i2.2.2+1:Nat):Int) <|
 .fin (.inr ((f.acts.getD i2.2.2 default).day,true,i2.2.2+1)))
 (.r 8 .z fun _ =>
 .wi 13 (w64 ((i2.2.2:Int)+1)) ((i2.2.2+1:Nat):Int) <|
 .fin (.inr (i2.1,i2.2.1,i2.2.2+1)))))
 (.fin (.inl (.inr (i2.1,i2.2.1)))))
 (fun (b1:Int × Bool)=>⟨[(6,iv b1.1),(7,bv b1.2)],[]⟩) fun b1 =>
 .fin (b1.1,b1.2)
def vD (f:jh) (day:Int):Int × Bool:=(vG f day).val
theorem XX (f:jh) (day:Int):(vG f day).obs (fun _=>True):=by
 unfold vG
 exact okD
def ub (f:jh) (day:Int):Ctr (Int × Bool):=kk tok mixed Tryz.func181 [av f.cells,iv day] (fun x=>.tup [iv x.1,bv x.2]) true (vG f day) (vD f day) (fun (_:True)=>XX f day)
def vd (f:jh) (part:Int) (day:Int):Sk (Unit) :=
 .fin ()
def VK (f:jh) (part:Int) (day:Int):Unit:=(vd f part day).val
theorem Qb (f:jh) (part:Int) (day:Int):VK f part day=():=rfl
theorem Xk (f:jh) (part:Int) (day:Int):(vd f part day).obs (fun _=>True):=by
 unfold vd
 exact okE
def vI (f:jh) (part:Int) (day:Int):Ctr (Unit):=kk tok mixed Tryz.func182 [av f.cells,iv part,iv day] (fun x=>.fn 216 [.ref f.cells,.ref [dI day],.ref [dI part]]) false (vd f part day) (VK f part day) (fun (_:True)=>Xk f part day)
end
end Go.Proofs.YtilbddpghnnmhaaGreatDoor
namespace Go.Proofs.YtilbddpghnnmhaaGreatDoor
noncomputable section
open Go Go.Av
set_option linter.unusedSimpArgs false
set_option linter.unusedVariables false
set_option maxHeartbeats 1000000
set_option maxRecDepth 100000
def zak (f:jh) (day part:Int) (i:Nat):Bool :=
 ((((f.signs.getD i default).kind == 2)&&((f.signs.getD i default).part == part))&&decide ((f.signs.getD i default).day≤day))&&!(kf (qD f day) ((i:Nat):Int) false)
def jJ (f:jh) (day part:Int):List (Int × ql):=((List.range f.signs.length).filter (zak f day part)).map fun i=>(((i:Nat):Int),f.signs.getD i default)
def zfJ (y:Int × ql):List AV:=[iv y.1,av y.2.cells]
def zsI:Code:=Tryz.f216.body.getD .skip
def znd:Code:=cA (cA (cB (cB zsI)))
def zlV:Code:=cA (cB (cB znd))
def zmZ:Array Oper:=opsOf (cA (cB (cA zlV)))
def zqq (f:jh) (day part:Int) (m:List (Int × Bool)) (i:Nat):List (Nat × AV):=[(2,.ref [dI day]),(3,.ref [dI part]),(5,pmM dB m),(12,lv ql.cells f.signs),(13,iv ((f.signs.length:Nat):Int)),(14,iv ((i:Nat):Int))]
def VX (f:jh) (day part:Int) (i:Nat):Nat:=((List.range i).filter (zak f day part)).length
def zqE:List Item:=[.code (cB (cB (cA zlV))),.inBlock 1,.code (cB (cB (cB znd))),.inLoop znd,.inBlock 0]
theorem znF (f:jh) (day part:Int) {i:Nat} (hi:i < f.signs.length) (h:zak f day part i=true):((jJ f day part).map zfJ)[VX f day part i]? = some (zfJ (((i:Nat):Int),f.signs.getD i default)):=by
 have e:List.range f.signs.length=List.range i++i :: (List.range' (i+1) (f.signs.length - i - 1)):=by
  rw [List.range_eq_range',List.range_eq_range']
  have h1:=List.range'_append (s:=0) (m:=i) (n:=f.signs.length - i) (step:=1)
  have h2:f.signs.length - i=(f.signs.length - i - 1)+1:=by omega
  rw [show f.signs.length=i+(f.signs.length - i) by omega,← h1,h2,List.range'_succ]
  simp
 unfold jJ VX
 rw [e,List.filter_append,List.filter_cons_of_pos h]
 simp
theorem zlP (f:jh) (day part:Int) (i:Nat):VX f day part (i+1)=bif zak f day part i then VX f day part i+1 else VX f day part i:=by
 unfold VX
 rw [List.range_succ,List.filter_append]
 cases h:zak f day part i <;> simp [h]
def zaW (q:Nat):Oper:=zmZ.getD q default
def znH (f:jh) (day part:Int) (i:Nat) (sl:List (Nat × AV)):St:=⟨sl++[(6,iv ((i:Nat):Int)),(7,.ptr 7 0)]++zqq f day part (qD f day) i,[(7,.box ((f.signs.getD i default).cells.map .d))]⟩
def zcL (f:jh) (i:Nat):Sk Bool :=
 .bnd 12 0 f.signs.length <| .br (decide (((i:Nat):Int) < ((f.signs.length:Nat):Int))) (.r 3 (.p (ixP ((i:Nat):Int) f.signs.length)) fun _=>.fin true) (.fin false)
def zru (f:jh) (i:Nat):Sk Unit :=
 .bnd 12 0 f.signs.length <| .brf <| .r 5 .z fun _=>.wi 14 (w64 (((i:Nat):Int)+1)) ((i+1:Nat):Int) <| .fin ()
def zpW (f:jh) (day part:Int) (i:Nat):Cal Unit :=
 .wh ((((f.signs.getD i default).kind == 2)&&((f.signs.getD i default).part == part))&&decide ((f.signs.getD i default).day≤day)) true (.andl (.t (Je dB (qD f day))) (.o [.cast 37 (zlb dB (qD f day) ((i:Nat):Int) false)]))
theorem UE (f:jh) (day part:Int):ItA Tryz.prog 216 [.ref f.cells,.ref [dI day],.ref [dI part]] ((jJ f day part).map zfJ):=by
 refine ItA.intro (T:=TT) Tryz.func216 rfl (by kernel_rfl) (Nat.le_of_ble_eq_true (by kernel_rfl)) (fun X=>?_)
 have hr4:cA (cB (cA zlV))=.region 4 zmZ false:=by kernel_rfl
 have hrg:List.range' 22 (zmZ.size - 22)=[22,23,24,25,26,27]:=by kernel_rfl
 have key:∀ d i,i+d=f.signs.length→G (X.g TT Tryz.f216 (X.H (VX f day part i))) [.code znd,.inLoop znd,.inBlock 0] ⟨zqq f day part (qD f day) i,[]⟩:=by
  intro d
  induction d with
  | zero =>
   intro i hi
   refine ItX.sk tok mixed Tryz.func216 _ (zcL f i) (fun b=>bif b then .go (.code (cA (cB (cA zlV))) :: zqE) (znH f day part i []) else .go [] ⟨[],[]⟩) 100 (by kernel_rfl) ?_ ?_
   ·refine Sk.obs_of _ ?_
    simp only [zcL,Sk.obq,Cal.p,ixP,implies_true,and_true]
    intro h hd
    simp at hd
    omega
   ·intro a ha
    have:(zcL f i).val=false:=by simp only [zcL,Sk.val]; simp; omega
    rw [this] at ha
    subst ha
    refine (ItX.ret Tryz.func216 (by kernel_rfl) (fun C h=>.inl ?_)).1
    have e:VX f day part i=((jJ f day part).map zfJ).length:=by
     have:i=f.signs.length:=by omega
     subst this
     simp [VX,jJ]
    rw [← e]
    exact h
  | succ d ih =>
   intro i hi
   have hlt:i < f.signs.length:=by omega
   refine ItX.sk tok mixed Tryz.func216 _ (zcL f i) (fun b=>bif b then .go (.code (cA (cB (cA zlV))) :: zqE) (znH f day part i []) else .go [] ⟨[],[]⟩) 100 (by kernel_rfl) ?_ ?_
   ·refine Sk.obs_of _ ?_
    simp only [zcL,Sk.obq,Cal.p,ixP,implies_true,and_true]
    intro _ _
    omega
   ·intro a ha
    have:(zcL f i).val=true:=by simp only [zcL,Sk.val]; simp; omega
    rw [this] at ha
    subst ha
    show G _ _ _
    rw [hr4]
    -- behind the yield
    have next:∀ st,LeS st ⟨(46,bv false) :: zqq f day part (qD f day) i,[]⟩→G (X.g TT Tryz.f216 (X.H (VX f day part (i+1)))) zqE st:=by
     intro st hst
     refine .le hst ?_
     refine ItX.sk tok mixed Tryz.func216 _ (zru f i) (fun _=>.go [.inLoop znd,.inBlock 0] ⟨zqq f day part (qD f day) (i+1),[]⟩) 100 (by kernel_rfl) ?_ (fun _ _=>.inLoop (ih (i+1) (by omega)))
     refine Sk.obs_of _ ?_
     simp only [zru,Sk.obq,Cal.z,maxLen,implies_true,and_true]
     intro h
     refine ⟨trivial,fun _ _ _=>?_⟩
     refine (jj ?_ ?_).trans ?_ <;> omega
    refine G.yr ?_
    refine YW.preC tok mixed (zpW f day part i) 22 (fun _=>znH f day part i [(40,bv (zak f day part i))]) (by kernel_rfl) (Nat.le_of_ble_eq_true (by kernel_rfl)) (fun _=>by kernel_rfl) ?_ ?_
    ·simp [zpW,Cal.wh,Cal.andl,Cal.t,Cal.o]
    rw [hrg]
    refine YW.know (s:=40) (b:=zak f day part i) rfl (Nat.le_of_ble_eq_true (by kernel_rfl)) ?_
    have hcs:=zlP f day part i
    cases he:zak f day part i with
    | true =>
     rw [he,cond_true] at hcs
     refine YW.mvC (o:=zaW 22) (d:=41) (u:=0) (by kernel_rfl) (by kernel_rfl) (by kernel_rfl) (by simp) (by kernel_rfl) ?_
     refine YW.opC tok mixed (o:=zaW 23) (znH f day part i [(42,iv ((i:Nat):Int))]) (by kernel_rfl) (by kernel_rfl) (by kernel_rfl) ?_
     refine YW.opC tok mixed (o:=zaW 24) (znH f day part i [(43,av (f.signs.getD i default).cells),(42,iv ((i:Nat):Int))]) (by kernel_rfl) (by kernel_rfl) (by kernel_rfl) ?_
     refine YW.ylC (o:=zaW 25) (d:=44) (u:=41) (n:=VX f day part i) (ts:=[42,43]) (c:={ callee:=.value (.tmp 41),args:=#[.tmp 42,.tmp 43],argTypes:=#[3,147] }) (by kernel_rfl) (by kernel_rfl) (by kernel_rfl) rfl (by simp) (by kernel_rfl) (znF f day part hlt he) rfl (by kernel_rfl) (by kernel_rfl) ?_ ?_
     ·refine YW.opC tok mixed (o:=zaW 26) (znH f day part i [(45,bv false)]) (by kernel_rfl) (by kernel_rfl) (by kernel_rfl) ?_
      refine YW.pickC (o:=zaW 27) (d:=46) (x:=.tmp 45) (y:=.const (.bool false)) false (by kernel_rfl) (by kernel_rfl) (by kernel_rfl) (by kernel_rfl) (by kernel_rfl) ?_
      refine YW.nil (T:=TT) (fn:=Tryz.f216) (by simp) ?_
      rw [← hcs]
      exact next _ (zn5 (by kernel_rfl))
     ·refine YW.opC tok mixed (o:=zaW 26) (znH f day part i [(45,bv true)]) (by kernel_rfl) (by kernel_rfl) (by kernel_rfl) ?_
      refine YW.pickC (o:=zaW 27) (d:=46) (x:=.tmp 45) (y:=.const (.bool false)) true (by kernel_rfl) (by kernel_rfl) (by kernel_rfl) (by kernel_rfl) (by kernel_rfl) ?_
      refine YW.nil (T:=TT) (fn:=Tryz.f216) (by simp) ?_
      refine ItX.sk tok mixed Tryz.func216 _ (.brt (.fin ()):Sk Unit) (fun _=>.go (.code .ret :: zqE.tail) ⟨[],[]⟩) 100 (by kernel_rfl) trivial (fun _ _=>(ItX.ret Tryz.func216 (by kernel_rfl) (fun C h=>.inr h)).2 _)
    | false =>
     rw [he,cond_false] at hcs
     refine YW.skipC (o:=zaW 22) (d:=41) (by kernel_rfl) (by kernel_rfl) (by kernel_rfl) ?_
     refine YW.skipC (o:=zaW 23) (d:=42) (by kernel_rfl) (by kernel_rfl) (by kernel_rfl) ?_
     refine YW.skipC (o:=zaW 24) (d:=43) (by kernel_rfl) (by kernel_rfl) (by kernel_rfl) ?_
     refine YW.skipC (o:=zaW 25) (d:=44) (by kernel_rfl) (by kernel_rfl) (by kernel_rfl) ?_
     refine YW.skipC (o:=zaW 26) (d:=45) (by kernel_rfl) (by kernel_rfl) (by kernel_rfl) ?_
     refine YW.pickC (o:=zaW 27) (d:=46) (x:=.tmp 45) (y:=.const (.bool false)) false (by kernel_rfl) (by kernel_rfl) (by kernel_rfl) (by kernel_rfl) (by kernel_rfl) ?_
     refine YW.nil (T:=TT) (fn:=Tryz.f216) (by simp) ?_
     rw [← hcs]
     exact next _ (zn5 (by kernel_rfl))
 refine ItX.sk tok mixed Tryz.func216 _ (.r 0 ((KA f day).c) fun m=>.r 1 .z fun _=>.fin m:Sk (List (Int × Bool))) (fun m=>.go [.code (.loop znd),.inBlock 0] ⟨zqq f day part m 0,[]⟩) 100 (by kernel_rfl) ?_ (fun m hm=>?_)
 ·refine Sk.obs_of _ ?_
  simp [Sk.obq,Cal.z,Ctr.c,kk,KA]
 ·have hm:m=qD f day:=hm
  subst hm
  exact .loopIn (key f.signs.length 0 (by omega))
def qY (f:jh) (day part:Int):ItC (Int × ql):=⟨Tryz.prog,216,[.ref f.cells,.ref [dI day],.ref [dI part]],jJ f day part,zfJ,True,fun _=>UE f day part⟩
end
end Go.Proofs.YtilbddpghnnmhaaGreatDoor
