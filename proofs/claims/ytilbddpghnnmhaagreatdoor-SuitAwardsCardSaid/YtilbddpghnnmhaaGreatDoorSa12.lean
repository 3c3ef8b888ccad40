/- Functions, as sketches. -/
import Derived.Test.YtilbddpghnnmhaaGreatDoorSa10
namespace Go.Proofs.YtilbddpghnnmhaaGreatDoor
noncomputable section
open Go Go.Av
set_option linter.unusedSimpArgs false
set_option linter.unusedVariables false
set_option maxHeartbeats 1000000
set_option maxRecDepth 100000
def gJ (v:kM) (sign:Int):Sk (Int) :=
 .r 1 (.p (ixP sign v.now.signs.length)) fun _ =>
 .r 2 (.wh (sign == 0) false ((jq v.lead ((v.now.signs.getD sign.toNat default).part)).c)) fun x1 =>
 .br ((sign == 0)||(!x1))
 (.r 3 (.p (ixP (0:Int) v.lead.length)) fun _ =>
 .fin (v.lead.getD 0 default))
 (.fin ((v.now.signs.getD sign.toNat default).part))
def vM (v:kM) (sign:Int):Int:=(gJ v sign).val
theorem zbS (v:kM) (sign:Int) (hs:0≤sign∧sign < v.now.signs.length) (hl:v.lead.length≠0):(gJ v sign).obs (fun _=>True):=by
 unfold gJ
 try simp only [jq]
 exact okD
def JB (v:kM) (sign:Int):Ctr (Int):=kk tok mixed Tryz.func149 [av v.cells,iv sign] (fun x=>iv x) true (gJ v sign) (vM v sign) (fun (h:(0≤sign∧sign < v.now.signs.length)∧(v.lead.length≠0))=>zbS v sign h.1 h.2)
def qh (v:kM) (part:Int) (by_:Int) (links:List Int):Sk ((List Int)) :=
 .r 2 (.wh (by_ != (-1)) true ((jq links by_).c)) fun x1 =>
 .br ((by_ != (-1))&&(!x1))
 (.fin [])
 (.bind true (fun b2=>b2.length≤v.now.signs.length∧∀ y,y∈b2→0≤y∧y < (v.now.signs.length:Int))
 (.loop (default:Sum ((List Int)) ((List Int))) (fun i3=>i3.2≤v.now.signs.length∧i3.1.length≤i3.2∧∀ y,y∈i3.1→0≤y∧y < (v.now.signs.length:Int)) (fun i3=>v.now.signs.length - i3.2) (([],0):(List Int) × Nat)
 (fun (i3:(List Int) × Nat)=>⟨[(9,ow 100002 i3.1),(25,iv (i3.2:Int))],[(100002,jy 3 1 jA i3.1)]⟩) fun i3 =>
 .bnd 23 0 v.now.signs.length <|
 .br (decide ((i3.2:Int) < ((v.now.signs.length:Nat):Int)))
 (.r 6 (.p (ixP (i3.2:Int) v.now.signs.length)) fun _ =>
 .r 7 ((JB v (i3.2:Int)).c) fun x4 =>
 .br (x4 != part)
 (.r 18 .z fun _ =>
 .wi 25 (w64 ((i3.2:Int)+1)) ((i3.2+1:Nat):Int) <|
 .fin (.inr (i3.1,i3.2+1)))
 (.bind true (fun _=>True)
 (.bind false (fun _=>True)
 (.br (((v.now.signs.getD i3.2 default).kind) == 0)
 (.fin (.inr (((v.now.signs.getD i3.2 default).kind) == 0)))
 (.fin (.inr (((v.now.signs.getD i3.2 default).kind) == 1))))
 (fun (b6:Bool)=>⟨[(41,bv b6)],[]⟩) fun b6 =>
 .br b6
 (.fin (.inr (true,b6,((v.now.signs.getD i3.2 default).kind) == 0)))
 (.br (((v.now.signs.getD i3.2 default).kind) == 2)
 (.r 15 (.wh ((decide ((i3.2:Int)≤by_))&&((kY .i64 ((v.now.signs.getD i3.2 default).flags) 2) == 0)) true ((jq links (i3.2:Int)).c)) fun x7 =>
 .fin (.inr (((decide ((i3.2:Int)≤by_))&&((kY .i64 ((v.now.signs.getD i3.2 default).flags) 2) == 0))&&x7,b6,((v.now.signs.getD i3.2 default).kind) == 0)))
 (.r 10 ((jq i3.1 ((v.now.signs.getD i3.2 default).for_)).c) fun x8 =>
 .fin (.inr (x8,b6,((v.now.signs.getD i3.2 default).kind) == 0)))))
 (fun (b5:Bool × Bool × Bool)=>⟨[(12,bv b5.1),(41,bv b5.2.1),(42,bv b5.2.2)],[]⟩) fun b5 =>
 .br b5.1
 (.r 17 (.andl (.o [.nrm (qt ky [(i3.2:Int)])]) (.andl (.o [.nrm (Ji ky i3.1 [(i3.2:Int)])]) (.andl (.t (ky.ones [(i3.2:Int)])) (.p (szP i3.1.length [(i3.2:Int)].length 8))))) fun _ =>
 .r 18 .z fun _ =>
 .wi 25 (w64 ((i3.2:Int)+1)) ((i3.2+1:Nat):Int) <|
 .fin (.inr (i3.1++[(i3.2:Int)],i3.2+1)))
 (.r 18 .z fun _ =>
 .wi 25 (w64 ((i3.2:Int)+1)) ((i3.2+1:Nat):Int) <|
 .fin (.inr (i3.1,i3.2+1)))))
 (.fin (.inl (.inr i3.1))))
 (fun (b2:(List Int))=>⟨[(9,ow 100001 b2)],[(100001,jy 3 1 jA b2)]⟩) fun b2 =>
 .fin b2)
def jM (v:kM) (part:Int) (by_:Int) (links:List Int):(List Int):=(qh v part by_ links).val
theorem Fk (v:kM) (part:Int) (by_:Int) (links:List Int):(qh v part by_ links).pst (fun (x:(List Int))=>x.length≤v.now.signs.length∧∀ y,y∈x→0≤y∧y < (v.now.signs.length:Int)):=by
 unfold qh
 try simp only [JB,jq]
 exact okP
theorem yX (v:kM) (part:Int) (by_:Int) (links:List Int):(fun (x:(List Int))=>x.length≤v.now.signs.length∧∀ y,y∈x→0≤y∧y < (v.now.signs.length:Int)) (jM v part by_ links):=have h:=Sk.pval _ (Fk v part by_ links); h
theorem Br (v:kM) (part:Int) (by_:Int) (links:List Int) (hl:v.lead.length≠0) (hn:v.now.signs.length≤1000000):(qh v part by_ links).obs (fun _=>True):=by
 unfold qh
 try simp only [JB,jq]
 exact okD
def KV (v:kM) (part:Int) (by_:Int) (links:List Int):Ctr ((List Int)):=kk tok mixed Tryz.func118 [av v.cells,iv part,iv by_,lv jA links] (fun x=>lv jA x) false (qh v part by_ links) (jM v part by_ links) (fun (h:(v.lead.length≠0)∧(v.now.signs.length≤1000000))=>Br v part by_ links h.1 h.2) (fun (x:(List Int))=>x.length≤v.now.signs.length∧∀ y,y∈x→0≤y∧y < (v.now.signs.length:Int)) (yX v part by_ links)
def GF (rv:kM→Int→Int) (rp:kM→Int→Prop) (rf:∀ (v:kM) (sign:Int),rp v sign→FnA Tryz.prog 150 [av v.cells,iv sign] [] (iv (rv v sign)) []) (v:kM) (sign:Int):Ctr (Int):=⟨Tryz.prog,150,[av v.cells,iv sign],fun x=>iv x,true,rv v sign,rp v sign,rf v sign,fun _=>True,trivial⟩
def zM (rv:kM→Int→Int) (rp:kM→Int→Prop) (rf:∀ (v:kM) (sign:Int),rp v sign→FnA Tryz.prog 150 [av v.cells,iv sign] [] (iv (rv v sign)) []) (v:kM) (sign:Int):Sk (Int) :=
 .r 1 (.p (ixP sign v.now.signs.length)) fun _ =>
 .br ((((v.now.signs.getD sign.toNat default).kind) == 3)||(((v.now.signs.getD sign.toNat default).kind) == 4))
 (.r 3 ((GF rv rp rf v ((v.now.signs.getD sign.toNat default).for_)).c) fun x1 =>
 .fin x1)
 (.fin sign)
def kd:Nat→kM→Int→Int
 | 0,_,_=>default
 | fu+1,v,sign=>(zM (kd fu) (fun _ _=>False) (fun _ _=>fun h=>h.elim) v sign).val
theorem ZR (v:kM) (h:v.BaseOK):∀ (fu:Nat) (sign:Int),0≤sign→sign < (v.now.signs.length:Int)→sign.toNat < fu→0≤kd fu v sign∧kd fu v sign≤sign
 | 0,_,_,_,h3=>absurd h3 (by omega)
 | fu+1,s,h1,h2,h3=>by
  have e:kd (fu+1) v s=bif (((v.now.signs.getD s.toNat default).kind) == 3)||(((v.now.signs.getD s.toNat default).kind) == 4) then kd fu v ((v.now.signs.getD s.toNat default).for_) else s:=by kernel_rfl
  rw [e]
  cases hk:(((v.now.signs.getD s.toNat default).kind) == 3)||(((v.now.signs.getD s.toNat default).kind) == 4) with
  | false=>exact ⟨h1,Int.le_refl _⟩
  | true =>
   rw [cond_true]
   have:=h s.toNat (by omega) (by simpa using hk)
   have:=ZR v h fu _ this.1 (by omega) (by omega)
   omega
theorem zcF (fu:Nat) (rf:∀ (v:kM) (sign:Int),(sign.toNat+1)≤fu∧(v.BaseOK)∧(0≤sign∧sign < v.now.signs.length)→FnA Tryz.prog 150 [av v.cells,iv sign] [] (iv (kd fu v sign)) []) (v:kM) (sign:Int) (hm:(sign.toNat+1)≤fu+1) (hv:v.BaseOK) (hs:0≤sign∧sign < v.now.signs.length):(zM (kd fu) (fun v sign=>(sign.toNat+1)≤fu∧(v.BaseOK)∧(0≤sign∧sign < v.now.signs.length)) rf v sign).obs (fun _=>True):=by
 refine Sk.obs_of _ ?_
 unfold zM
 simp only [Sk.obq,Sk.isLoop,reduceCtorEq,ON,kk,GF,maxLen]
 refine ⟨hs,fun _ hk=>?_⟩
 have:=hv sign.toNat (by omega) (by simpa using hk)
 exact ⟨by omega,hv,by omega,by omega⟩
theorem za2 (fu:Nat) (rp:kM→Int→Prop) (rf:∀ (v:kM) (sign:Int),rp v sign→FnA Tryz.prog 150 [av v.cells,iv sign] [] (iv (kd fu v sign)) []) (v:kM) (sign:Int):(zM (kd fu) rp rf v sign).val=kd (fu+1) v sign:=by kernel_rfl
theorem zam (fu:Nat):∀ (v:kM) (sign:Int),(sign.toNat+1)≤fu→v.BaseOK→(0≤sign∧sign < v.now.signs.length)→FnA Tryz.prog 150 [av v.cells,iv sign] [] (iv (kd fu v sign)) []:=by
 induction fu with
 | zero=>intro v sign hm h0 h1; exact absurd hm (by omega)
 | succ fu ih =>
  intro v sign hm h0 h1
  have h:FnA Tryz.prog 150 [av v.cells,iv sign] [] (iv ((zM (kd fu) (fun v sign=>(sign.toNat+1)≤fu∧(v.BaseOK)∧(0≤sign∧sign < v.now.signs.length)) (fun v sign h=>ih v sign h.1 h.2.1 h.2.2) v sign).val)) []:=FnA.sk tok mixed (fun x=>iv x) (fun _=>[]) Tryz.func150 rfl (by kernel_rfl) 3000 (zM (kd fu) (fun v sign=>(sign.toNat+1)≤fu∧(v.BaseOK)∧(0≤sign∧sign < v.now.signs.length)) (fun v sign h=>ih v sign h.1 h.2.1 h.2.2) v sign) (by kernel_rfl) (zcF fu _ v sign hm h0 h1)
  rw [za2] at h
  exact h
def jG (v:kM) (sign:Int):Int:=kd ((sign.toNat+1)) v sign
theorem zck (v:kM) (sign:Int) (hv:v.BaseOK) (hs:0≤sign∧sign < v.now.signs.length):FnA Tryz.prog 150 [av v.cells,iv sign] [] (iv (jG v sign)) []:=zam _ v sign (Nat.le_refl _) hv hs
theorem Bx (v:kM) (sign:Int):(fun (x:Int)=>v.BaseOK→0≤sign∧sign < (v.now.signs.length:Int)→0≤x∧x≤sign) (jG v sign):=by
 exact fun h hs=>ZR v h _ sign hs.1 hs.2 (by omega)
def Zv (v:kM) (sign:Int):Ctr (Int):=⟨Tryz.prog,150,[av v.cells,iv sign],fun x=>iv x,true,jG v sign,(v.BaseOK)∧(0≤sign∧sign < v.now.signs.length),fun h=>zck v sign h.1 h.2,fun (x:Int)=>v.BaseOK→0≤sign∧sign < (v.now.signs.length:Int)→0≤x∧x≤sign,Bx v sign⟩
def zX (a:jE):Sk (Bool) :=
 .fin ((a.kind == 1)||(a.kind == 3))
def jC (a:jE):Bool:=(zX a).val
theorem Qb (a:jE):jC a=((a.kind == 1)||(a.kind == 3)):=rfl
theorem Xo (a:jE):(zX a).obs (fun _=>True):=by
 unfold zX
 exact okE
def gb (a:jE):Ctr (Bool):=kk tok mixed Tryz.func153 [av a.cells] (fun x=>bv x) true (zX a) (jC a) (fun (_:True)=>Xo a)
def kL (s:List jE):Sk (Int) :=
 .bind true (fun b1=>∀ q,q < s.length→jC (s.getD q default)=false)
 (.loop (default:Sum (Int) (Unit)) (fun i2=>∀ q,q < i2→jC (s.getD q default)=false) (fun i2=>s.length - i2) (0:Nat)
 (fun (i2:Nat)=>⟨[(8,iv (i2:Int))],[]⟩) fun i2 =>
 .bnd 0 0 s.length <|
 .br (decide ((i2:Int) < ((s.length:Nat):Int)))
 (.r 4 (.andl (.p (ixP (i2:Int) s.length)) ((gb (s.getD i2 default)).c)) fun x3 =>
 .br x3
 (.fin (.inl (.inl (i2:Int))))
 (.r 6 .z fun _ =>
 .wi 8 (w64 ((i2:Int)+1)) ((i2+1:Nat):Int) <|
 .fin (.inr (i2+1))))
 (.fin (.inl (.inr ()))))
 (fun (_:Unit)=>⟨[],[]⟩) fun _ =>
 .fin (-1)
def Zc (s:List jE):Int:=(kL s).val
theorem YE (s:List jE):(kL s).pst (fun (x:Int)=>(x = -1∧∀ q,q < s.length→jC (s.getD q default)=false)∨(0≤x∧x < s.length∧jC (s.getD x.toNat default)=true∧∀ q,(q:Nat) < x.toNat→jC (s.getD q default)=false)):=by
 unfold kL
 try simp only [gb,Qb]
 exact okQ
theorem UD (s:List jE):(fun (x:Int)=>(x = -1∧∀ q,q < s.length→jC (s.getD q default)=false)∨(0≤x∧x < s.length∧jC (s.getD x.toNat default)=true∧∀ q,(q:Nat) < x.toNat→jC (s.getD q default)=false)) (Zc s):=have h:=Sk.pval _ (YE s); h
theorem GB (s:List jE):(kL s).obs (fun _=>True):=by
 unfold kL
 try simp only [gb,Qb]
 exact okG
def uN (s:List jE):Ctr (Int):=kk tok mixed Tryz.func186 [lv jE.cells s,.fn 153 []] (fun x=>iv x) true (kL s) (Zc s) (fun (_:True)=>GB s) (fun (x:Int)=>(x = -1∧∀ q,q < s.length→jC (s.getD q default)=false)∨(0≤x∧x < s.length∧jC (s.getD x.toNat default)=true∧∀ q,(q:Nat) < x.toNat→jC (s.getD q default)=false)) (UD s)
def kp (s:List jE):Sk (Bool) :=
 .r 1 ((uN s).c) fun x1 =>
 .fin (decide (x1≥0))
def kI (s:List jE):Bool:=(kp s).val
theorem Vv (s:List jE):(kp s).pst (fun (x:Bool)=>(x=true↔∃ q,q < s.length∧jC (s.getD q default)=true)):=by
 unfold kp
 try simp only [uN]
 exact okP
theorem ZF (s:List jE):(fun (x:Bool)=>(x=true↔∃ q,q < s.length∧jC (s.getD q default)=true)) (kI s):=have h:=Sk.pval _ (Vv s); h
theorem VK (s:List jE):(kp s).obs (fun _=>True):=by
 unfold kp
 try simp only [uN]
 exact okE
def vi (s:List jE):Ctr (Bool):=kk tok mixed Tryz.func152 [lv jE.cells s,.fn 153 []] (fun x=>bv x) true (kp s) (kI s) (fun (_:True)=>VK s) (fun (x:Bool)=>(x=true↔∃ q,q < s.length∧jC (s.getD q default)=true)) (ZF s)
structure Kept where
 shown:Int
 protest:Int
 notice:Int
 all:Int
 deriving Inhabited
def Kept.cells (c:Kept):List D:=[dI c.shown,dI c.protest,dI c.notice,dI c.all]
def Kept.E:Enc Kept:=⟨Kept.cells,4,fun _=>rfl,fun _=>rfl⟩
structure jQ where
 r:jg
 forum:Int
 f:jh
 sign:Int
 day:Int
 due:Int
 deriving Inhabited
def jQ.cells (c:jQ):List D:=c.r.cells++[dI c.forum]++c.f.cells++[dI c.sign,dI c.day,dI c.due]
def jQ.E:Enc jQ:=⟨jQ.cells,31,fun _=>rfl,fun _=>rfl⟩
def jQ.PayOK (v:jQ):Prop:=0≤v.f.bill.pay∧v.f.bill.pay < v.r.cities.length
def zl (r:jg) (forum:Int) (f:jh) (sign:Int) (day:Int):Sk (jQ) :=
 .r 1 (.dep ((jt f day).c) fun _=>(jO r forum f day).c) fun p3 =>
 .fin ({ r:=r,forum:=forum,f:=p3.1,sign:=sign,day:=day,due:=p3.2 }:jQ)
def XR (r:jg) (forum:Int) (f:jh) (sign:Int) (day:Int):jQ:=(zl r forum f sign day).val
theorem Bz (r:jg) (forum:Int) (f:jh) (sign:Int) (day:Int):(zl r forum f sign day).pst (fun (x:jQ)=>x.r=r∧x.f=ji f day∧x.sign=sign):=by
 unfold zl
 try simp only [jO,jt,jh.Small,jg.Small,jg.ByOK]
 exact okP
theorem Fq (r:jg) (forum:Int) (f:jh) (sign:Int) (day:Int):(fun (x:jQ)=>x.r=r∧x.f=ji f day∧x.sign=sign) (XR r forum f sign day):=have h:=Sk.pval _ (Bz r forum f sign day); h
theorem za8 (r:jg) (forum:Int) (f:jh) (sign:Int) (day:Int) (h_f_Small:f.Small) (h_r_ByOK:r.ByOK) (h_r_Small:r.Small):(zl r forum f sign day).obs (fun _=>True):=by
 simp only [jh.Small,jg.Small,jg.ByOK] at h_f_Small
 simp only [jh.Small,jg.Small,jg.ByOK] at h_r_ByOK
 simp only [jh.Small,jg.Small,jg.ByOK] at h_r_Small
 unfold zl
 try simp only [jO,jt,jh.Small,jg.Small,jg.ByOK]
 exact okD
def gZ (r:jg) (forum:Int) (f:jh) (sign:Int) (day:Int):Ctr (jQ):=kk tok mixed Tryz.func159 [av r.cells,iv forum,av f.cells,iv sign,iv day] (fun x=>av x.cells) false (zl r forum f sign day) (XR r forum f sign day) (fun (h:(f.Small)∧(r.ByOK)∧(r.Small))=>za8 r forum f sign day h.1 h.2.1 h.2.2) (fun (x:jQ)=>x.r=r∧x.f=ji f day∧x.sign=sign) (Fq r forum f sign day)
def zr (v:jQ) (kind:Int) (from_:Int):Sk (Int) :=
 .bind true (fun _=>True)
 (.loop (default:Sum (Int) (Unit)) (fun i2=>i2≤v.f.acts.length) (fun i2=>v.f.acts.length - i2) (0:Nat)
 (fun (i2:Nat)=>⟨[(13,iv (i2:Int))],[]⟩) fun i2 =>
 .bnd 11 0 v.f.acts.length <|
 .br (decide ((i2:Int) < ((v.f.acts.length:Nat):Int)))
 (.r 3 (.p (ixP (i2:Int) v.f.acts.length)) fun _ =>
 .br (((((v.f.acts.getD i2 default).kind) == kind)&&(((v.f.acts.getD i2 default).to_) == v.f.bill.drawee))&&(decide (((v.f.acts.getD i2 default).day)≥from_)))
 (.fin (.inl (.inl ((v.f.acts.getD i2 default).day))))
 (.r 6 .z fun _ =>
 .wi 13 (w64 ((i2:Int)+1)) ((i2+1:Nat):Int) <|
 .fin (.inr (i2+1))))
 (.fin (.inl (.inr ()))))
 (fun (_:Unit)=>⟨[],[]⟩) fun _ =>
 .fin (-1)
def XM (v:jQ) (kind:Int) (from_:Int):Int:=(zr v kind from_).val
theorem GJ (v:jQ) (kind:Int) (from_:Int):(zr v kind from_).obs (fun _=>True):=by
 unfold zr
 exact okD
def qC (v:jQ) (kind:Int) (from_:Int):Ctr (Int):=kk tok mixed Tryz.func220 [av v.cells,iv kind,iv from_] (fun x=>iv x) true (zr v kind from_) (XM v kind from_) (fun (_:True)=>GJ v kind from_)
structure gp where
 known:Bool
 last:Int
 deriving Inhabited
def gp.cells (c:gp):List D:=[dB c.known,dI c.last]
def gp.E:Enc gp:=⟨gp.cells,2,fun _=>rfl,fun _=>rfl⟩
def zA (v:jQ):Sk (gp) :=
 .r 1 ((JR v.r v.forum 7 v.f v.day).c) fun x1 =>
 .br (x1.err != 0)
 (.fin ({ known:=true,last:=9223372036854775807 }:gp))
 (.br (!x1.cell.known)
 (.fin ({ known:=false,last:=0 }:gp))
 (.br (decide ((w64 (v.f.bill.day+x1.cell.n)) > 100000))
 (.fin ({ known:=true,last:=9223372036854775807 }:gp))
 (.fin ({ known:=true,last:=w64 (v.f.bill.day+x1.cell.n) }:gp))))
def Fj (v:jQ):gp:=(zA v).val
theorem WG (v:jQ) (h_v_f_Small:v.f.Small) (h_v_r_ByOK:v.r.ByOK) (h_v_r_Small:v.r.Small):(zA v).obs (fun _=>True):=by
 unfold zA
 try simp only [JR]
 exact okD
def yx (v:jQ):Ctr (gp):=kk tok mixed Tryz.func221 [av v.cells] (fun x=>av x.cells) true (zA v) (Fj v) (fun (h:(v.f.Small)∧(v.r.ByOK)∧(v.r.Small))=>WG v h.1 h.2.1 h.2.2)
def qY (v:jQ) (on:Int) (t:gp):Sk (Int) :=
 .br (!t.known)
 (.fin 2)
 (.br ((on != (-1))&&(decide (on≤t.last)))
 (.fin 1)
 (.br ((on != (-1))||(decide (v.day > t.last)))
 (.fin 0)
 (.fin 2)))
def Xk (v:jQ) (on:Int) (t:gp):Int:=(qY v on t).val
theorem Yw (v:jQ) (on:Int) (t:gp):(qY v on t).obs (fun _=>True):=by
 unfold qY
 exact okE
def zi (v:jQ) (on:Int) (t:gp):Ctr (Int):=kk tok mixed Tryz.func219 [av v.cells,iv on,av t.cells] (fun x=>iv x) true (qY v on t) (Xk v on t) (fun (_:True)=>Yw v on t)
def qK (v:jQ):Sk (Int) :=
 .r 1 ((qC v 1 0).c) fun x1 =>
 .br (decide (x1 > v.due))
 (.fin (-1))
 (.fin x1)
def Wz (v:jQ):Int:=(qK v).val
theorem UE (v:jQ):(qK v).obs (fun _=>True):=by
 unfold qK
 try simp only [qC]
 exact okE
def qZ (v:jQ):Ctr (Int):=kk tok mixed Tryz.func196 [av v.cells] (fun x=>iv x) true (qK v) (Wz v) (fun (_:True)=>UE v)
def gK (l:List Int):Sk (Int) :=
 .r 1 ((jq l 0).c) fun x1 =>
 .br x1
 (.fin 0)
 (.r 3 ((jq l 2).c) fun x2 =>
 .br x2
 (.fin 2)
 (.fin 1))
def ziE (l:List Int):Int:=(gK l).val
theorem zcp (l:List Int):(gK l).obs (fun _=>True):=by
 unfold gK
 try simp only [jq]
 exact okE
def uU (l:List Int):Ctr (Int):=kk tok mixed Tryz.func192 [lv jA l] (fun x=>iv x) true (gK l) (ziE l) (fun (_:True)=>zcp l)
def zq (v:jQ) (question:Int):Sk (Said) :=
 .r 1 ((qE v.r v.forum question ({ file:=v.f,sign:=v.sign,holder:=v.sign,defence:=(-1),due:=v.due,day:=v.day }:ka)).c) fun x1 =>
 .fin x1
def XX (v:jQ) (question:Int):Said:=(zq v question).val
theorem Gu (v:jQ) (question:Int) (h_v_f_Small:v.f.Small) (h_v_r_ByOK:v.r.ByOK) (h_v_r_Small:v.r.Small):(zq v question).obs (fun _=>True):=by
 unfold zq
 try simp only [qE]
 exact okD
def jS (v:jQ) (question:Int):Ctr (Said):=kk tok mixed Tryz.func189 [av v.cells,iv question] (fun x=>av x.cells) false (zq v question) (XX v question) (fun (h:(v.f.Small)∧(v.r.ByOK)∧(v.r.Small))=>Gu v question h.1 h.2.1 h.2.2)
def gy (c_:zb) (day:Int) (n:Int):Sk (Int × Int) :=
 .r 1 ((qQ day).c) fun x1 =>
 .br (((!x1)||(decide (n < 0)))||(decide (n > 20000)))
 (.fin (0,3))
 (.bind true (fun _=>True)
 (.loop (default:Sum (Int × Int) (Int)) (fun i3=>0≤i3.2∧i3.2≤n∧0≤i3.1∧i3.1≤100000) (fun i3=>(n - i3.2).toNat) ((day,0):Int × Int)
 (fun (i3:Int × Int)=>⟨[(1,iv i3.1),(22,iv i3.2)],[]⟩) fun i3 =>
 .br (decide (i3.2 < n))
 (.r 5 ((uW c_ (w64 (i3.1+1))).c) fun x4 =>
 .br (x4.2 != 0)
 (.fin (.inl (.inl (0,x4.2))))
 (.fin (.inr (x4.1,w64 (i3.2+1)))))
 (.fin (.inl (.inr i3.1))))
 (fun (b2:Int)=>⟨[(1,iv b2)],[]⟩) fun b2 =>
 .fin (b2,0))
def ziG (c_:zb) (day:Int) (n:Int):Int × Int:=(gy c_ day n).val
theorem zcB (c_:zb) (day:Int) (n:Int):(gy c_ day n).obs (fun _=>True):=by
 unfold gy
 try simp only [uW,qQ,KF]
 exact okG
def WU (c_:zb) (day:Int) (n:Int):Ctr (Int × Int):=kk tok mixed Tryz.func242 [av c_.cells,iv day,iv n] (fun x=>.tup [iv x.1,iv x.2]) true (gy c_ day n) (ziG c_ day n) (fun (_:True)=>zcB c_ day n)
def zC (v:jQ) (said:Said) (from_:Int):Sk (gp) :=
 .br (said.err != 0)
 (.fin ({ known:=true,last:=9223372036854775807 }:gp))
 (.br (!said.cell.known)
 (.fin ({ known:=false,last:=0 }:gp))
 (.r 5 (.andl (.p (ixP v.f.bill.pay v.r.cities.length)) ((WU (v.r.cities.getD v.f.bill.pay.toNat default) from_ said.cell.n).c)) fun x1 =>
 .br (x1.2 != 0)
 (.fin ({ known:=true,last:=9223372036854775807 }:gp))
 (.fin ({ known:=true,last:=x1.1 }:gp))))
def FI (v:jQ) (said:Said) (from_:Int):gp:=(zC v said from_).val
theorem WA (v:jQ) (said:Said) (from_:Int) (hp:v.PayOK):(zC v said from_).obs (fun _=>True):=by
 unfold zC
 try simp only [WU]
 exact okD
def kh (v:jQ) (said:Said) (from_:Int):Ctr (gp):=kk tok mixed Tryz.func222 [av v.cells,av said.cells,iv from_] (fun x=>av x.cells) true (zC v said from_) (FI v said from_) (fun (h:(v.PayOK))=>WA v said from_ h)
def qo (v:jQ):Sk (Int) :=
 .br (v.f.bill.tenor.kind == 0)
 (.r 3 (.dep ((qC v 2 0).c) fun x1=>.dep ((yx v).c) fun x2=>(zi v x1 x2).c) fun p4 =>
 .fin p4.2.2)
 (.bind false (fun _=>True)
 (.br (v.f.bill.tenor.kind == 1)
 (.r 6 (.dep ((QG v.f).c) fun x6=>.dep ((yx v).c) fun x7=>(zi v x6 x7).c) fun p9 =>
 .fin (.inr p9.2.2))
 (.fin (.inr 1)))
 (fun (b5:Int)=>⟨[(4,iv b5)],[]⟩) fun b5 =>
 .r 7 ((qZ v).c) fun x10 =>
 .br (x10 != (-1))
 (.fin b5)
 (.br (v.due == (-1))
 (.r 10 (.andl (.o [.nrm (qt ky [b5,2])]) ((uU [b5,2]).c)) fun x11 =>
 .fin x11)
 (.r 11 (.dep ((qC v 2 v.due).c) fun x12=>.dep ((jS v 10).c) fun x13=>.dep ((kh v x13 v.due).c) fun x14=>.dep ((zi v x12 x14).c) fun x15=>.andl (.o [.nrm (qt ky [b5,x15])]) ((uU [b5,x15]).c)) fun p17 =>
 .fin p17.2.2.2.2)))
def Yq (v:jQ):Int:=(qo v).val
theorem Vs (v:jQ) (h_v_f_Small:v.f.Small) (h_v_r_ByOK:v.r.ByOK) (h_v_r_Small:v.r.Small) (h_v_PayOK:v.PayOK):(qo v).obs (fun _=>True):=by
 refine Sk.obs_of _ ?_
 unfold qo
 simp (maxSteps:=2000000) only [Sk.obq,Sk.isLoop,reduceCtorEq,ON,kk,uU,jS,kh,qC,qZ,yx,zi,QG,maxLen]
 all_goals (repeat' first | assumption | (apply And.intro) | (intro h))
 all_goals first | trivial | assumption | omega | ((try simp only [LN] at *) <;> first | omega | (refine (jj ?_ ?_).trans ?_ <;> omega) | (simp (disch:=omega) only [jj] at *; omega) | (grind) | (simp_all; done) | (simp_all; omega))
def yT (v:jQ):Ctr (Int):=kk tok mixed Tryz.func187 [av v.cells] (fun x=>iv x) true (qo v) (Yq v) (fun (h:(v.f.Small)∧(v.r.ByOK)∧(v.r.Small)∧(v.PayOK))=>Vs v h.1 h.2.1 h.2.2.1 h.2.2.2)
def qq (v:jQ):Sk (Int) :=
 .r 1 ((qZ v).c) fun x1 =>
 .br (x1 != (-1))
 (.fin x1)
 (.fin v.due)
def YJ (v:jQ):Int:=(qq v).val
theorem Vk (v:jQ):(qq v).obs (fun _=>True):=by
 unfold qq
 try simp only [qZ]
 exact okE
def ku (v:jQ):Ctr (Int):=kk tok mixed Tryz.func160 [av v.cells] (fun x=>iv x) true (qq v) (YJ v) (fun (_:True)=>Vk v)
def qp (v:jQ):Sk (Int) :=
 .r 1 ((ku v).c) fun x1 =>
 .r 2 (.dep ((jS v 10).c) fun x2=>(kh v x2 x1).c) fun p11 =>
 .br (!p11.2.known)
 (.fin 2)
 (.bind false (fun _=>True)
 (.br (decide (v.day≤p11.2.last))
 (.fin (.inr 2))
 (.fin (.inr 0)))
 (fun (b4:Int)=>⟨[(5,iv b4)],[]⟩) fun b4 =>
 .bind true (fun _=>True)
 (.loop (default:Sum (Int) (Int)) (fun i6=>i6.2≤v.f.acts.length) (fun i6=>v.f.acts.length - i6.2) ((b4,0):Int × Nat)
 (fun (i6:Int × Nat)=>⟨[(5,iv i6.1),(28,iv (i6.2:Int))],[]⟩) fun i6 =>
 .bnd 26 0 v.f.acts.length <|
 .br (decide ((i6.2:Int) < ((v.f.acts.length:Nat):Int)))
 (.r 10 (.p (ixP (i6.2:Int) v.f.acts.length)) fun _ =>
 .br ((((((v.f.acts.getD i6.2 default).kind) != 4)||(((v.f.acts.getD i6.2 default).to_) != v.f.bill.drawee))||(decide (((v.f.acts.getD i6.2 default).day) < x1)))||(decide (((v.f.acts.getD i6.2 default).day) > p11.2.last)))
 (.r 19 .z fun _ =>
 .wi 28 (w64 ((i6.2:Int)+1)) ((i6.2+1:Nat):Int) <|
 .fin (.inr (i6.1,i6.2+1)))
 (.bind false (fun _=>True)
 (.br (((v.f.acts.getD i6.2 default).form) == 1)
 (.r 14 (.dep ((jS v 9).c) fun x8=>(qF x8).c) fun p10 =>
 .fin (.inr p10.2))
 (.fin (.inr 1)))
 (fun (b7:Int)=>⟨[(8,iv b7)],[]⟩) fun b7 =>
 .br (b7 == 1)
 (.fin (.inl (.inl 1)))
 (.br (b7 == 2)
 (.r 19 .z fun _ =>
 .wi 28 (w64 ((i6.2:Int)+1)) ((i6.2+1:Nat):Int) <|
 .fin (.inr (2,i6.2+1)))
 (.r 19 .z fun _ =>
 .wi 28 (w64 ((i6.2:Int)+1)) ((i6.2+1:Nat):Int) <|
 .fin (.inr (i6.1,i6.2+1))))))
 (.fin (.inl (.inr i6.1))))
 (fun (b5:Int)=>⟨[(5,iv b5)],[]⟩) fun b5 =>
 .fin b5)
def YN (v:jQ):Int:=(qp v).val
theorem Vo (v:jQ) (h_v_f_Small:v.f.Small) (h_v_r_ByOK:v.r.ByOK) (h_v_r_Small:v.r.Small) (h_v_PayOK:v.PayOK):(qp v).obs (fun _=>True):=by
 unfold qp
 try simp only [qF,jS,kh,ku]
 exact okD
def gq (v:jQ):Ctr (Int):=kk tok mixed Tryz.func190 [av v.cells] (fun x=>iv x) true (qp v) (YN v) (fun (h:(v.f.Small)∧(v.r.ByOK)∧(v.r.Small)∧(v.PayOK))=>Vo v h.1 h.2.1 h.2.2.1 h.2.2.2)
def vY (said:Said) (answer:Int):Sk (Int) :=
 .r 1 ((qF said).c) fun x1 =>
 .br ((x1 == 0)||(answer == 1))
 (.fin 1)
 (.br (x1 == 2)
 (.fin 2)
 (.fin answer))
def zbQ (said:Said) (answer:Int):Int:=(vY said answer).val
theorem Fs (said:Said) (answer:Int):(vY said answer).obs (fun _=>True):=by
 unfold vY
 try simp only [qF]
 exact okE
def JX (said:Said) (answer:Int):Ctr (Int):=kk tok mixed Tryz.func188 [av said.cells,iv answer] (fun x=>iv x) true (vY said answer) (zbQ said answer) (fun (_:True)=>Fs said answer)
def qD (v:jQ):Sk (Int) :=
 .r 1 ((ku v).c) fun x1 =>
 .r 2 ((jS v 12).c) fun x2 =>
 .r 3 ((kh v x2 x1).c) fun x3 =>
 .br (!x3.known)
 (.fin 2)
 (.bind true (fun _=>True)
 (.loop (default:Sum (Int) (Int)) (fun i5=>i5.2.2≤v.f.acts.length∧i5.2.1.length≤i5.2.2) (fun i5=>v.f.acts.length - i5.2.2) ((x3.last,[],0):Int × (List jE) × Nat)
 (fun (i5:Int × (List jE) × Nat)=>⟨[(6,iv i5.1),(7,ow 100005 i5.2.1),(30,iv (i5.2.2:Int))],[(100005,jy 108 9 jE.cells i5.2.1)]⟩) fun i5 =>
 .bnd 28 0 v.f.acts.length <|
 .br (decide ((i5.2.2:Int) < ((v.f.acts.length:Nat):Int)))
 (.bind true (fun b6=>b6.2.1.length≤i5.2.1.length+1)
 (.r 10 (.p (ixP (i5.2.2:Int) v.f.acts.length)) fun _ =>
 .br (((v.f.acts.getD i5.2.2 default).kind) != 5)
 (.fin (.inr (i5.1,i5.2.1,v.f.acts.getD i5.2.2 default,(v.f.acts.getD i5.2.2 default).kind,((v.f.acts.getD i5.2.2 default).kind) != 5)))
 (.bind true (fun _=>True)
 (.loop (default:Sum (Sum (Sum (Sum (Int) (Int)) (Int × (List jE) × Nat)) (Int × (List jE) × jE × Int × Bool)) (Bool × Int × Bool)) (fun i8=>i8.2≤i5.2.1.length) (fun i8=>i5.2.1.length - i8.2) (((decide (((v.f.acts.getD i5.2.2 default).day)≥x1))&&(decide (((v.f.acts.getD i5.2.2 default).day)≤x3.last)),0):Bool × Nat)
 (fun (i8:Bool × Nat)=>⟨[(10,bv i8.1),(50,iv (i8.2:Int))],[]⟩) fun i8 =>
 .bnd 7 0 i5.2.1.length <|
 .br (decide ((i8.2:Int) < ((i5.2.1.length:Nat):Int)))
 (.r 15 (.andl (.p (ixP (i8.2:Int) i5.2.1.length)) (.p (i8.2 < i5.2.1.length))) fun _ =>
 .r 16 (.wh i8.1 false (.wh (((i5.2.1.getD i8.2 default).to_) == ((v.f.acts.getD i5.2.2 default).who)) true ((kh v x2 ((i5.2.1.getD i8.2 default).day)).c))) fun x9 =>
 .r 17 .z fun _ =>
 .wi 50 (w64 ((i8.2:Int)+1)) ((i8.2+1:Nat):Int) <|
 .fin (.inr (i8.1||((((i5.2.1.getD i8.2 default).to_) == ((v.f.acts.getD i5.2.2 default).who))&&(decide (((v.f.acts.getD i5.2.2 default).day)≤x9.last))),i8.2+1)))
 (.fin (.inl (.inr (i8.1,(i8.2:Int),decide ((i8.2:Int) < ((i5.2.1.length:Nat):Int)))))))
 (fun (b7:Bool × Int × Bool)=>⟨[(10,bv b7.1),(50,iv b7.2.1),(51,bv b7.2.2)],[]⟩) fun b7 =>
 .br (!b7.1)
 (.fin (.inr (i5.1,i5.2.1,v.f.acts.getD i5.2.2 default,(v.f.acts.getD i5.2.2 default).kind,((v.f.acts.getD i5.2.2 default).kind) != 5)))
 (.r 19 (.p (ixP v.sign v.f.signs.length)) fun _ =>
 .br (((v.f.acts.getD i5.2.2 default).to_) == ((v.f.signs.getD v.sign.toNat default).who))
 (.fin (.inl (.inl (.inl 1))))
 (.r 21 (.andl (.o [.nrm (qt jE.E [v.f.acts.getD i5.2.2 default])]) (.andl (.o [.nrm (Ji jE.E i5.2.1 [v.f.acts.getD i5.2.2 default])]) (.andl (.t (jE.E.ones [v.f.acts.getD i5.2.2 default])) (.p (szP i5.2.1.length [v.f.acts.getD i5.2.2 default].length 72))))) fun _ =>
 .r 22 ((kh v x2 ((v.f.acts.getD i5.2.2 default).day)).c) fun x10 =>
 .fin (.inr (jP i5.1 x10.last,i5.2.1++[v.f.acts.getD i5.2.2 default],v.f.acts.getD i5.2.2 default,(v.f.acts.getD i5.2.2 default).kind,((v.f.acts.getD i5.2.2 default).kind) != 5))))))
 (fun (b6:Int × (List jE) × jE × Int × Bool)=>⟨[(6,iv b6.1),(7,ow 100007 b6.2.1),(33,av b6.2.2.1.cells),(35,iv b6.2.2.2.1),(36,bv b6.2.2.2.2)],[(100007,jy 108 9 jE.cells b6.2.1)]⟩) fun b6 =>
 .r 23 .z fun _ =>
 .wi 30 (w64 ((i5.2.2:Int)+1)) ((i5.2.2+1:Nat):Int) <|
 .fin (.inr (b6.1,b6.2.1,i5.2.2+1)))
 (.fin (.inl (.inr i5.1))))
 (fun (b4:Int)=>⟨[(6,iv b4)],[]⟩) fun b4 =>
 .br (decide (v.day > b4))
 (.fin 0)
 (.fin 2))
def Gj (v:jQ):Int:=(qD v).val
theorem Uu (v:jQ) (hs:0≤v.sign∧v.sign < (v.f.signs.length:Int)) (h_v_f_Small:v.f.Small) (h_v_r_ByOK:v.r.ByOK) (h_v_r_Small:v.r.Small) (h_v_PayOK:v.PayOK):(qD v).obs (fun _=>True):=by
 refine Sk.obs_of _ ?_
 unfold qD
 simp only [Sk.obq,Sk.isLoop,reduceCtorEq,ON,kk,jS,kh,ku,maxLen]
 have hS1:=h_v_f_Small.2.2.1
 all_goals exact okT
def Jf (v:jQ):Ctr (Int):=kk tok mixed Tryz.func191 [av v.cells] (fun x=>iv x) true (qD v) (Gj v) (fun (h:(0≤v.sign∧v.sign < (v.f.signs.length:Int))∧(v.f.Small)∧(v.r.ByOK)∧(v.r.Small)∧(v.PayOK))=>Uu v h.1 h.2.1 h.2.2.1 h.2.2.2.1 h.2.2.2.2)
def yH (r:jg) (forum:Int) (f:jh) (sign:Int) (day:Int):Sk (Kept) :=
 .r 1 ((gZ r forum f sign day).c) fun x1 =>
 .br ((decide (sign < 0))||(decide (sign≥((x1.f.signs.length:Nat):Int))))
 (.fin ({ shown:=0,protest:=0,notice:=0,all:=0 }:Kept))
 (.r 5 ((yT x1).c) fun x2 =>
 .bind false (fun _=>True)
 (.br (x1.due != (-1))
 (.r 7 (.dep ((jS x1 8).c) fun x4=>.dep ((gq x1).c) fun x5=>(JX x4 x5).c) fun p11 =>
 .r 8 (.dep ((jS x1 11).c) fun x7=>.dep ((Jf x1).c) fun x8=>(JX x7 x8).c) fun p10 =>
 .fin (.inr ({ shown:=x2,protest:=p11.2.2,notice:=p10.2.2,all:=0 }:Kept)))
 (.fin (.inr ({ shown:=x2,protest:=2,notice:=2,all:=0 }:Kept))))
 (fun (b3:Kept)=>⟨[],[(12,.box (b3.cells.map .d))]⟩) fun b3 =>
 .r 9 (.andl (.o [.nrm (qt ky [b3.shown,b3.protest,b3.notice])]) ((uU [b3.shown,b3.protest,b3.notice]).c)) fun x12 =>
 .fin ({ b3 with all:=x12 }))
def Hf (r:jg) (forum:Int) (f:jh) (sign:Int) (day:Int):Kept:=(yH r forum f sign day).val
theorem zaI (r:jg) (forum:Int) (f:jh) (sign:Int) (day:Int) (hF:jU r f) (h_f_Small:f.Small) (h_r_ByOK:r.ByOK) (h_r_Small:r.Small):(yH r forum f sign day).obs (fun _=>True):=by
 refine Sk.obs_of _ ?_
 unfold yH
 simp only [Sk.obq,Sk.isLoop,reduceCtorEq,ON,kk,uU,gZ,JX,jS,Jf,yT,gq,maxLen]
 refine ⟨⟨h_f_Small,h_r_ByOK,h_r_Small⟩,fun x _ hx hc=>?_⟩
 have hS:x.f.Small:=by rw [hx.2.1]; exact HC h_f_Small day
 have hB:x.r.ByOK:=by rw [hx.1]; exact h_r_ByOK
 have hR:x.r.Small:=by rw [hx.1]; exact h_r_Small
 have hp:x.PayOK:=by unfold jQ.PayOK; rw [hx.1,hx.2.1,zmL]; exact hF.1.2.1
 have hs:0≤x.sign∧x.sign < (x.f.signs.length:Int):=by rw [hx.2.2]; simp only [LN] at hc; omega
 all_goals exact okT
def Qq (r:jg) (forum:Int) (f:jh) (sign:Int) (day:Int):Ctr (Kept):=kk tok mixed Tryz.func154 [av r.cells,iv forum,av f.cells,iv sign,iv day] (fun x=>av x.cells) true (yH r forum f sign day) (Hf r forum f sign day) (fun (h:(jU r f)∧(f.Small)∧(r.ByOK)∧(r.Small))=>zaI r forum f sign day h.1 h.2.1 h.2.2.1 h.2.2.2)
theorem zan {d:Array Int} {n:Nat} (hs:∀ i j,i≤j→j < n→d[i]!≤d[j]!):∀ m,m≤n→(Lib.compactUpTo d m).Pairwise (· < ·)∧∀ x,x∈Lib.compactUpTo d m↔∃ j,j < m∧d[j]! = x
 | 0,_=>by simp [Lib.compactUpTo]
 | m+1,hm=>by
  obtain ⟨h1,h2⟩:=zan hs m (by omega)
  rw [Lib.compactUpTo_succ]
  by_cases hk:Lib.keeps d m=true
  ·rw [if_pos hk]
   refine ⟨List.pairwise_append.2 ⟨h1,by simp,fun a ha b hb=>?_⟩,fun x=>?_⟩
   ·simp only [List.mem_singleton] at hb
    subst hb
    obtain ⟨j,hj,rfl⟩:=(h2 a).1 ha
    have h3:=hs j (m - 1) (by omega) (by omega)
    have h4:=hs (m - 1) m (by omega) (by omega)
    simp only [Lib.keeps,decide_eq_true_eq] at hk
    rcases hk with hk | hk
    ·omega
    ·omega
   ·rw [List.mem_append,h2,List.mem_singleton]
    constructor
    ·rintro (⟨j,hj,rfl⟩ | rfl)
     ·exact ⟨j,by omega,rfl⟩
     ·exact ⟨m,by omega,rfl⟩
    ·rintro ⟨j,hj,rfl⟩
     by_cases e:j=m
     ·subst e; exact .inr rfl
     ·exact .inl ⟨j,by omega,rfl⟩
  ·rw [if_neg hk,List.append_nil]
   refine ⟨h1,fun x=>(h2 x).trans ?_⟩
   constructor
   ·rintro ⟨j,hj,rfl⟩
    exact ⟨j,by omega,rfl⟩
   ·rintro ⟨j,hj,rfl⟩
    by_cases e:j=m
    ·subst e
     simp only [Lib.keeps,decide_eq_true_eq,not_or] at hk
     have:¬ d[j]!≠d[j - 1]!:=hk.2
     exact ⟨j - 1,by omega,by omega⟩
    ·exact ⟨j,by omega,rfl⟩
theorem zcK {β Y:Type} {γ:Type} (sg:γ→List β) (se:Y→β) {δ:Type} (sd:δ→List β) {f:γ→Y→δ ⊕ γ}:∀ (l:List Y) (s:γ),(∀ s y,match f s y with | .inl e=>sd e=sg s | .inr s'=>sg s'=sg s++[se y]) →
  ∃ k,(match KH f l s with | .inl e=>sd e | .inr s'=>sg s')=sg s++(l.take k).map se
 | [],s,_=>⟨0,by simp [KH]⟩
 | y :: r,s,h=>by
  have h1:=h s y
  simp only [KH]
  cases e:f s y with
  | inl b=>rw [e] at h1; exact ⟨0,by simpa using h1⟩
  | inr s' =>
   rw [e] at h1
   obtain ⟨k,hk⟩:=zcK sg se sd r s' h
   refine ⟨k+1,?_⟩
   rw [hk,h1]
   simp
theorem zmW (f:jh) (part day:Int):∃ k,(Zf f part day).signs=((jJ f day part).take k).map (·.1):=by
 unfold Zf zR
 dsimp +instances only [Sk.val_bind,Sk.val_loop,Sk.val_bnd,Sk.val_br,Sk.val_r,Sk.val_wi,Sk.val_fin,Sk.val_rf,Ctr.c_v,kk,Cal.andl_v,ub,vE,zc,QV]
 obtain ⟨k,hk⟩:=zcK (fun s:List Int × Int × Bool × Int × List Int=>s.1) (fun y:Int × ql=>y.1) (fun e:List Int × Int × Int × Bool × Int × List Int=>e.1)
  (f:=fun s y=>bif (!s.2.2.1)&&(y.2.who != s.2.1) then .inl (s.1,s.2.1,y.1,s.2.2.1,s.2.2.2.1,s.2.2.2.2) else bif (vH f day).2&&decide (y.2.day > (vH f day).1) then .inr (s.1++[y.1],y.2.to_,y.2.to_ == (-1),XS s.2.2.2.1 y.2.flags,s.2.2.2.2++[y.1]) else .inr (s.1++[y.1],y.2.to_,y.2.to_ == (-1),XS s.2.2.2.1 y.2.flags,s.2.2.2.2))
  (jJ f day part) ([],f.bill.payee,f.bill.payee == (-1),0,[]) (fun s y=>by
   cases (!s.2.2.1)&&(y.2.who != s.2.1)
   ·cases (vH f day).2&&decide (y.2.day > (vH f day).1) <;> rfl
   ·rfl)
 refine ⟨k,?_⟩
 rw [List.nil_append] at hk
 rw [← hk]
 generalize hr:KH _ _ _=r
 cases r <;> rfl
theorem zoS {v:kM} {part y:Int} (h:y∈jo v part):0≤y∧y < v.all.signs.length∧(v.all.signs.getD y.toNat default).kind=2∧(v.all.signs.getD y.toNat default).part=part∧(v.all.signs.getD y.toNat default).day≤v.day∧kf (qy v.all v.day) y false=false:=by
 have e:jo v part=(Zf v.all part v.day).signs:=rfl
 obtain ⟨k,hk⟩:=zmW v.all part v.day
 rw [e,hk] at h
 obtain ⟨z,hz,rfl⟩:=List.mem_map.1 h
 obtain ⟨i,hi⟩:=List.getElem?_of_mem ((List.take_sublist _ _).subset hz)
 have:=zgA hi
 rw [← this.2.2.2.1]
 exact ⟨this.2.1,this.2.2.1,this.2.2.2.2⟩
theorem zdh (c:kV) (last:Int):∀ (links:List Int) (o z:uX),z∈gH c last links o→(z.sign=o.sign∧z.firm=o.firm∨z.sign∈links∧z.firm=(c.view.now.signs.getD z.sign.toNat default).to_)∧(z.state=2∨z.state=o.state)
 | [],o,z,h=>by
  simp only [gH,List.mem_singleton] at h
  subst h
  exact ⟨.inl ⟨rfl,rfl⟩,.inr rfl⟩
 | l :: r,o,z,h=>by
  simp only [gH] at h
  cases h0:kj c l last == 0 with
  | true =>
   rw [h0,cond_true,List.mem_singleton] at h
   subst h
   exact ⟨.inl ⟨rfl,rfl⟩,.inr rfl⟩
  | false =>
   rw [h0,cond_false] at h
   have ih:∀ o',o'.sign=l→o'.firm=(c.view.now.signs.getD l.toNat default).to_→(o'.state=2∨o'.state=o.state)→z∈gH c last r o'→(z.sign=o.sign∧z.firm=o.firm∨z.sign∈l :: r∧z.firm=(c.view.now.signs.getD z.sign.toNat default).to_)∧(z.state=2∨z.state=o.state):=by
    intro o' e1 e2 e3 hz
    obtain ⟨h1,h2⟩:=zdh c last r o' z hz
    refine ⟨.inr ?_,?_⟩
    ·rcases h1 with ⟨h1,h3⟩ | ⟨h1,h3⟩
     ·rw [h1,e1]; exact ⟨by simp,by rw [h3,e2]⟩
     ·exact ⟨by simp [h1],h3⟩
    ·rcases h2 with h2 | h2
     ·exact .inl h2
     ·rw [h2]; exact e3
   cases h2:kj c l last == 2 with
   | true =>
    rw [h2,cond_true] at h
    rcases List.mem_cons.1 h with rfl | h
    ·exact ⟨.inl ⟨rfl,rfl⟩,.inl rfl⟩
    ·exact ih _ rfl rfl (.inl rfl) h
   | false =>
    rw [h2,cond_false] at h
    exact ih { o with firm:=(c.view.now.signs.getD l.toNat default).to_,sign:=l } rfl rfl (.inr rfl) h
theorem znw {c:kV} {links:List Int} {z:uX} (h:z∈jF c links):(z.sign = -1∧z.firm=c.view.now.bill.payee∨z.sign∈links∧z.firm=(c.view.now.signs.getD z.sign.toNat default).to_)∧(z.state=1∨z.state=2):=by
 have:=zdh c _ links _ z h
 exact ⟨this.1,this.2.symm⟩
theorem He (c:kV) (last:Int):∀ (links:List Int) (o:uX),(gH c last links o).length≤links.length+1
 | [],o=>by simp [gH]
 | l :: r,o=>by
  simp only [gH]
  cases kj c l last == 0 with
  | true=>simp
  | false =>
   rw [cond_false]
   cases kj c l last == 2 with
   | true=>rw [cond_true,List.length_cons,List.length_cons]; have:=He c last r { firm:=(c.view.now.signs.getD l.toNat default).to_,sign:=l,state:=2 }; omega
   | false=>rw [cond_false,List.length_cons]; have:=He c last r { o with firm:=(c.view.now.signs.getD l.toNat default).to_,sign:=l }; omega
theorem Bc (c:kV) (links:List Int):(jF c links).length≤links.length+1:=He c _ links _
def zpr (v:kM) (by_:Int) (links l:List Int) (i:Nat):Bool :=
 bif ((v.now.signs.getD i default).kind == 0)||((v.now.signs.getD i default).kind == 1) then true else
 bif (v.now.signs.getD i default).kind == 2 then ((decide (((i:Nat):Int)≤by_))&&((kY .i64 ((v.now.signs.getD i default).flags) 2) == 0))&&slices_Contains links ((i:Nat):Int)
 else slices_Contains l ((v.now.signs.getD i default).for_)
def Be (v:kM) (part by_:Int) (links:List Int) (i:Nat) (l:List Int):List Int :=
 bif vM v ((i:Nat):Int) != part then l else bif zpr v by_ links l i then l++[((i:Nat):Int)] else l
def YS (v:kM) (part by_:Int) (links:List Int):Nat→List Int
 | 0=>[]
 | n+1=>Be v part by_ links n (YS v part by_ links n)
theorem zkW {α ι δ:Type} (n:Nat) (h:Nat→α) (pack:α→Nat→ι) {f:ι→δ ⊕ ι} {d:δ} (e:α→δ) (hs:∀ i,i < n→f (pack (h i) i)=.inr (pack (h (i+1)) (i+1))) (he:f (pack (h n) n)=.inl (e (h n))) {m:Nat} (hm:n < m):iter f d m (pack (h 0) 0)=e (h n):=by
 have key:∀ k,k≤n→∀ m,k < m→iter f d m (pack (h (n - k)) (n - k))=e (h n):=by
  intro k
  induction k with
  | zero =>
   intro _ m hm
   obtain ⟨m,rfl⟩:∃ q,m=q+1:=⟨m - 1,by omega⟩
   simp only [iter,Nat.sub_zero,he]
  | succ k ih =>
   intro hk m hm
   obtain ⟨m,rfl⟩:∃ q,m=q+1:=⟨m - 1,by omega⟩
   simp only [iter,hs (n - (k+1)) (by omega)]
   rw [show n - (k+1)+1=n - k by omega]
   exact ih (by omega) m (by omega)
 have:=key n (Nat.le_refl _) m hm
 rwa [Nat.sub_self] at this
theorem zpa (v:kM) (part by_:Int) (links:List Int):jM v part by_ links=bif (by_ != (-1))&&(!(slices_Contains links by_)) then [] else YS v part by_ links v.now.signs.length:=by
 unfold jM qh
 dsimp +instances only [Sk.val_bind,Sk.val_loop,Sk.val_bnd,Sk.val_br,Sk.val_r,Sk.val_wi,Sk.val_fin,Ctr.c_v,kk,Cal.andl_v,Cal.wh_v,jq,JB]
 cases (by_ != (-1))&&(!(slices_Contains links by_)) with
 | true=>rfl
 | false =>
  refine congrArg (fun q=>Kh q fun b=>b) (zkW v.now.signs.length (YS v part by_ links) (fun s i=>(s,i)) (fun s=>Sum.inr s) (fun i hi=>?_) ?_ (by omega))
  ·dsimp only
   rw [decide_eq_true (by omega),cond_true]
   show _=Sum.inr (Be v part by_ links i (YS v part by_ links i),i+1)
   unfold Be
   cases vM v ((i:Nat):Int) != part with
   | true=>rfl
   | false =>
    unfold zpr
    rw [cond_false,cond_false]
    cases (v.now.signs.getD i default).kind == 0 with
    | true=>rfl
    | false =>
     cases (v.now.signs.getD i default).kind == 1 with
     | true=>rfl
     | false =>
      cases (v.now.signs.getD i default).kind == 2 with
      | true=>cases ((decide (((i:Nat):Int)≤by_))&&((kY .i64 ((v.now.signs.getD i default).flags) 2) == 0))&&slices_Contains links ((i:Nat):Int) <;> rfl
      | false=>cases slices_Contains (YS v part by_ links i) ((v.now.signs.getD i default).for_) <;> rfl
  ·dsimp only
   rw [decide_eq_false (by omega),cond_false]
theorem zky (l:List Int) (x:Int):slices_Contains l x=true↔x∈l:=by
 refine Iff.trans (QZ l x) ?_
 constructor
 ·rintro ⟨q,hq,e⟩
  rw [← (beq_iff_eq.1 e:l.getD q default=x)]
  exact Kv hq _
 ·intro h
  obtain ⟨i,hi,rfl⟩:=List.getElem_of_mem h
  exact ⟨i,hi,by simp [List.getD,hi]⟩
theorem zmo {v:kM} {part by_:Int} {links:List Int}:∀ {n:Nat} {y:Int},y∈YS v part by_ links n→0≤y∧y < n∧vM v y=part∧zpr v by_ links (YS v part by_ links y.toNat) y.toNat=true∧∀ z,z∈YS v part by_ links y.toNat→z∈YS v part by_ links n
 | 0,y,h=>by cases h
 | n+1,y,h=>by
  have up:∀ z,z∈YS v part by_ links n→z∈YS v part by_ links (n+1):=fun z hz=>by
   show z∈Be v part by_ links n (YS v part by_ links n)
   unfold Be
   cases vM v ((n:Nat):Int) != part with
   | true=>exact hz
   | false =>
    cases zpr v by_ links (YS v part by_ links n) n with
    | true=>exact List.mem_append_left _ hz
    | false=>exact hz
  have old:y∈YS v part by_ links n→0≤y∧y < ((n+1:Nat):Int)∧vM v y=part∧zpr v by_ links (YS v part by_ links y.toNat) y.toNat=true∧∀ z,z∈YS v part by_ links y.toNat→z∈YS v part by_ links (n+1):=fun hy=>by
   have:=zmo hy
   exact ⟨this.1,by omega,this.2.2.1,this.2.2.2.1,fun z hz=>up z (this.2.2.2.2 z hz)⟩
  change y∈Be v part by_ links n (YS v part by_ links n) at h
  unfold Be at h
  cases hp:vM v ((n:Nat):Int) != part with
  | true=>rw [hp,cond_true] at h; exact old h
  | false =>
   rw [hp,cond_false] at h
   cases hi:zpr v by_ links (YS v part by_ links n) n with
   | false=>rw [hi,cond_false] at h; exact old h
   | true =>
    rw [hi,cond_true,List.mem_append,List.mem_singleton] at h
    rcases h with h | rfl
    ·exact old h
    ·exact ⟨by omega,by omega,by simpa using hp,by simpa using hi,fun z hz=>up z (by simpa using hz)⟩
theorem znF {v:kM} {part by_:Int} {links:List Int} {y:Int} (h:y∈jM v part by_ links):(by_ = -1∨by_∈links)∧y∈YS v part by_ links v.now.signs.length:=by
 rw [zpa] at h
 cases hc:(by_ != (-1))&&(!(slices_Contains links by_)) with
 | true=>rw [hc] at h; cases h
 | false =>
  rw [hc,cond_false] at h
  refine ⟨?_,h⟩
  by_cases e:by_ = -1
  ·exact .inl e
  ·refine .inr ((zky links by_).1 ?_)
   have:(by_ != (-1))=true:=by simpa using e
   rw [this,Bool.true_and,Bool.not_eq_eq_eq_not,Bool.not_false] at hc
   exact hc
def za7 (now:jh) (i:Int):Bool:=now.acts.any fun a=>a.kind == 7&&a.at_ == i
def ze4 (now:jh):List Int:=((List.range now.signs.length).filter fun i=>((now.signs.getD i default).kind == 2)&&!(za7 now ((i:Nat):Int))).map fun i=>(now.signs.getD i default).part
theorem zfW {α:Type} (k k':Int) (v:α):∀ (m:List (Int × α)),yY (yZ m k v) k'=if k'=k then some v else yY m k'
 | []=>by
  simp only [yZ,yY]
  by_cases e:k'=k
  ·subst e; simp
  ·have:(k' == k)=false:=by simpa using e
   rw [this,if_neg e]; rfl
 | p :: r=>by
  have ih:=zfW k k' v r
  simp only [yZ]
  cases h:k == p.1 with
  | true =>
   have h:=beq_iff_eq.1 h
   simp only [cond_true,yY]
   by_cases e:k'=k
   ·subst e; rw [← h]; simp
   ·have:(k' == p.1)=false:=by rw [← h]; simpa using e
    rw [this,if_neg e]; rfl
  | false =>
   simp only [cond_false,yY,ih]
   by_cases e:k'=k
   ·subst e; rw [h]; simp
   ·rw [if_neg e,if_neg e]
theorem zoG (acts:List jE) (p:jE→Bool) (k:Int) (m:List (Int × Bool)):kf (acts.foldl (fun m a=>bif p a then yZ m a.at_ true else m) m) k false=(acts.any (fun a=>p a&&a.at_ == k)||kf m k false):=by
 induction acts generalizing m with
 | nil=>rfl
 | cons a r ih =>
  rw [List.foldl_cons,ih,List.any_cons]
  cases hp:p a with
  | false=>simp
  | true =>
   simp only [cond_true,Bool.true_and]
   unfold kf
   rw [zfW]
   by_cases e:k=a.at_
   ·subst e; simp
   ·have:(a.at_ == k)=false:=by simpa using fun h:a.at_=k=>e h.symm
    rw [if_neg e,this,Bool.false_or]
theorem zkS (f:jh) (day:Int):jW f day=⟨f,ji f day,day,bif (((Lib.compact (Uc (ze4 (ji f day)))).length:Nat):Int) == 0 then [0] else Lib.compact (Uc (ze4 (ji f day)))⟩:=by
 unfold jW gn
 dsimp +instances only [Sk.val_bind,Sk.val_loop,Sk.val_bnd,Sk.val_br,Sk.val_r,Sk.val_wi,Sk.val_wn,Sk.val_fin,Ctr.c_v,kk,Cal.andl_v,Cal.wh_v,zdx.c_v,WI.c_v,jt,QS,gE]
 generalize ji f day=now
 rw [Qv now.acts (fun s i=>(i,s)) (fun x (s:List (Int × Bool))=>Sum.inr (bif x.kind == 7 then yZ s x.at_ true else s)) (fun s=>Sum.inr s) (fun s i hi=>?_) (fun s=>?_) (by omega) []]
 ·rw [Ge (fun (x:jE) s=>bif x.kind == 7 then yZ s x.at_ true else s)]
  simp only [VC]
  have hg:∀ k,kf (now.acts.foldl (fun m a=>bif a.kind == 7 then yZ m a.at_ true else m) []) k false=za7 now k:=fun k=>by
   rw [zoG now.acts (fun a=>a.kind == 7) k []]
   show (_||false)=_
   rw [Bool.or_false]; rfl
  generalize now.acts.foldl (fun m a=>bif a.kind == 7 then yZ m a.at_ true else m) []=m at hg
  refine Eq.trans (congrArg (fun q=>Kh q _) (zkW now.signs.length (fun n=>((List.range n).filter fun i=>((now.signs.getD i default).kind == 2)&&!(za7 now ((i:Nat):Int))).map fun i=>(now.signs.getD i default).part) (fun s i=>(i,s)) (fun s=>Sum.inr s) (fun i hi=>?_) ?_ (by omega))) ?_
  rotate_left
  rotate_left
  ·simp only [VC]
   show (bif (((Lib.compact (Uc (ze4 now))).length:Nat):Int) == 0 then kM.mk f now day [0] else kM.mk f now day (Lib.compact (Uc (ze4 now))))=kM.mk f now day (bif (((Lib.compact (Uc (ze4 now))).length:Nat):Int) == 0 then [0] else Lib.compact (Uc (ze4 now)))
   cases (((Lib.compact (Uc (ze4 now))).length:Nat):Int) == 0 <;> rfl
  ·dsimp only
   rw [decide_eq_true (by omega),cond_true,hg,List.range_succ,List.filter_append,List.map_append]
   cases hc:((now.signs.getD i default).kind == 2)&&!(za7 now ((i:Nat):Int)) with
   | true=>rw [List.filter_cons_of_pos (by simpa using hc)]; rfl
   | false=>rw [List.filter_cons_of_neg (by simpa using hc)]; simp
  ·dsimp only
   rw [decide_eq_false (by omega),cond_false]
 ·rw [decide_eq_true (by omega),cond_true]
  cases (now.acts.getD i default).kind == 7 <;> rfl
 ·rw [decide_eq_false (by omega),cond_false]
def zO (c_:kV) (o:uX) (sign:Int) (links:List Int) (effects:List ke):Sk (Int × Int) :=
 .r 1 ((Zv c_.view sign).c) fun x1 =>
 .r 2 (.andl (.p (ixP sign effects.length)) ((Qr o.state ((effects.getD sign.toNat default).binds)).c)) fun x2 =>
 .r 4 (.p (ixP x1 c_.view.now.signs.length)) fun _ =>
 .br (((c_.view.now.signs.getD x1.toNat default).kind) == 1)
 (.br (!((c_.due != (-1))&&(decide (c_.view.day≥c_.due))))
 (.fin (0,0))
 (.fin (x2,0)))
 (.r 8 ((vi c_.view.now.acts).c) fun x3 =>
 .r 9 (.wh ((!((c_.due != (-1))&&(decide (c_.view.day≥c_.due))))&&(!x3)) false (.p (ixP x1 effects.length))) fun _ =>
 .br (((!((c_.due != (-1))&&(decide (c_.view.day≥c_.due))))&&(!x3))||(!((effects.getD x1.toNat default).recourse)))
 (.fin (0,0))
 (.bind true (fun _=>True)
 (.loop (default:Sum (Int × Int) (Int × Int)) (fun i5=>i5.2.2≤links.length) (fun i5=>links.length - i5.2.2) ((0,1,0):Int × Int × Nat)
 (fun (i5:Int × Int × Nat)=>⟨[(16,iv i5.1),(17,iv i5.2.1),(76,iv (i5.2.2:Int))],[]⟩) fun i5 =>
 .bnd 3 0 links.length <|
 .br (decide ((i5.2.2:Int) < ((links.length:Nat):Int)))
 (.r 14 (.p (ixP (i5.2.2:Int) links.length)) fun _ =>
 .bind false (fun _=>True)
 (.br (decide ((links.getD i5.2.2 default)≤o.sign))
 (.fin (.inr (w64 (i5.2.1+1))))
 (.fin (.inr i5.2.1)))
 (fun (b6:Int)=>⟨[(17,iv b6)],[]⟩) fun b6 =>
 .br ((decide ((links.getD i5.2.2 default)≤o.sign))&&(decide ((links.getD i5.2.2 default)≥x1)))
 (.r 19 .z fun _ =>
 .wi 76 (w64 ((i5.2.2:Int)+1)) ((i5.2.2+1:Nat):Int) <|
 .fin (.inr (w64 (i5.1+1),b6,i5.2.2+1)))
 (.r 19 .z fun _ =>
 .wi 76 (w64 ((i5.2.2:Int)+1)) ((i5.2.2+1:Nat):Int) <|
 .fin (.inr (i5.1,b6,i5.2.2+1))))
 (.fin (.inl (.inr (i5.1,i5.2.1)))))
 (fun (b4:Int × Int)=>⟨[(16,iv b4.1),(17,iv b4.2)],[]⟩) fun b4 =>
 .r 20 ((jq links x1).c) fun x7 =>
 .bind false (fun _=>True)
 (.br (!x7)
 (.fin (.inr b4.2))
 (.fin (.inr b4.1)))
 (fun (b8:Int)=>⟨[(16,iv b8)],[]⟩) fun b8 =>
 .r 22 (.dep ((Qq c_.r c_.forum c_.view.all x1 c_.view.day).c) fun x9=>(Qr x2 x9.all).c) fun p11 =>
 .fin (p11.2,b8)))
def jR (c_:kV) (o:uX) (sign:Int) (links:List Int) (effects:List ke):Int × Int:=(zO c_ o sign links effects).val
theorem BG (c_:kV) (o:uX) (sign:Int) (links:List Int) (effects:List ke) (he:effects.length=c_.view.now.signs.length) (hs:0≤sign∧sign < (c_.view.now.signs.length:Int)) (hc:c_.view.now=ji c_.view.all c_.view.day) (hF:jU c_.r c_.view.all) (h_c__view_BaseOK:c_.view.BaseOK) (h_c__view_all_Small:c_.view.all.Small) (h_c__r_ByOK:c_.r.ByOK) (h_c__r_Small:c_.r.Small):(zO c_ o sign links effects).obs (fun _=>True):=by
 unfold zO
 try simp only [Qq,Qr,Zv,vi,jq]
 exact okD
def Kq (c_:kV) (o:uX) (sign:Int) (links:List Int) (effects:List ke):Ctr (Int × Int):=kk tok mixed Tryz.func119 [av c_.cells,av o.cells,iv sign,lv jA links,lv ke.cells effects] (fun x=>.tup [iv x.1,iv x.2]) true (zO c_ o sign links effects) (jR c_ o sign links effects) (fun (h:(effects.length=c_.view.now.signs.length)∧(0≤sign∧sign < (c_.view.now.signs.length:Int))∧(c_.view.now=ji c_.view.all c_.view.day)∧(jU c_.r c_.view.all)∧(c_.view.BaseOK)∧(c_.view.all.Small)∧(c_.r.ByOK)∧(c_.r.Small))=>BG c_ o sign links effects h.1 h.2.1 h.2.2.1 h.2.2.2.1 h.2.2.2.2.1 h.2.2.2.2.2.1 h.2.2.2.2.2.2.1 h.2.2.2.2.2.2.2)
structure Hh where
 sum:Int
 interest:Int
 costs:Int
 exchange:Int
 paid:Int
 rest:Int
 currency:Int
 deriving Inhabited
def Hh.cells (c:Hh):List D:=[dI c.sum,dI c.interest,dI c.costs,dI c.exchange,dI c.paid,dI c.rest,dI c.currency]
def Hh.E:Enc Hh:=⟨Hh.cells,7,fun _=>rfl,fun _=>rfl⟩
def uu (r:jg) (forum:Int) (f:jh) (sign:Int) (day:Int):Sk (ke × Bool) :=
 .r 1 ((Kd r forum f day).c) fun x1 =>
 .br ((decide (sign < 0))||(decide (sign≥((x1.f.signs.length:Nat):Int))))
 (.fin (({ sign:=0,kind:=0,firm:=0,binds:=0,text:=0,sum:=0,recourse:=false }:ke),false))
 (.r 4 ((qU x1 sign).c) fun x2 =>
 .fin (x2,true))
def zc7 (r:jg) (forum:Int) (f:jh) (sign:Int) (day:Int):ke × Bool:=(uu r forum f sign day).val
theorem zet (r:jg) (forum:Int) (f:jh) (sign:Int) (day:Int) (hP:f.SumOK∧f.Small):(uu r forum f sign day).pst (fun (x:ke × Bool)=>0≤x.1.sum∧x.1.sum≤1099511627776):=by
 refine Sk.pst_of _ ?_
 unfold uu
 simp only [Sk.pstq,Sk.isLoop,reduceCtorEq,ON,kk,Kd,qU,maxLen]
 intro x _ hx
 refine ⟨fun _=>⟨by decide,by decide⟩,fun hc y _ hy=>hy ⟨by rw [hx.1]; exact zoj hP.1 day,by rw [hx.1]; exact HC hP.2 day,?_⟩⟩
 simp only [LN] at hc
 omega
theorem zcd (r:jg) (forum:Int) (f:jh) (sign:Int) (day:Int):(fun (x:ke × Bool)=>(f.SumOK∧f.Small)→(0≤x.1.sum∧x.1.sum≤1099511627776)) (zc7 r forum f sign day):=fun hP=>Sk.pval _ (zet r forum f sign day hP)
theorem zg6 (r:jg) (forum:Int) (f:jh) (sign:Int) (day:Int) (h_f_Small:f.Small) (h_r_ByOK:r.ByOK) (h_r_Small:r.Small):(uu r forum f sign day).obs (fun _=>True):=by
 refine Sk.obs_of _ ?_
 unfold uu
 simp only [Sk.obq,Sk.isLoop,reduceCtorEq,ON,kk,Kd,qU,maxLen]
 refine ⟨⟨h_f_Small,h_r_ByOK,h_r_Small⟩,fun x _ hx hc=>?_⟩
 have hS:x.f.Small:=by rw [hx.1]; exact HC h_f_Small day
 have hB:x.r.ByOK:=by rw [hx.2]; exact h_r_ByOK
 have hR:x.r.Small:=by rw [hx.2]; exact h_r_Small
 simp only [LN] at hc
 exact ⟨by omega,hS,hB,hR⟩
def Ym (r:jg) (forum:Int) (f:jh) (sign:Int) (day:Int):Ctr (ke × Bool):=kk tok mixed Tryz.func155 [av r.cells,iv forum,av f.cells,iv sign,iv day] (fun x=>.tup [av x.1.cells,bv x.2]) true (uu r forum f sign day) (zc7 r forum f sign day) (fun (h:(f.Small)∧(r.ByOK)∧(r.Small))=>zg6 r forum f sign day h.1 h.2.1 h.2.2) (fun (x:ke × Bool)=>(f.SumOK∧f.Small)→(0≤x.1.sum∧x.1.sum≤1099511627776)) (zcd r forum f sign day)
def Jo (n:Int) (most:Int):Sk (Bool) :=
 .fin ((decide (n≥0))&&(decide (n≤most)))
def zaF (n:Int) (most:Int):Bool:=(Jo n most).val
theorem Xc (n:Int) (most:Int):zaF n most=((decide (n≥0))&&(decide (n≤most))):=rfl
theorem zei (n:Int) (most:Int):(Jo n most).obs (fun _=>True):=by
 unfold Jo
 exact okE
def uy (n:Int) (most:Int):Ctr (Bool):=kk tok mixed Tryz.func223 [iv n,iv most] (fun x=>bv x) true (Jo n most) (zaF n most) (fun (_:True)=>zei n most)
def T8:List Nat:=[0,1,2,2,3,3,3,3,4,4,4,4,4,4,4,4]++List.replicate 16 5++List.replicate 32 6++List.replicate 64 7++List.replicate 128 8
theorem zsp:∀ k,k < 256→0 < k→1≤T8.getD k 0∧T8.getD k 0≤8∧2 ^ (T8.getD k 0 - 1)≤k∧k < 2 ^ (T8.getD k 0):=by decide +kernel
theorem zrF {x d:Int} {n t:Nat} (hd:d=2 ^ n) (h1:(2:Int) ^ (t - 1)≤x / d) (h2:x / d < 2 ^ t) (ht:1≤t):(2:Int) ^ (n+t - 1)≤x∧x < 2 ^ (n+t):=by
 subst hd
 have hp:(0:Int) < 2 ^ n:=Int.pow_pos (by omega)
 have e:=Int.mul_ediv_add_emod x (2 ^ n)
 have r0:=Int.emod_nonneg x (Int.ne_of_gt hp)
 have r1:=Int.emod_lt_of_pos x hp
 rw [show n+t - 1=n+(t - 1) by omega,Int.pow_add,Int.pow_add]
 constructor
 ·have:=Int.mul_le_mul_of_nonneg_left h1 (Int.le_of_lt hp)
  omega
 ·have:(2:Int) ^ n * (x / 2 ^ n+1)≤2 ^ n * 2 ^ t:=Int.mul_le_mul_of_nonneg_left (by omega) (Int.le_of_lt hp)
  rw [Int.mul_add] at this
  omega
theorem zos (a:Int):kN .u64 a 32=a / 4294967296:=zb4 .u64 (b:=32) (by decide)
theorem zrm (a:Int):kN .u64 a 16=a / 65536:=zb4 .u64 (b:=16) (by decide)
theorem zsv (a:Int):kN .u64 a 8=a / 256:=zb4 .u64 (b:=8) (by decide)
theorem zpK {x:Int} (h:0 < x) (h2:x < 256):1≤T8.getD x.toNat 0∧T8.getD x.toNat 0≤8∧(2:Int) ^ (T8.getD x.toNat 0 - 1)≤x∧x < 2 ^ (T8.getD x.toNat 0):=by
 obtain ⟨h3,h4,h5,h6⟩:=zsp x.toNat (by omega) (by omega)
 refine ⟨h3,h4,?_,?_⟩
 ·have:((2 ^ (T8.getD x.toNat 0 - 1):Nat):Int)≤(x.toNat:Int):=by exact_mod_cast h5
  rw [Int.natCast_pow] at this
  have e:((2:Nat):Int)=2:=rfl
  rw [e] at this
  omega
 ·have:((x.toNat:Nat):Int) < ((2 ^ (T8.getD x.toNat 0):Nat):Int):=by exact_mod_cast h6
  rw [Int.natCast_pow] at this
  have e:((2:Nat):Int)=2:=rfl
  rw [e] at this
  omega
theorem zpu:∀ k,k < 256→((⟨#[0,1,2,2,3,3,3,3,4,4,4,4,4,4,4,4,5,5,5,5,5,5,5,5,5,5,5,5,5,5,5,5,6,6,6,6,6,6,6,6,6,6,6,6,6,6,6,6,6,6,6,6,6,6,6,6,6,6,6,6,6,6,6,6,7,7,7,7,7,7,7,7,7,7,7,7,7,7,7,7,7,7,7,7,7,7,7,7,7,7,7,7,7,7,7,7,7,7,7,7,7,7,7,7,7,7,7,7,7,7,7,7,7,7,7,7,7,7,7,7,7,7,7,7,7,7,7,7,8,8,8,8,8,8,8,8,8,8,8,8,8,8,8,8,8,8,8,8,8,8,8,8,8,8,8,8,8,8,8,8,8,8,8,8,8,8,8,8,8,8,8,8,8,8,8,8,8,8,8,8,8,8,8,8,8,8,8,8,8,8,8,8,8,8,8,8,8,8,8,8,8,8,8,8,8,8,8,8,8,8,8,8,8,8,8,8,8,8,8,8,8,8,8,8,8,8,8,8,8,8,8,8,8,8,8,8,8,8,8,8,8,8,8,8,8,8,8,8,8,8,8,8,8,8,8,8]⟩:ByteArray).data.toList.getD k 0).toNat=T8.getD k 0:=by decide +kernel
theorem US {x d:Int} {n t:Nat} (hd:d=2 ^ n) (h1:(2:Int) ^ (t - 1)≤x / d) (h2:x / d < 2 ^ t) (ht:1≤t) (ht8:t≤8) (hn:n≤56) {r:Int} (hr:r=(n+t:Nat)):1≤r∧r≤64∧2 ^ (r.toNat - 1)≤x∧x < 2 ^ r.toNat:=by
 subst hr
 have:=zrF hd h1 h2 ht
 rw [Int.toNat_natCast]
 exact ⟨by omega,by omega,this.1,this.2⟩
def yt (x_:Int):Sk (Int) :=
 .bind false (fun b1=>(0 < x_→0 < b1.1)∧0≤b1.1∧b1.1 < 4294967296∧((b1.2=0∧b1.1=x_)∨(b1.2=32∧b1.1=x_ / 4294967296)))
 (.br (decide (x_≥4294967296))
 (.r 2 (.p (0≤(32:Int))) fun _ =>
 .fin (.inr (kN .u64 x_ 32,32)))
 (.fin (.inr (x_,0))))
 (fun (b1:Int × Int)=>⟨[(0,.d (.v (.int .u64 b1.1))),(2,iv b1.2)],[]⟩) fun b1 =>
 .bind false (fun b2=>(0 < x_→0 < b2.1)∧0≤b2.1∧b2.1 < 65536∧((b2.2=0∧b2.1=x_)∨(b2.2=16∧b2.1=x_ / 65536)∨(b2.2=32∧b2.1=x_ / 4294967296)∨(b2.2=48∧b2.1=x_ / 281474976710656)))
 (.br (decide (b1.1≥65536))
 (.r 5 (.p (0≤(16:Int))) fun _ =>
 .fin (.inr (kN .u64 b1.1 16,w64 (b1.2+16))))
 (.fin (.inr (b1.1,b1.2))))
 (fun (b2:Int × Int)=>⟨[(0,.d (.v (.int .u64 b2.1))),(2,iv b2.2)],[]⟩) fun b2 =>
 .br (decide (b2.1≥256))
 (.r 8 (.p (0≤(8:Int))) fun _ =>
 .r 10 (.p (0≤(IntKind.u8.wrap (kN .u64 b2.1 8))∧(IntKind.u8.wrap (kN .u64 b2.1 8)) < (((⟨#[0,1,2,2,3,3,3,3,4,4,4,4,4,4,4,4,5,5,5,5,5,5,5,5,5,5,5,5,5,5,5,5,6,6,6,6,6,6,6,6,6,6,6,6,6,6,6,6,6,6,6,6,6,6,6,6,6,6,6,6,6,6,6,6,7,7,7,7,7,7,7,7,7,7,7,7,7,7,7,7,7,7,7,7,7,7,7,7,7,7,7,7,7,7,7,7,7,7,7,7,7,7,7,7,7,7,7,7,7,7,7,7,7,7,7,7,7,7,7,7,7,7,7,7,7,7,7,7,8,8,8,8,8,8,8,8,8,8,8,8,8,8,8,8,8,8,8,8,8,8,8,8,8,8,8,8,8,8,8,8,8,8,8,8,8,8,8,8,8,8,8,8,8,8,8,8,8,8,8,8,8,8,8,8,8,8,8,8,8,8,8,8,8,8,8,8,8,8,8,8,8,8,8,8,8,8,8,8,8,8,8,8,8,8,8,8,8,8,8,8,8,8,8,8,8,8,8,8,8,8,8,8,8,8,8,8,8,8,8,8,8,8,8,8,8,8,8,8,8,8,8,8,8,8,8,8]⟩:ByteArray).size:Nat):Int))) fun _ =>
 .fin (w64 ((w64 (b2.2+8))+(w64 ((((⟨#[0,1,2,2,3,3,3,3,4,4,4,4,4,4,4,4,5,5,5,5,5,5,5,5,5,5,5,5,5,5,5,5,6,6,6,6,6,6,6,6,6,6,6,6,6,6,6,6,6,6,6,6,6,6,6,6,6,6,6,6,6,6,6,6,7,7,7,7,7,7,7,7,7,7,7,7,7,7,7,7,7,7,7,7,7,7,7,7,7,7,7,7,7,7,7,7,7,7,7,7,7,7,7,7,7,7,7,7,7,7,7,7,7,7,7,7,7,7,7,7,7,7,7,7,7,7,7,7,8,8,8,8,8,8,8,8,8,8,8,8,8,8,8,8,8,8,8,8,8,8,8,8,8,8,8,8,8,8,8,8,8,8,8,8,8,8,8,8,8,8,8,8,8,8,8,8,8,8,8,8,8,8,8,8,8,8,8,8,8,8,8,8,8,8,8,8,8,8,8,8,8,8,8,8,8,8,8,8,8,8,8,8,8,8,8,8,8,8,8,8,8,8,8,8,8,8,8,8,8,8,8,8,8,8,8,8,8,8,8,8,8,8,8,8,8,8,8,8,8,8,8,8,8,8,8,8]⟩:ByteArray).data.toList.getD ((IntKind.u8.wrap (kN .u64 b2.1 8)).toNat) 0).toNat:Int))))))
 (.r 10 (.p (0≤(IntKind.u8.wrap (b2.1))∧(IntKind.u8.wrap (b2.1)) < (((⟨#[0,1,2,2,3,3,3,3,4,4,4,4,4,4,4,4,5,5,5,5,5,5,5,5,5,5,5,5,5,5,5,5,6,6,6,6,6,6,6,6,6,6,6,6,6,6,6,6,6,6,6,6,6,6,6,6,6,6,6,6,6,6,6,6,7,7,7,7,7,7,7,7,7,7,7,7,7,7,7,7,7,7,7,7,7,7,7,7,7,7,7,7,7,7,7,7,7,7,7,7,7,7,7,7,7,7,7,7,7,7,7,7,7,7,7,7,7,7,7,7,7,7,7,7,7,7,7,7,8,8,8,8,8,8,8,8,8,8,8,8,8,8,8,8,8,8,8,8,8,8,8,8,8,8,8,8,8,8,8,8,8,8,8,8,8,8,8,8,8,8,8,8,8,8,8,8,8,8,8,8,8,8,8,8,8,8,8,8,8,8,8,8,8,8,8,8,8,8,8,8,8,8,8,8,8,8,8,8,8,8,8,8,8,8,8,8,8,8,8,8,8,8,8,8,8,8,8,8,8,8,8,8,8,8,8,8,8,8,8,8,8,8,8,8,8,8,8,8,8,8,8,8,8,8,8,8]⟩:ByteArray).size:Nat):Int))) fun _ =>
 .fin (w64 (b2.2+(w64 ((((⟨#[0,1,2,2,3,3,3,3,4,4,4,4,4,4,4,4,5,5,5,5,5,5,5,5,5,5,5,5,5,5,5,5,6,6,6,6,6,6,6,6,6,6,6,6,6,6,6,6,6,6,6,6,6,6,6,6,6,6,6,6,6,6,6,6,7,7,7,7,7,7,7,7,7,7,7,7,7,7,7,7,7,7,7,7,7,7,7,7,7,7,7,7,7,7,7,7,7,7,7,7,7,7,7,7,7,7,7,7,7,7,7,7,7,7,7,7,7,7,7,7,7,7,7,7,7,7,7,7,8,8,8,8,8,8,8,8,8,8,8,8,8,8,8,8,8,8,8,8,8,8,8,8,8,8,8,8,8,8,8,8,8,8,8,8,8,8,8,8,8,8,8,8,8,8,8,8,8,8,8,8,8,8,8,8,8,8,8,8,8,8,8,8,8,8,8,8,8,8,8,8,8,8,8,8,8,8,8,8,8,8,8,8,8,8,8,8,8,8,8,8,8,8,8,8,8,8,8,8,8,8,8,8,8,8,8,8,8,8,8,8,8,8,8,8,8,8,8,8,8,8,8,8,8,8,8,8]⟩:ByteArray).data.toList.getD ((IntKind.u8.wrap (b2.1)).toNat) 0).toNat:Int))))))
def bits_Len64 (x_:Int):Int:=(yt x_).val
theorem zhe (x_:Int) (hP:0 < x_∧x_ < 18446744073709551616):(yt x_).pst (fun (x:Int)=>1≤x∧x≤64∧2 ^ (x.toNat - 1)≤x_∧x_ < 2 ^ x.toNat):=by
 refine Sk.pst_of _ ?_
 unfold yt
 simp only [Sk.pstq,Sk.isLoop,reduceCtorEq,ON,kk,maxLen]
 simp only [zos,zrm,zsv,jj (n:=(32:Int)) (by decide) (by decide)] at *
 refine ⟨⟨fun hc _=>?_,fun hc=>?_⟩,fun b _ hb=>⟨⟨fun hc _=>?_,fun hc=>?_⟩,fun d _ hd=>⟨fun hc _ _=>?_,fun hc _=>?_⟩⟩⟩
 all_goals simp only [LN] at hc
 ·(try simp only [true_or,or_true,and_true,true_and]); omega
 ·(try simp only [true_or,or_true,and_true,true_and]); omega
 ·have e:w64 (b.2+16)=b.2+16:=jj (by omega) (by omega)
  rw [e]
  omega
 ·omega
 ·rw [zjA,Int.emod_eq_of_lt (by omega) (by omega),zpu _ (by omega)]
  have ht:=zpK (x:=d.1 / 256) (by omega) (by omega)
  rw [jj (n:=d.2+8) (by omega) (by omega),jj (n:=((T8.getD (d.1 / 256).toNat 0:Nat):Int)) (by omega) (by omega),jj (by omega) (by omega)]
  rcases hd.2.2.2 with ⟨h1,h2⟩ | ⟨h1,h2⟩ | ⟨h1,h2⟩ | ⟨h1,h2⟩
  ·exact US (n:=8) (d:=256) (t:=T8.getD (d.1 / 256).toNat 0) (by decide) (by rw [← h2]; exact ht.2.2.1) (by rw [← h2]; exact ht.2.2.2) ht.1 ht.2.1 (by omega) (by omega)
  ·exact US (n:=24) (d:=16777216) (t:=T8.getD (d.1 / 256).toNat 0) (by decide) (by rw [show x_ / 16777216=d.1 / 256 by omega]; exact ht.2.2.1) (by rw [show x_ / 16777216=d.1 / 256 by omega]; exact ht.2.2.2) ht.1 ht.2.1 (by omega) (by omega)
  ·exact US (n:=40) (d:=1099511627776) (t:=T8.getD (d.1 / 256).toNat 0) (by decide) (by rw [show x_ / 1099511627776=d.1 / 256 by omega]; exact ht.2.2.1) (by rw [show x_ / 1099511627776=d.1 / 256 by omega]; exact ht.2.2.2) ht.1 ht.2.1 (by omega) (by omega)
  ·exact US (n:=56) (d:=72057594037927936) (t:=T8.getD (d.1 / 256).toNat 0) (by decide) (by rw [show x_ / 72057594037927936=d.1 / 256 by omega]; exact ht.2.2.1) (by rw [show x_ / 72057594037927936=d.1 / 256 by omega]; exact ht.2.2.2) ht.1 ht.2.1 (by omega) (by omega)
 ·rw [zjA,Int.emod_eq_of_lt (by omega) (by omega),zpu _ (by omega)]
  have ht:=zpK (x:=d.1) (by omega) (by omega)
  rw [jj (n:=((T8.getD d.1.toNat 0:Nat):Int)) (by omega) (by omega),jj (by omega) (by omega)]
  rcases hd.2.2.2 with ⟨h1,h2⟩ | ⟨h1,h2⟩ | ⟨h1,h2⟩ | ⟨h1,h2⟩
  ·exact US (n:=0) (d:=1) (t:=T8.getD d.1.toNat 0) (by decide) (by rw [show x_ / 1=d.1 by omega]; exact ht.2.2.1) (by rw [show x_ / 1=d.1 by omega]; exact ht.2.2.2) ht.1 ht.2.1 (by omega) (by omega)
  ·exact US (n:=16) (d:=65536) (t:=T8.getD d.1.toNat 0) (by decide) (by rw [← h2]; exact ht.2.2.1) (by rw [← h2]; exact ht.2.2.2) ht.1 ht.2.1 (by omega) (by omega)
  ·exact US (n:=32) (d:=4294967296) (t:=T8.getD d.1.toNat 0) (by decide) (by rw [← h2]; exact ht.2.2.1) (by rw [← h2]; exact ht.2.2.2) ht.1 ht.2.1 (by omega) (by omega)
  ·exact US (n:=48) (d:=281474976710656) (t:=T8.getD d.1.toNat 0) (by decide) (by rw [← h2]; exact ht.2.2.1) (by rw [← h2]; exact ht.2.2.2) ht.1 ht.2.1 (by omega) (by omega)
theorem zds (x_:Int):(fun (x:Int)=>(0 < x_∧x_ < 18446744073709551616)→(1≤x∧x≤64∧2 ^ (x.toNat - 1)≤x_∧x_ < 2 ^ x.toNat)) (bits_Len64 x_):=fun hP=>Sk.pval _ (zhe x_ hP)
theorem ziQ (x_:Int) (hx:0≤x_∧x_ < 18446744073709551616):(yt x_).obs (fun _=>True):=by
 refine Sk.obs_of _ ?_
 unfold yt
 simp only [Sk.obq,Sk.isLoop,reduceCtorEq,ON,kk,maxLen]
 simp only [zos,zrm,zsv,jj (n:=(32:Int)) (by decide) (by decide)] at *
 refine ⟨⟨fun hc=>⟨by decide,fun _=>?_⟩,fun hc=>?_⟩,fun b _ hb=>⟨⟨fun hc=>⟨by decide,fun _=>?_⟩,fun hc=>?_⟩,fun d _ hd=>⟨fun hc=>⟨by decide,fun _=>⟨?_,?_⟩⟩,fun hc=>⟨?_,?_⟩⟩⟩⟩
 all_goals simp only [LN] at hc
 ·(try simp only [true_or,or_true,and_true,true_and]); omega
 ·(try simp only [true_or,or_true,and_true,true_and]); omega
 ·have e:w64 (b.2+16)=b.2+16:=jj (by omega) (by omega)
  rw [e]
  omega
 ·omega
 ·rw [zjA]; omega
 ·rw [zjA,Int.emod_eq_of_lt (by omega) (by omega)]; exact (show _ < ((256:Nat):Int) by omega)
 ·rw [zjA]; omega
 ·rw [zjA,Int.emod_eq_of_lt (by omega) (by omega)]; exact (show _ < ((256:Nat):Int) by omega)
def WO (x_:Int):Ctr (Int):=kk tok mixed Tryz.func241 [.d (.v (.int .u64 x_))] (fun x=>iv x) true (yt x_) (bits_Len64 x_) (fun (h:(0≤x_∧x_ < 18446744073709551616))=>ziQ x_ h) (fun (x:Int)=>(0 < x_∧x_ < 18446744073709551616)→(1≤x∧x≤64∧2 ^ (x.toNat - 1)≤x_∧x_ < 2 ^ x.toNat)) (zds x_)
def kQ (x_:Int):Sk (Int) :=
 .r 1 ((WO x_).c) fun x1 =>
 .fin (w64 ((64:Int) - x1))
def bits_LeadingZeros64 (x_:Int):Int:=(kQ x_).val
theorem GK (x_:Int) (hP:0 < x_∧x_ < 18446744073709551616):(kQ x_).pst (fun (x:Int)=>0≤x∧x≤63∧9223372036854775808≤x_ * 2 ^ x.toNat∧x_ * 2 ^ x.toNat < 18446744073709551616):=by
 refine Sk.pst_of _ ?_
 unfold kQ
 simp only [Sk.pstq,Sk.isLoop,reduceCtorEq,ON,kk,WO,maxLen]
 intro x _ h
 obtain ⟨h1,h2,h3,h4⟩:=h hP
 rw [jj (by omega) (by omega)]
 have e1:x.toNat - 1+(64 - x).toNat=63:=by omega
 have e2:x.toNat+(64 - x).toNat=64:=by omega
 have p:(0:Int) < 2 ^ (64 - x).toNat:=Int.pow_pos (by omega)
 have q1:=Int.mul_le_mul_of_nonneg_right h3 (Int.le_of_lt p)
 have q2:=Int.mul_lt_mul_of_pos_right h4 p
 rw [← Int.pow_add,e1] at q1
 rw [← Int.pow_add,e2] at q2
 refine ⟨by omega,by omega,?_,?_⟩
 ·exact q1
 ·exact q2
theorem YP (x_:Int):(fun (x:Int)=>(0 < x_∧x_ < 18446744073709551616)→(0≤x∧x≤63∧9223372036854775808≤x_ * 2 ^ x.toNat∧x_ * 2 ^ x.toNat < 18446744073709551616)) (bits_LeadingZeros64 x_):=fun hP=>Sk.pval _ (GK x_ hP)
theorem Wc (x_:Int) (hx:0≤x_∧x_ < 18446744073709551616):(kQ x_).obs (fun _=>True):=by
 unfold kQ
 try simp only [WO]
 exact okD
def yz (x_:Int):Ctr (Int):=kk tok mixed Tryz.func246 [.d (.v (.int .u64 x_))] (fun x=>iv x) true (kQ x_) (bits_LeadingZeros64 x_) (fun (h:(0≤x_∧x_ < 18446744073709551616))=>Wc x_ h) (fun (x:Int)=>(0 < x_∧x_ < 18446744073709551616)→(0≤x∧x≤63∧9223372036854775808≤x_ * 2 ^ x.toNat∧x_ * 2 ^ x.toNat < 18446744073709551616)) (YP x_)
end
end Go.Proofs.YtilbddpghnnmhaaGreatDoor
