/- Functions, as sketches. -/
import Derived.Test.YtilbddpghnnmhaaGreatDoorSa10
namespace Go.Proofs.YtilbddpghnnmhaaGreatDoor
noncomputable section
open Go Go.Av
set_option linter.unusedSimpArgs false
set_option linter.unusedVariables false
set_option maxHeartbeats 1000000
set_option maxRecDepth 100000
def Jw (v:kS) (sign:Int):Sk (Int) :=
 .r 1 (.p (ixP sign v.now.signs.length)) fun _ =>
 .r 2 (.wh (sign == 0) false ((jr v.lead ((v.now.signs.getD sign.toNat default).part)).c)) fun x1 =>
 .br ((sign == 0)||(!x1))
 (.r 3 (.p (ixP (0:Int) v.lead.length)) fun _ =>
 .fin (v.lead.getD 0 default))
 (.fin ((v.now.signs.getD sign.toNat default).part))
def ub (v:kS) (sign:Int):Int:=(Jw v sign).val
theorem zbU (v:kS) (sign:Int) (hs:0≤sign∧sign < v.now.signs.length) (hl:v.lead.length≠0):(Jw v sign).obs (fun _=>True):=by
 unfold Jw
 try simp only [jr]
 exact okD
def Kf (v:kS) (sign:Int):Ctr (Int):=kk tok mixed Tryz.func149 [av v.cells,iv sign] (fun x=>iv x) true (Jw v sign) (ub v sign) (fun (h:(0≤sign∧sign < v.now.signs.length)∧(v.lead.length≠0))=>zbU v sign h.1 h.2)
def qp (v:kS) (part:Int) (by_:Int) (links:List Int):Sk ((List Int)) :=
 .r 2 (.wh (by_ != (-1)) true ((jr links by_).c)) fun x1 =>
 .br ((by_ != (-1))&&(!x1))
 (.fin [])
 (.bind true (fun b2=>b2.length≤v.now.signs.length∧∀ y,y∈b2→0≤y∧y < (v.now.signs.length:Int))
 (.loop (default:Sum ((List Int)) ((List Int))) (fun i3=>i3.2≤v.now.signs.length∧i3.1.length≤i3.2∧∀ y,y∈i3.1→0≤y∧y < (v.now.signs.length:Int)) (fun i3=>v.now.signs.length - i3.2) (([],0):(List Int) × Nat)
 (fun (i3:(List Int) × Nat)=>⟨[(9,ow 100002 i3.1),(25,iv (i3.2:Int))],[(100002,jz 3 1 jC i3.1)]⟩) fun i3 =>
 .bnd 23 0 v.now.signs.length <|
 .br (decide ((i3.2:Int) < ((v.now.signs.length:Nat):Int)))
 (.r 6 (.p (ixP (i3.2:Int) v.now.signs.length)) fun _ =>
 .r 7 ((Kf v (i3.2:Int)).c) fun x4 =>
 .br (x4 != part)
 (.r 18 .z fun _ =>
 .wi 25 (w64 ((i3.2:Int)+1)) ((i3.2+1:Nat):Int) <|
 .fin (.inr (i3.1,i3.2+1)))
 (.bind true (fun _=>True)
 (.bind false (fun _=>True)
 (.br (((v.now.signs.getD i3.2 default).kind) == 0)
 (.fin (.inr (((v.now.signs.getD i3.2 default).kind) == 0)))
 (.fin (.inr (((v.now.signs.getD i3.2 default).kind) == 1))))
 (fun (b6:Bool)=>⟨[(41,bv b6)],[]⟩) fun b6 =>
 .br b6
 (.fin (.inr (true,b6,((v.now.signs.getD i3.2 default).kind) == 0)))
 (.br (((v.now.signs.getD i3.2 default).kind) == 2)
 (.r 15 (.wh ((decide ((i3.2:Int)≤by_))&&((qg .i64 ((v.now.signs.getD i3.2 default).flags) 2) == 0)) true ((jr links (i3.2:Int)).c)) fun x7 =>
 .fin (.inr (((decide ((i3.2:Int)≤by_))&&((qg .i64 ((v.now.signs.getD i3.2 default).flags) 2) == 0))&&x7,b6,((v.now.signs.getD i3.2 default).kind) == 0)))
 (.r 10 ((jr i3.1 ((v.now.signs.getD i3.2 default).for_)).c) fun x8 =>
 .fin (.inr (x8,b6,((v.now.signs.getD i3.2 default).kind) == 0)))))
 (fun (b5:Bool × Bool × Bool)=>⟨[(12,bv b5.1),(41,bv b5.2.1),(42,bv b5.2.2)],[]⟩) fun b5 =>
 .br b5.1
 (.r 17 (.andl (.o [.nrm (qk kA [(i3.2:Int)])]) (.andl (.o [.nrm (gy kA i3.1 [(i3.2:Int)])]) (.andl (.t (kA.ones [(i3.2:Int)])) (.p (szP i3.1.length [(i3.2:Int)].length 8))))) fun _ =>
 .r 18 .z fun _ =>
 .wi 25 (w64 ((i3.2:Int)+1)) ((i3.2+1:Nat):Int) <|
 .fin (.inr (i3.1++[(i3.2:Int)],i3.2+1)))
 (.r 18 .z fun _ =>
 .wi 25 (w64 ((i3.2:Int)+1)) ((i3.2+1:Nat):Int) <|
 .fin (.inr (i3.1,i3.2+1)))))
 (.fin (.inl (.inr i3.1))))
 (fun (b2:(List Int))=>⟨[(9,ow 100001 b2)],[(100001,jz 3 1 jC b2)]⟩) fun b2 =>
 .fin b2)
def jR (v:kS) (part:Int) (by_:Int) (links:List Int):(List Int):=(qp v part by_ links).val
theorem FW (v:kS) (part:Int) (by_:Int) (links:List Int):(qp v part by_ links).pst (fun (x:(List Int))=>x.length≤v.now.signs.length∧∀ y,y∈x→0≤y∧y < (v.now.signs.length:Int)):=by
 unfold qp
 try simp only [Kf,jr]
 exact okP
theorem gC (v:kS) (part:Int) (by_:Int) (links:List Int):(fun (x:(List Int))=>x.length≤v.now.signs.length∧∀ y,y∈x→0≤y∧y < (v.now.signs.length:Int)) (jR v part by_ links):=have h:=Sk.pval _ (FW v part by_ links); h
theorem BI (v:kS) (part:Int) (by_:Int) (links:List Int) (hl:v.lead.length≠0) (hn:v.now.signs.length≤1000000):(qp v part by_ links).obs (fun _=>True):=by
 unfold qp
 try simp only [Kf,jr]
 exact okD
def Qh (v:kS) (part:Int) (by_:Int) (links:List Int):Ctr ((List Int)):=kk tok mixed Tryz.func118 [av v.cells,iv part,iv by_,lv jC links] (fun x=>lv jC x) false (qp v part by_ links) (jR v part by_ links) (fun (h:(v.lead.length≠0)∧(v.now.signs.length≤1000000))=>BI v part by_ links h.1 h.2) (fun (x:(List Int))=>x.length≤v.now.signs.length∧∀ y,y∈x→0≤y∧y < (v.now.signs.length:Int)) (gC v part by_ links)
def GJ (rv:kS→Int→Int) (rp:kS→Int→Prop) (rf:∀ (v:kS) (sign:Int),rp v sign→FnA Tryz.prog 150 [av v.cells,iv sign] [] (iv (rv v sign)) []) (v:kS) (sign:Int):Ctr (Int):=⟨Tryz.prog,150,[av v.cells,iv sign],fun x=>iv x,true,rv v sign,rp v sign,rf v sign,fun _=>True,trivial⟩
def zS (rv:kS→Int→Int) (rp:kS→Int→Prop) (rf:∀ (v:kS) (sign:Int),rp v sign→FnA Tryz.prog 150 [av v.cells,iv sign] [] (iv (rv v sign)) []) (v:kS) (sign:Int):Sk (Int) :=
 .r 1 (.p (ixP sign v.now.signs.length)) fun _ =>
 .br ((((v.now.signs.getD sign.toNat default).kind) == 3)||(((v.now.signs.getD sign.toNat default).kind) == 4))
 (.r 3 ((GJ rv rp rf v ((v.now.signs.getD sign.toNat default).for_)).c) fun x1 =>
 .fin x1)
 (.fin sign)
def kg:Nat→kS→Int→Int
 | 0,_,_=>default
 | fu+1,v,sign=>(zS (kg fu) (fun _ _=>False) (fun _ _=>fun h=>h.elim) v sign).val
theorem Vq (v:kS) (h:v.BaseOK):∀ (fu:Nat) (sign:Int),0≤sign→sign < (v.now.signs.length:Int)→sign.toNat < fu→0≤kg fu v sign∧kg fu v sign≤sign
 | 0,_,_,_,h3=>absurd h3 (by omega)
 | fu+1,s,h1,h2,h3=>by
  have e:kg (fu+1) v s=bif (((v.now.signs.getD s.toNat default).kind) == 3)||(((v.now.signs.getD s.toNat default).kind) == 4) then kg fu v ((v.now.signs.getD s.toNat default).for_) else s:=by kernel_rfl
  rw [e]
  cases hk:(((v.now.signs.getD s.toNat default).kind) == 3)||(((v.now.signs.getD s.toNat default).kind) == 4) with
  | false=>exact ⟨h1,Int.le_refl _⟩
  | true =>
   rw [cond_true]
   have:=h s.toNat (by omega) (by simpa using hk)
   have:=Vq v h fu _ this.1 (by omega) (by omega)
   omega
theorem zb0 (fu:Nat) (rf:∀ (v:kS) (sign:Int),(sign.toNat+1)≤fu∧(v.BaseOK)∧(0≤sign∧sign < v.now.signs.length)→FnA Tryz.prog 150 [av v.cells,iv sign] [] (iv (kg fu v sign)) []) (v:kS) (sign:Int) (hm:(sign.toNat+1)≤fu+1) (hv:v.BaseOK) (hs:0≤sign∧sign < v.now.signs.length):(zS (kg fu) (fun v sign=>(sign.toNat+1)≤fu∧(v.BaseOK)∧(0≤sign∧sign < v.now.signs.length)) rf v sign).obs (fun _=>True):=by
 refine Sk.obs_of _ ?_
 unfold zS
 simp only [Sk.obq,Sk.isLoop,reduceCtorEq,ON,kk,GJ,maxLen]
 refine ⟨hs,fun _ hk=>?_⟩
 have:=hv sign.toNat (by omega) (by simpa using hk)
 exact ⟨by omega,hv,by omega,by omega⟩
theorem zbw (fu:Nat) (rp:kS→Int→Prop) (rf:∀ (v:kS) (sign:Int),rp v sign→FnA Tryz.prog 150 [av v.cells,iv sign] [] (iv (kg fu v sign)) []) (v:kS) (sign:Int):(zS (kg fu) rp rf v sign).val=kg (fu+1) v sign:=by kernel_rfl
theorem zaf (fu:Nat):∀ (v:kS) (sign:Int),(sign.toNat+1)≤fu→v.BaseOK→(0≤sign∧sign < v.now.signs.length)→FnA Tryz.prog 150 [av v.cells,iv sign] [] (iv (kg fu v sign)) []:=by
 induction fu with
 | zero=>intro v sign hm h0 h1; exact absurd hm (by omega)
 | succ fu ih =>
  intro v sign hm h0 h1
  have h:FnA Tryz.prog 150 [av v.cells,iv sign] [] (iv ((zS (kg fu) (fun v sign=>(sign.toNat+1)≤fu∧(v.BaseOK)∧(0≤sign∧sign < v.now.signs.length)) (fun v sign h=>ih v sign h.1 h.2.1 h.2.2) v sign).val)) []:=FnA.sk tok mixed (fun x=>iv x) (fun _=>[]) Tryz.func150 rfl (by kernel_rfl) 3000 (zS (kg fu) (fun v sign=>(sign.toNat+1)≤fu∧(v.BaseOK)∧(0≤sign∧sign < v.now.signs.length)) (fun v sign h=>ih v sign h.1 h.2.1 h.2.2) v sign) (by kernel_rfl) (zb0 fu _ v sign hm h0 h1)
  rw [zbw] at h
  exact h
def jK (v:kS) (sign:Int):Int:=kg ((sign.toNat+1)) v sign
theorem zcg (v:kS) (sign:Int) (hv:v.BaseOK) (hs:0≤sign∧sign < v.now.signs.length):FnA Tryz.prog 150 [av v.cells,iv sign] [] (iv (jK v sign)) []:=zaf _ v sign (Nat.le_refl _) hv hs
theorem Bu (v:kS) (sign:Int):(fun (x:Int)=>v.BaseOK→0≤sign∧sign < (v.now.signs.length:Int)→0≤x∧x≤sign) (jK v sign):=by
 exact fun h hs=>Vq v h _ sign hs.1 hs.2 (by omega)
def ZZ (v:kS) (sign:Int):Ctr (Int):=⟨Tryz.prog,150,[av v.cells,iv sign],fun x=>iv x,true,jK v sign,(v.BaseOK)∧(0≤sign∧sign < v.now.signs.length),fun h=>zcg v sign h.1 h.2,fun (x:Int)=>v.BaseOK→0≤sign∧sign < (v.now.signs.length:Int)→0≤x∧x≤sign,Bu v sign⟩
def vk (a:jI):Sk (Bool) :=
 .fin ((a.kind == 1)||(a.kind == 3))
def jG (a:jI):Bool:=(vk a).val
theorem Qv (a:jI):jG a=((a.kind == 1)||(a.kind == 3)):=rfl
theorem Xr (a:jI):(vk a).obs (fun _=>True):=by
 unfold vk
 exact okE
def gH (a:jI):Ctr (Bool):=kk tok mixed Tryz.func153 [av a.cells] (fun x=>bv x) true (vk a) (jG a) (fun (_:True)=>Xr a)
def kQ (s:List jI):Sk (Int) :=
 .bind true (fun b1=>∀ q,q < s.length→jG (s.getD q default)=false)
 (.loop (default:Sum (Int) (Unit)) (fun i2=>∀ q,q < i2→jG (s.getD q default)=false) (fun i2=>s.length - i2) (0:Nat)
 (fun (i2:Nat)=>⟨[(8,iv (i2:Int))],[]⟩) fun i2 =>
 .bnd 0 0 s.length <|
 .br (decide ((i2:Int) < ((s.length:Nat):Int)))
 (.r 4 (.andl (.p (ixP (i2:Int) s.length)) ((gH (s.getD i2 default)).c)) fun x3 =>
 .br x3
 (.fin (.inl (.inl (i2:Int))))
 (.r 6 .z fun _ =>
 .wi 8 (w64 ((i2:Int)+1)) ((i2+1:Nat):Int) <|
 .fin (.inr (i2+1))))
 (.fin (.inl (.inr ()))))
 (fun (_:Unit)=>⟨[],[]⟩) fun _ =>
 .fin (-1)
def ZG (s:List jI):Int:=(kQ s).val
theorem YS (s:List jI):(kQ s).pst (fun (x:Int)=>(x = -1∧∀ q,q < s.length→jG (s.getD q default)=false)∨(0≤x∧x < s.length∧jG (s.getD x.toNat default)=true∧∀ q,(q:Nat) < x.toNat→jG (s.getD q default)=false)):=by
 unfold kQ
 try simp only [gH,Qv]
 exact okQ
theorem US (s:List jI):(fun (x:Int)=>(x = -1∧∀ q,q < s.length→jG (s.getD q default)=false)∨(0≤x∧x < s.length∧jG (s.getD x.toNat default)=true∧∀ q,(q:Nat) < x.toNat→jG (s.getD q default)=false)) (ZG s):=have h:=Sk.pval _ (YS s); h
theorem GG (s:List jI):(kQ s).obs (fun _=>True):=by
 unfold kQ
 try simp only [gH,Qv]
 exact okG
def yp (s:List jI):Ctr (Int):=kk tok mixed Tryz.func186 [lv jI.cells s,.fn 153 []] (fun x=>iv x) true (kQ s) (ZG s) (fun (_:True)=>GG s) (fun (x:Int)=>(x = -1∧∀ q,q < s.length→jG (s.getD q default)=false)∨(0≤x∧x < s.length∧jG (s.getD x.toNat default)=true∧∀ q,(q:Nat) < x.toNat→jG (s.getD q default)=false)) (US s)
def kx (s:List jI):Sk (Bool) :=
 .r 1 ((yp s).c) fun x1 =>
 .fin (decide (x1≥0))
def kL (s:List jI):Bool:=(kx s).val
theorem VK (s:List jI):(kx s).pst (fun (x:Bool)=>(x=true↔∃ q,q < s.length∧jG (s.getD q default)=true)):=by
 unfold kx
 try simp only [yp]
 exact okP
theorem Vl (s:List jI):(fun (x:Bool)=>(x=true↔∃ q,q < s.length∧jG (s.getD q default)=true)) (kL s):=have h:=Sk.pval _ (VK s); h
theorem Ud (s:List jI):(kx s).obs (fun _=>True):=by
 unfold kx
 try simp only [yp]
 exact okE
def vq (s:List jI):Ctr (Bool):=kk tok mixed Tryz.func152 [lv jI.cells s,.fn 153 []] (fun x=>bv x) true (kx s) (kL s) (fun (_:True)=>Ud s) (fun (x:Bool)=>(x=true↔∃ q,q < s.length∧jG (s.getD q default)=true)) (Vl s)
structure Kept where
 shown:Int
 protest:Int
 notice:Int
 all:Int
 deriving Inhabited
def Kept.cells (c:Kept):List D:=[dI c.shown,dI c.protest,dI c.notice,dI c.all]
def Kept.E:Enc Kept:=⟨Kept.cells,4,fun _=>rfl,fun _=>rfl⟩
structure jT where
 r:jg
 forum:Int
 f:jh
 sign:Int
 day:Int
 due:Int
 deriving Inhabited
def jT.cells (c:jT):List D:=c.r.cells++[dI c.forum]++c.f.cells++[dI c.sign,dI c.day,dI c.due]
def jT.E:Enc jT:=⟨jT.cells,31,fun _=>rfl,fun _=>rfl⟩
def jT.PayOK (v:jT):Prop:=0≤v.f.bill.pay∧v.f.bill.pay < v.r.cities.length
def zx (r:jg) (forum:Int) (f:jh) (sign:Int) (day:Int):Sk (jT) :=
 .r 1 (.dep ((ju f day).c) fun _=>(jS r forum f day).c) fun p3 =>
 .fin ({ r:=r,forum:=forum,f:=p3.1,sign:=sign,day:=day,due:=p3.2 }:jT)
def XZ (r:jg) (forum:Int) (f:jh) (sign:Int) (day:Int):jT:=(zx r forum f sign day).val
theorem BJ (r:jg) (forum:Int) (f:jh) (sign:Int) (day:Int):(zx r forum f sign day).pst (fun (x:jT)=>x.r=r∧x.f=ji f day∧x.sign=sign):=by
 unfold zx
 try simp only [jS,ju,jh.Small,jg.Small,jg.ByOK]
 exact okP
theorem FE (r:jg) (forum:Int) (f:jh) (sign:Int) (day:Int):(fun (x:jT)=>x.r=r∧x.f=ji f day∧x.sign=sign) (XZ r forum f sign day):=have h:=Sk.pval _ (BJ r forum f sign day); h
theorem za7 (r:jg) (forum:Int) (f:jh) (sign:Int) (day:Int) (h_f_Small:f.Small) (h_r_ByOK:r.ByOK) (h_r_Small:r.Small):(zx r forum f sign day).obs (fun _=>True):=by
 simp only [jh.Small,jg.Small,jg.ByOK] at h_f_Small
 simp only [jh.Small,jg.Small,jg.ByOK] at h_r_ByOK
 simp only [jh.Small,jg.Small,jg.ByOK] at h_r_Small
 unfold zx
 try simp only [jS,ju,jh.Small,jg.Small,jg.ByOK]
 exact okD
def gU (r:jg) (forum:Int) (f:jh) (sign:Int) (day:Int):Ctr (jT):=kk tok mixed Tryz.func159 [av r.cells,iv forum,av f.cells,iv sign,iv day] (fun x=>av x.cells) false (zx r forum f sign day) (XZ r forum f sign day) (fun (h:(f.Small)∧(r.ByOK)∧(r.Small))=>za7 r forum f sign day h.1 h.2.1 h.2.2) (fun (x:jT)=>x.r=r∧x.f=ji f day∧x.sign=sign) (FE r forum f sign day)
def zr (v:jT) (kind:Int) (from_:Int):Sk (Int) :=
 .bind true (fun _=>True)
 (.loop (default:Sum (Int) (Unit)) (fun i2=>i2≤v.f.acts.length) (fun i2=>v.f.acts.length - i2) (0:Nat)
 (fun (i2:Nat)=>⟨[(13,iv (i2:Int))],[]⟩) fun i2 =>
 .bnd 11 0 v.f.acts.length <|
 .br (decide ((i2:Int) < ((v.f.acts.length:Nat):Int)))
 (.r 3 (.p (ixP (i2:Int) v.f.acts.length)) fun _ =>
 .br (((((v.f.acts.getD i2 default).kind) == kind)&&(((v.f.acts.getD i2 default).to_) == v.f.bill.drawee))&&(decide (((v.f.acts.getD i2 default).day)≥from_)))
 (.fin (.inl (.inl ((v.f.acts.getD i2 default).day))))
 (.r 6 .z fun _ =>
 .wi 13 (w64 ((i2:Int)+1)) ((i2+1:Nat):Int) <|
 .fin (.inr (i2+1))))
 (.fin (.inl (.inr ()))))
 (fun (_:Unit)=>⟨[],[]⟩) fun _ =>
 .fin (-1)
def HH (v:jT) (kind:Int) (from_:Int):Int:=(zr v kind from_).val
theorem GQ (v:jT) (kind:Int) (from_:Int):(zr v kind from_).obs (fun _=>True):=by
 unfold zr
 exact okD
def qE (v:jT) (kind:Int) (from_:Int):Ctr (Int):=kk tok mixed Tryz.func220 [av v.cells,iv kind,iv from_] (fun x=>iv x) true (zr v kind from_) (HH v kind from_) (fun (_:True)=>GQ v kind from_)
structure gF where
 known:Bool
 last:Int
 deriving Inhabited
def gF.cells (c:gF):List D:=[dB c.known,dI c.last]
def gF.E:Enc gF:=⟨gF.cells,2,fun _=>rfl,fun _=>rfl⟩
def zF (v:jT):Sk (gF) :=
 .r 1 ((Kl v.r v.forum 7 v.f v.day).c) fun x1 =>
 .br (x1.err != 0)
 (.fin ({ known:=true,last:=9223372036854775807 }:gF))
 (.br (!x1.cell.known)
 (.fin ({ known:=false,last:=0 }:gF))
 (.br (decide ((w64 (v.f.bill.day+x1.cell.n)) > 100000))
 (.fin ({ known:=true,last:=9223372036854775807 }:gF))
 (.fin ({ known:=true,last:=w64 (v.f.bill.day+x1.cell.n) }:gF))))
def FG (v:jT):gF:=(zF v).val
theorem Wk (v:jT) (h_v_f_Small:v.f.Small) (h_v_r_ByOK:v.r.ByOK) (h_v_r_Small:v.r.Small):(zF v).obs (fun _=>True):=by
 unfold zF
 try simp only [Kl]
 exact okD
def yV (v:jT):Ctr (gF):=kk tok mixed Tryz.func221 [av v.cells] (fun x=>av x.cells) true (zF v) (FG v) (fun (h:(v.f.Small)∧(v.r.ByOK)∧(v.r.Small))=>Wk v h.1 h.2.1 h.2.2)
def zg (v:jT) (on:Int) (t:gF):Sk (Int) :=
 .br (!t.known)
 (.fin 2)
 (.br ((on != (-1))&&(decide (on≤t.last)))
 (.fin 1)
 (.br ((on != (-1))||(decide (v.day > t.last)))
 (.fin 0)
 (.fin 2)))
def Xy (v:jT) (on:Int) (t:gF):Int:=(zg v on t).val
theorem YC (v:jT) (on:Int) (t:gF):(zg v on t).obs (fun _=>True):=by
 unfold zg
 exact okE
def zm (v:jT) (on:Int) (t:gF):Ctr (Int):=kk tok mixed Tryz.func219 [av v.cells,iv on,av t.cells] (fun x=>iv x) true (zg v on t) (Xy v on t) (fun (_:True)=>YC v on t)
def qS (v:jT):Sk (Int) :=
 .r 1 ((qE v 1 0).c) fun x1 =>
 .br (decide (x1 > v.due))
 (.fin (-1))
 (.fin x1)
def Wq (v:jT):Int:=(qS v).val
theorem UU (v:jT):(qS v).obs (fun _=>True):=by
 unfold qS
 try simp only [qE]
 exact okE
def zl (v:jT):Ctr (Int):=kk tok mixed Tryz.func196 [av v.cells] (fun x=>iv x) true (qS v) (Wq v) (fun (_:True)=>UU v)
def Jk (l:List Int):Sk (Int) :=
 .r 1 ((jr l 0).c) fun x1 =>
 .br x1
 (.fin 0)
 (.r 3 ((jr l 2).c) fun x2 =>
 .br x2
 (.fin 2)
 (.fin 1))
def zhZ (l:List Int):Int:=(Jk l).val
theorem zbL (l:List Int):(Jk l).obs (fun _=>True):=by
 unfold Jk
 try simp only [jr]
 exact okE
def yx (l:List Int):Ctr (Int):=kk tok mixed Tryz.func192 [lv jC l] (fun x=>iv x) true (Jk l) (zhZ l) (fun (_:True)=>zbL l)
def zp (v:jT) (question:Int):Sk (Said) :=
 .r 1 ((qN v.r v.forum question ({ file:=v.f,sign:=v.sign,holder:=v.sign,defence:=(-1),due:=v.due,day:=v.day }:ke)).c) fun x1 =>
 .fin x1
def HT (v:jT) (question:Int):Said:=(zp v question).val
theorem Wb (v:jT) (question:Int) (h_v_f_Small:v.f.Small) (h_v_r_ByOK:v.r.ByOK) (h_v_r_Small:v.r.Small):(zp v question).obs (fun _=>True):=by
 unfold zp
 try simp only [qN]
 exact okD
def jW (v:jT) (question:Int):Ctr (Said):=kk tok mixed Tryz.func189 [av v.cells,iv question] (fun x=>av x.cells) false (zp v question) (HT v question) (fun (h:(v.f.Small)∧(v.r.ByOK)∧(v.r.Small))=>Wb v question h.1 h.2.1 h.2.2)
def gR (c_:zk) (day:Int) (n:Int):Sk (Int × Int) :=
 .r 1 ((qY day).c) fun x1 =>
 .br (((!x1)||(decide (n < 0)))||(decide (n > 20000)))
 (.fin (0,3))
 (.bind true (fun _=>True)
 (.loop (default:Sum (Int × Int) (Int)) (fun i3=>0≤i3.2∧i3.2≤n∧0≤i3.1∧i3.1≤100000) (fun i3=>(n - i3.2).toNat) ((day,0):Int × Int)
 (fun (i3:Int × Int)=>⟨[(1,iv i3.1),(22,iv i3.2)],[]⟩) fun i3 =>
 .br (decide (i3.2 < n))
 (.r 5 ((yy c_ (w64 (i3.1+1))).c) fun x4 =>
 .br (x4.2 != 0)
 (.fin (.inl (.inl (0,x4.2))))
 (.fin (.inr (x4.1,w64 (i3.2+1)))))
 (.fin (.inl (.inr i3.1))))
 (fun (b2:Int)=>⟨[(1,iv b2)],[]⟩) fun b2 =>
 .fin (b2,0))
def zh5 (c_:zk) (day:Int) (n:Int):Int × Int:=(gR c_ day n).val
theorem zbY (c_:zk) (day:Int) (n:Int):(gR c_ day n).obs (fun _=>True):=by
 unfold gR
 try simp only [yy,qY,Qf]
 exact okG
def Xg (c_:zk) (day:Int) (n:Int):Ctr (Int × Int):=kk tok mixed Tryz.func242 [av c_.cells,iv day,iv n] (fun x=>.tup [iv x.1,iv x.2]) true (gR c_ day n) (zh5 c_ day n) (fun (_:True)=>zbY c_ day n)
def zG (v:jT) (said:Said) (from_:Int):Sk (gF) :=
 .br (said.err != 0)
 (.fin ({ known:=true,last:=9223372036854775807 }:gF))
 (.br (!said.cell.known)
 (.fin ({ known:=false,last:=0 }:gF))
 (.r 5 (.andl (.p (ixP v.f.bill.pay v.r.cities.length)) ((Xg (v.r.cities.getD v.f.bill.pay.toNat default) from_ said.cell.n).c)) fun x1 =>
 .br (x1.2 != 0)
 (.fin ({ known:=true,last:=9223372036854775807 }:gF))
 (.fin ({ known:=true,last:=x1.1 }:gF))))
def Fx (v:jT) (said:Said) (from_:Int):gF:=(zG v said from_).val
theorem WN (v:jT) (said:Said) (from_:Int) (hp:v.PayOK):(zG v said from_).obs (fun _=>True):=by
 unfold zG
 try simp only [Xg]
 exact okD
def ko (v:jT) (said:Said) (from_:Int):Ctr (gF):=kk tok mixed Tryz.func222 [av v.cells,av said.cells,iv from_] (fun x=>av x.cells) true (zG v said from_) (Fx v said from_) (fun (h:(v.PayOK))=>WN v said from_ h)
def qy (v:jT):Sk (Int) :=
 .br (v.f.bill.tenor.kind == 0)
 (.r 3 (.dep ((qE v 2 0).c) fun x1=>.dep ((yV v).c) fun x2=>(zm v x1 x2).c) fun p4 =>
 .fin p4.2.2)
 (.bind false (fun _=>True)
 (.br (v.f.bill.tenor.kind == 1)
 (.r 6 (.dep ((Zn v.f).c) fun x6=>.dep ((yV v).c) fun x7=>(zm v x6 x7).c) fun p9 =>
 .fin (.inr p9.2.2))
 (.fin (.inr 1)))
 (fun (b5:Int)=>⟨[(4,iv b5)],[]⟩) fun b5 =>
 .r 7 ((zl v).c) fun x10 =>
 .br (x10 != (-1))
 (.fin b5)
 (.br (v.due == (-1))
 (.r 10 (.andl (.o [.nrm (qk kA [b5,2])]) ((yx [b5,2]).c)) fun x11 =>
 .fin x11)
 (.r 11 (.dep ((qE v 2 v.due).c) fun x12=>.dep ((jW v 10).c) fun x13=>.dep ((ko v x13 v.due).c) fun x14=>.dep ((zm v x12 x14).c) fun x15=>.andl (.o [.nrm (qk kA [b5,x15])]) ((yx [b5,x15]).c)) fun p17 =>
 .fin p17.2.2.2.2)))
def YR (v:jT):Int:=(qy v).val
theorem Vw (v:jT) (h_v_f_Small:v.f.Small) (h_v_r_ByOK:v.r.ByOK) (h_v_r_Small:v.r.Small) (h_v_PayOK:v.PayOK):(qy v).obs (fun _=>True):=by
 refine Sk.obs_of _ ?_
 unfold qy
 simp (maxSteps:=2000000) only [Sk.obq,Sk.isLoop,reduceCtorEq,ON,kk,yx,jW,ko,qE,zl,yV,zm,Zn,maxLen]
 all_goals (repeat' first | assumption | (apply And.intro) | (intro h))
 all_goals first | trivial | assumption | omega | ((try simp only [LN] at *) <;> first | omega | (refine (jj ?_ ?_).trans ?_ <;> omega) | (simp (disch:=omega) only [jj] at *; omega) | (grind) | (simp_all; done) | (simp_all; omega))
def gv (v:jT):Ctr (Int):=kk tok mixed Tryz.func187 [av v.cells] (fun x=>iv x) true (qy v) (YR v) (fun (h:(v.f.Small)∧(v.r.ByOK)∧(v.r.Small)∧(v.PayOK))=>Vw v h.1 h.2.1 h.2.2.1 h.2.2.2)
def qx (v:jT):Sk (Int) :=
 .r 1 ((zl v).c) fun x1 =>
 .br (x1 != (-1))
 (.fin x1)
 (.fin v.due)
def Ga (v:jT):Int:=(qx v).val
theorem VO (v:jT):(qx v).obs (fun _=>True):=by
 unfold qx
 try simp only [zl]
 exact okE
def ky (v:jT):Ctr (Int):=kk tok mixed Tryz.func160 [av v.cells] (fun x=>iv x) true (qx v) (Ga v) (fun (_:True)=>VO v)
def qw (v:jT):Sk (Int) :=
 .r 1 ((ky v).c) fun x1 =>
 .r 2 (.dep ((jW v 10).c) fun x2=>(ko v x2 x1).c) fun p11 =>
 .br (!p11.2.known)
 (.fin 2)
 (.bind false (fun _=>True)
 (.br (decide (v.day≤p11.2.last))
 (.fin (.inr 2))
 (.fin (.inr 0)))
 (fun (b4:Int)=>⟨[(5,iv b4)],[]⟩) fun b4 =>
 .bind true (fun _=>True)
 (.loop (default:Sum (Int) (Int)) (fun i6=>i6.2≤v.f.acts.length) (fun i6=>v.f.acts.length - i6.2) ((b4,0):Int × Nat)
 (fun (i6:Int × Nat)=>⟨[(5,iv i6.1),(28,iv (i6.2:Int))],[]⟩) fun i6 =>
 .bnd 26 0 v.f.acts.length <|
 .br (decide ((i6.2:Int) < ((v.f.acts.length:Nat):Int)))
 (.r 10 (.p (ixP (i6.2:Int) v.f.acts.length)) fun _ =>
 .br ((((((v.f.acts.getD i6.2 default).kind) != 4)||(((v.f.acts.getD i6.2 default).to_) != v.f.bill.drawee))||(decide (((v.f.acts.getD i6.2 default).day) < x1)))||(decide (((v.f.acts.getD i6.2 default).day) > p11.2.last)))
 (.r 19 .z fun _ =>
 .wi 28 (w64 ((i6.2:Int)+1)) ((i6.2+1:Nat):Int) <|
 .fin (.inr (i6.1,i6.2+1)))
 (.bind false (fun _=>True)
 (.br (((v.f.acts.getD i6.2 default).form) == 1)
 (.r 14 (.dep ((jW v 9).c) fun x8=>(qK x8).c) fun p10 =>
 .fin (.inr p10.2))
 (.fin (.inr 1)))
 (fun (b7:Int)=>⟨[(8,iv b7)],[]⟩) fun b7 =>
 .br (b7 == 1)
 (.fin (.inl (.inl 1)))
 (.br (b7 == 2)
 (.r 19 .z fun _ =>
 .wi 28 (w64 ((i6.2:Int)+1)) ((i6.2+1:Nat):Int) <|
 .fin (.inr (2,i6.2+1)))
 (.r 19 .z fun _ =>
 .wi 28 (w64 ((i6.2:Int)+1)) ((i6.2+1:Nat):Int) <|
 .fin (.inr (i6.1,i6.2+1))))))
 (.fin (.inl (.inr i6.1))))
 (fun (b5:Int)=>⟨[(5,iv b5)],[]⟩) fun b5 =>
 .fin b5)
def YJ (v:jT):Int:=(qw v).val
theorem VC (v:jT) (h_v_f_Small:v.f.Small) (h_v_r_ByOK:v.r.ByOK) (h_v_r_Small:v.r.Small) (h_v_PayOK:v.PayOK):(qw v).obs (fun _=>True):=by
 unfold qw
 try simp only [qK,jW,ko,ky]
 exact okD
def gA (v:jT):Ctr (Int):=kk tok mixed Tryz.func190 [av v.cells] (fun x=>iv x) true (qw v) (YJ v) (fun (h:(v.f.Small)∧(v.r.ByOK)∧(v.r.Small)∧(v.PayOK))=>VC v h.1 h.2.1 h.2.2.1 h.2.2.2)
def un (said:Said) (answer:Int):Sk (Int) :=
 .r 1 ((qK said).c) fun x1 =>
 .br ((x1 == 0)||(answer == 1))
 (.fin 1)
 (.br (x1 == 2)
 (.fin 2)
 (.fin answer))
def zcz (said:Said) (answer:Int):Int:=(un said answer).val
theorem FA (said:Said) (answer:Int):(un said answer).obs (fun _=>True):=by
 unfold un
 try simp only [qK]
 exact okE
def Kk (said:Said) (answer:Int):Ctr (Int):=kk tok mixed Tryz.func188 [av said.cells,iv answer] (fun x=>iv x) true (un said answer) (zcz said answer) (fun (_:True)=>FA said answer)
def qG (v:jT):Sk (Int) :=
 .r 1 ((ky v).c) fun x1 =>
 .r 2 ((jW v 12).c) fun x2 =>
 .r 3 ((ko v x2 x1).c) fun x3 =>
 .br (!x3.known)
 (.fin 2)
 (.bind true (fun _=>True)
 (.loop (default:Sum (Int) (Int)) (fun i5=>i5.2.2≤v.f.acts.length∧i5.2.1.length≤i5.2.2) (fun i5=>v.f.acts.length - i5.2.2) ((x3.last,[],0):Int × (List jI) × Nat)
 (fun (i5:Int × (List jI) × Nat)=>⟨[(6,iv i5.1),(7,ow 100005 i5.2.1),(30,iv (i5.2.2:Int))],[(100005,jz 108 9 jI.cells i5.2.1)]⟩) fun i5 =>
 .bnd 28 0 v.f.acts.length <|
 .br (decide ((i5.2.2:Int) < ((v.f.acts.length:Nat):Int)))
 (.bind true (fun b6=>b6.2.1.length≤i5.2.1.length+1)
 (.r 10 (.p (ixP (i5.2.2:Int) v.f.acts.length)) fun _ =>
 .br (((v.f.acts.getD i5.2.2 default).kind) != 5)
 (.fin (.inr (i5.1,i5.2.1,v.f.acts.getD i5.2.2 default,(v.f.acts.getD i5.2.2 default).kind,((v.f.acts.getD i5.2.2 default).kind) != 5)))
 (.bind true (fun _=>True)
 (.loop (default:Sum (Sum (Sum (Sum (Int) (Int)) (Int × (List jI) × Nat)) (Int × (List jI) × jI × Int × Bool)) (Bool × Int × Bool)) (fun i8=>i8.2≤i5.2.1.length) (fun i8=>i5.2.1.length - i8.2) (((decide (((v.f.acts.getD i5.2.2 default).day)≥x1))&&(decide (((v.f.acts.getD i5.2.2 default).day)≤x3.last)),0):Bool × Nat)
 (fun (i8:Bool × Nat)=>⟨[(10,bv i8.1),(50,iv (i8.2:Int))],[]⟩) fun i8 =>
 .bnd 7 0 i5.2.1.length <|
 .br (decide ((i8.2:Int) < ((i5.2.1.length:Nat):Int)))
 (.r 15 (.andl (.p (ixP (i8.2:Int) i5.2.1.length)) (.p (i8.2 < i5.2.1.length))) fun _ =>
 .r 16 (.wh i8.1 false (.wh (((i5.2.1.getD i8.2 default).to_) == ((v.f.acts.getD i5.2.2 default).who)) true ((ko v x2 ((i5.2.1.getD i8.2 default).day)).c))) fun x9 =>
 .r 17 .z fun _ =>
 .wi 50 (w64 ((i8.2:Int)+1)) ((i8.2+1:Nat):Int) <|
 .fin (.inr (i8.1||((((i5.2.1.getD i8.2 default).to_) == ((v.f.acts.getD i5.2.2 default).who))&&(decide (((v.f.acts.getD i5.2.2 default).day)≤x9.last))),i8.2+1)))
 (.fin (.inl (.inr (i8.1,(i8.2:Int),decide ((i8.2:Int) < ((i5.2.1.length:Nat):Int)))))))
 (fun (b7:Bool × Int × Bool)=>⟨[(10,bv b7.1),(50,iv b7.2.1),(51,bv b7.2.2)],[]⟩) fun b7 =>
 .br (!b7.1)
 (.fin (.inr (i5.1,i5.2.1,v.f.acts.getD i5.2.2 default,(v.f.acts.getD i5.2.2 default).kind,((v.f.acts.getD i5.2.2 default).kind) != 5)))
 (.r 19 (.p (ixP v.sign v.f.signs.length)) fun _ =>
 .br (((v.f.acts.getD i5.2.2 default).to_) == ((v.f.signs.getD v.sign.toNat default).who))
 (.fin (.inl (.inl (.inl 1))))
 (.r 21 (.andl (.o [.nrm (qk jI.E [v.f.acts.getD i5.2.2 default])]) (.andl (.o [.nrm (gy jI.E i5.2.1 [v.f.acts.getD i5.2.2 default])]) (.andl (.t (jI.E.ones [v.f.acts.getD i5.2.2 default])) (.p (szP i5.2.1.length [v.f.acts.getD i5.2.2 default].length 72))))) fun _ =>
 .r 22 ((ko v x2 ((v.f.acts.getD i5.2.2 default).day)).c) fun x10 =>
 .fin (.inr (ki i5.1 x10.last,i5.2.1++[v.f.acts.getD i5.2.2 default],v.f.acts.getD i5.2.2 default,(v.f.acts.getD i5.2.2 default).kind,((v.f.acts.getD i5.2.2 default).kind) != 5))))))
 (fun (b6:Int × (List jI) × jI × Int × Bool)=>⟨[(6,iv b6.1),(7,ow 100007 b6.2.1),(33,av b6.2.2.1.cells),(35,iv b6.2.2.2.1),(36,bv b6.2.2.2.2)],[(100007,jz 108 9 jI.cells b6.2.1)]⟩) fun b6 =>
 .r 23 .z fun _ =>
 .wi 30 (w64 ((i5.2.2:Int)+1)) ((i5.2.2+1:Nat):Int) <|
 .fin (.inr (b6.1,b6.2.1,i5.2.2+1)))
 (.fin (.inl (.inr i5.1))))
 (fun (b4:Int)=>⟨[(6,iv b4)],[]⟩) fun b4 =>
 .br (decide (v.day > b4))
 (.fin 0)
 (.fin 2))
def GD (v:jT):Int:=(qG v).val
theorem UB (v:jT) (hs:0≤v.sign∧v.sign < (v.f.signs.length:Int)) (h_v_f_Small:v.f.Small) (h_v_r_ByOK:v.r.ByOK) (h_v_r_Small:v.r.Small) (h_v_PayOK:v.PayOK):(qG v).obs (fun _=>True):=by
 refine Sk.obs_of _ ?_
 unfold qG
 simp only [Sk.obq,Sk.isLoop,reduceCtorEq,ON,kk,jW,ko,ky,maxLen]
 have hS1:=h_v_f_Small.2.2.1
 all_goals exact okT
def Jz (v:jT):Ctr (Int):=kk tok mixed Tryz.func191 [av v.cells] (fun x=>iv x) true (qG v) (GD v) (fun (h:(0≤v.sign∧v.sign < (v.f.signs.length:Int))∧(v.f.Small)∧(v.r.ByOK)∧(v.r.Small)∧(v.PayOK))=>UB v h.1 h.2.1 h.2.2.1 h.2.2.2.1 h.2.2.2.2)
def gd (r:jg) (forum:Int) (f:jh) (sign:Int) (day:Int):Sk (Kept) :=
 .r 1 ((gU r forum f sign day).c) fun x1 =>
 .br ((decide (sign < 0))||(decide (sign≥((x1.f.signs.length:Nat):Int))))
 (.fin ({ shown:=0,protest:=0,notice:=0,all:=0 }:Kept))
 (.r 5 ((gv x1).c) fun x2 =>
 .bind false (fun _=>True)
 (.br (x1.due != (-1))
 (.r 7 (.dep ((jW x1 8).c) fun x4=>.dep ((gA x1).c) fun x5=>(Kk x4 x5).c) fun p11 =>
 .r 8 (.dep ((jW x1 11).c) fun x7=>.dep ((Jz x1).c) fun x8=>(Kk x7 x8).c) fun p10 =>
 .fin (.inr ({ shown:=x2,protest:=p11.2.2,notice:=p10.2.2,all:=0 }:Kept)))
 (.fin (.inr ({ shown:=x2,protest:=2,notice:=2,all:=0 }:Kept))))
 (fun (b3:Kept)=>⟨[],[(12,.box (b3.cells.map .d))]⟩) fun b3 =>
 .r 9 (.andl (.o [.nrm (qk kA [b3.shown,b3.protest,b3.notice])]) ((yx [b3.shown,b3.protest,b3.notice]).c)) fun x12 =>
 .fin ({ b3 with all:=x12 }))
def Hl (r:jg) (forum:Int) (f:jh) (sign:Int) (day:Int):Kept:=(gd r forum f sign day).val
theorem zaS (r:jg) (forum:Int) (f:jh) (sign:Int) (day:Int) (hF:jX r f) (h_f_Small:f.Small) (h_r_ByOK:r.ByOK) (h_r_Small:r.Small):(gd r forum f sign day).obs (fun _=>True):=by
 refine Sk.obs_of _ ?_
 unfold gd
 simp only [Sk.obq,Sk.isLoop,reduceCtorEq,ON,kk,yx,gU,Kk,jW,Jz,gv,gA,maxLen]
 refine ⟨⟨h_f_Small,h_r_ByOK,h_r_Small⟩,fun x _ hx hc=>?_⟩
 have hS:x.f.Small:=by rw [hx.2.1]; exact XR h_f_Small day
 have hB:x.r.ByOK:=by rw [hx.1]; exact h_r_ByOK
 have hR:x.r.Small:=by rw [hx.1]; exact h_r_Small
 have hp:x.PayOK:=by unfold jT.PayOK; rw [hx.1,hx.2.1,zlX]; exact hF.1.2.1
 have hs:0≤x.sign∧x.sign < (x.f.signs.length:Int):=by rw [hx.2.2]; simp only [LN] at hc; omega
 all_goals exact okT
def QW (r:jg) (forum:Int) (f:jh) (sign:Int) (day:Int):Ctr (Kept):=kk tok mixed Tryz.func154 [av r.cells,iv forum,av f.cells,iv sign,iv day] (fun x=>av x.cells) true (gd r forum f sign day) (Hl r forum f sign day) (fun (h:(jX r f)∧(f.Small)∧(r.ByOK)∧(r.Small))=>zaS r forum f sign day h.1 h.2.1 h.2.2.1 h.2.2.2)
theorem zau {d:Array Int} {n:Nat} (hs:∀ i j,i≤j→j < n→d[i]!≤d[j]!):∀ m,m≤n→(Lib.compactUpTo d m).Pairwise (· < ·)∧∀ x,x∈Lib.compactUpTo d m↔∃ j,j < m∧d[j]! = x
 | 0,_=>by simp [Lib.compactUpTo]
 | m+1,hm=>by
  obtain ⟨h1,h2⟩:=zau hs m (by omega)
  rw [Lib.compactUpTo_succ]
  by_cases hk:Lib.keeps d m=true
  ·rw [if_pos hk]
   refine ⟨List.pairwise_append.2 ⟨h1,by simp,fun a ha b hb=>?_⟩,fun x=>?_⟩
   ·simp only [List.mem_singleton] at hb
    subst hb
    obtain ⟨j,hj,rfl⟩:=(h2 a).1 ha
    have h3:=hs j (m - 1) (by omega) (by omega)
    have h4:=hs (m - 1) m (by omega) (by omega)
    simp only [Lib.keeps,decide_eq_true_eq] at hk
    rcases hk with hk | hk
    ·omega
    ·omega
   ·rw [List.mem_append,h2,List.mem_singleton]
    constructor
    ·rintro (⟨j,hj,rfl⟩ | rfl)
     ·exact ⟨j,by omega,rfl⟩
     ·exact ⟨m,by omega,rfl⟩
    ·rintro ⟨j,hj,rfl⟩
     by_cases e:j=m
     ·subst e; exact .inr rfl
     ·exact .inl ⟨j,by omega,rfl⟩
  ·rw [if_neg hk,List.append_nil]
   refine ⟨h1,fun x=>(h2 x).trans ?_⟩
   constructor
   ·rintro ⟨j,hj,rfl⟩
    exact ⟨j,by omega,rfl⟩
   ·rintro ⟨j,hj,rfl⟩
    by_cases e:j=m
    ·subst e
     simp only [Lib.keeps,decide_eq_true_eq,not_or] at hk
     have:¬ d[j]!≠d[j - 1]!:=hk.2
     exact ⟨j - 1,by omega,by omega⟩
    ·exact ⟨j,by omega,rfl⟩
theorem zdb {β Y:Type} {γ:Type} (sg:γ→List β) (se:Y→β) {δ:Type} (sd:δ→List β) {f:γ→Y→δ ⊕ γ}:∀ (l:List Y) (s:γ),(∀ s y,match f s y with | .inl e=>sd e=sg s | .inr s'=>sg s'=sg s++[se y]) →
  ∃ k,(match Qn f l s with | .inl e=>sd e | .inr s'=>sg s')=sg s++(l.take k).map se
 | [],s,_=>⟨0,by simp [Qn]⟩
 | y :: r,s,h=>by
  have h1:=h s y
  simp only [Qn]
  cases e:f s y with
  | inl b=>rw [e] at h1; exact ⟨0,by simpa using h1⟩
  | inr s' =>
   rw [e] at h1
   obtain ⟨k,hk⟩:=zdb sg se sd r s' h
   refine ⟨k+1,?_⟩
   rw [hk,h1]
   simp
theorem zno (f:jh) (part day:Int):∃ k,(ZQ f part day).signs=((jO f day part).take k).map (·.1):=by
 unfold ZQ zW
 dsimp +instances only [Sk.val_bind,Sk.val_loop,Sk.val_bnd,Sk.val_br,Sk.val_r,Sk.val_wi,Sk.val_fin,Sk.val_rf,Ctr.c_v,kk,Cal.andl_v,uq,vN,zi,QZ]
 obtain ⟨k,hk⟩:=zdb (fun s:List Int × Int × Bool × Int × List Int=>s.1) (fun y:Int × qt=>y.1) (fun e:List Int × Int × Int × Bool × Int × List Int=>e.1)
  (f:=fun s y=>bif (!s.2.2.1)&&(y.2.who != s.2.1) then .inl (s.1,s.2.1,y.1,s.2.2.1,s.2.2.2.1,s.2.2.2.2) else bif (vI f day).2&&decide (y.2.day > (vI f day).1) then .inr (s.1++[y.1],y.2.to_,y.2.to_ == (-1),HU s.2.2.2.1 y.2.flags,s.2.2.2.2++[y.1]) else .inr (s.1++[y.1],y.2.to_,y.2.to_ == (-1),HU s.2.2.2.1 y.2.flags,s.2.2.2.2))
  (jO f day part) ([],f.bill.payee,f.bill.payee == (-1),0,[]) (fun s y=>by
   cases (!s.2.2.1)&&(y.2.who != s.2.1)
   ·cases (vI f day).2&&decide (y.2.day > (vI f day).1) <;> rfl
   ·rfl)
 refine ⟨k,?_⟩
 rw [List.nil_append] at hk
 rw [← hk]
 generalize hr:Qn _ _ _=r
 cases r <;> rfl
theorem zps {v:kS} {part y:Int} (h:y∈jp v part):0≤y∧y < v.all.signs.length∧(v.all.signs.getD y.toNat default).kind=2∧(v.all.signs.getD y.toNat default).part=part∧(v.all.signs.getD y.toNat default).day≤v.day∧km (qH v.all v.day) y false=false:=by
 have e:jp v part=(ZQ v.all part v.day).signs:=rfl
 obtain ⟨k,hk⟩:=zno v.all part v.day
 rw [e,hk] at h
 obtain ⟨z,hz,rfl⟩:=List.mem_map.1 h
 obtain ⟨i,hi⟩:=List.getElem?_of_mem ((List.take_sublist _ _).subset hz)
 have:=zfx hi
 rw [← this.2.2.2.1]
 exact ⟨this.2.1,this.2.2.1,this.2.2.2.2⟩
theorem zde (c:qc) (last:Int):∀ (links:List Int) (o z:yu),z∈Je c last links o→(z.sign=o.sign∧z.firm=o.firm∨z.sign∈links∧z.firm=(c.view.now.signs.getD z.sign.toNat default).to_)∧(z.state=2∨z.state=o.state)
 | [],o,z,h=>by
  simp only [Je,List.mem_singleton] at h
  subst h
  exact ⟨.inl ⟨rfl,rfl⟩,.inr rfl⟩
 | l :: r,o,z,h=>by
  simp only [Je] at h
  cases h0:kr c l last == 0 with
  | true =>
   rw [h0,cond_true,List.mem_singleton] at h
   subst h
   exact ⟨.inl ⟨rfl,rfl⟩,.inr rfl⟩
  | false =>
   rw [h0,cond_false] at h
   have ih:∀ o',o'.sign=l→o'.firm=(c.view.now.signs.getD l.toNat default).to_→(o'.state=2∨o'.state=o.state)→z∈Je c last r o'→(z.sign=o.sign∧z.firm=o.firm∨z.sign∈l :: r∧z.firm=(c.view.now.signs.getD z.sign.toNat default).to_)∧(z.state=2∨z.state=o.state):=by
    intro o' e1 e2 e3 hz
    obtain ⟨h1,h2⟩:=zde c last r o' z hz
    refine ⟨.inr ?_,?_⟩
    ·rcases h1 with ⟨h1,h3⟩ | ⟨h1,h3⟩
     ·rw [h1,e1]; exact ⟨by simp,by rw [h3,e2]⟩
     ·exact ⟨by simp [h1],h3⟩
    ·rcases h2 with h2 | h2
     ·exact .inl h2
     ·rw [h2]; exact e3
   cases h2:kr c l last == 2 with
   | true =>
    rw [h2,cond_true] at h
    rcases List.mem_cons.1 h with rfl | h
    ·exact ⟨.inl ⟨rfl,rfl⟩,.inl rfl⟩
    ·exact ih _ rfl rfl (.inl rfl) h
   | false =>
    rw [h2,cond_false] at h
    exact ih { o with firm:=(c.view.now.signs.getD l.toNat default).to_,sign:=l } rfl rfl (.inr rfl) h
theorem znt {c:qc} {links:List Int} {z:yu} (h:z∈jJ c links):(z.sign = -1∧z.firm=c.view.now.bill.payee∨z.sign∈links∧z.firm=(c.view.now.signs.getD z.sign.toNat default).to_)∧(z.state=1∨z.state=2):=by
 have:=zde c _ links _ z h
 exact ⟨this.1,this.2.symm⟩
theorem HB (c:qc) (last:Int):∀ (links:List Int) (o:yu),(Je c last links o).length≤links.length+1
 | [],o=>by simp [Je]
 | l :: r,o=>by
  simp only [Je]
  cases kr c l last == 0 with
  | true=>simp
  | false =>
   rw [cond_false]
   cases kr c l last == 2 with
   | true=>rw [cond_true,List.length_cons,List.length_cons]; have:=HB c last r { firm:=(c.view.now.signs.getD l.toNat default).to_,sign:=l,state:=2 }; omega
   | false=>rw [cond_false,List.length_cons]; have:=HB c last r { o with firm:=(c.view.now.signs.getD l.toNat default).to_,sign:=l }; omega
theorem Bt (c:qc) (links:List Int):(jJ c links).length≤links.length+1:=HB c _ links _
def zo6 (v:kS) (by_:Int) (links l:List Int) (i:Nat):Bool :=
 bif ((v.now.signs.getD i default).kind == 0)||((v.now.signs.getD i default).kind == 1) then true else
 bif (v.now.signs.getD i default).kind == 2 then ((decide (((i:Nat):Int)≤by_))&&((qg .i64 ((v.now.signs.getD i default).flags) 2) == 0))&&slices_Contains links ((i:Nat):Int)
 else slices_Contains l ((v.now.signs.getD i default).for_)
def BG (v:kS) (part by_:Int) (links:List Int) (i:Nat) (l:List Int):List Int :=
 bif ub v ((i:Nat):Int) != part then l else bif zo6 v by_ links l i then l++[((i:Nat):Int)] else l
def GN (v:kS) (part by_:Int) (links:List Int):Nat→List Int
 | 0=>[]
 | n+1=>BG v part by_ links n (GN v part by_ links n)
theorem zkJ {α ι δ:Type} (n:Nat) (h:Nat→α) (pack:α→Nat→ι) {f:ι→δ ⊕ ι} {d:δ} (e:α→δ) (hs:∀ i,i < n→f (pack (h i) i)=.inr (pack (h (i+1)) (i+1))) (he:f (pack (h n) n)=.inl (e (h n))) {m:Nat} (hm:n < m):iter f d m (pack (h 0) 0)=e (h n):=by
 have key:∀ k,k≤n→∀ m,k < m→iter f d m (pack (h (n - k)) (n - k))=e (h n):=by
  intro k
  induction k with
  | zero =>
   intro _ m hm
   obtain ⟨m,rfl⟩:∃ q,m=q+1:=⟨m - 1,by omega⟩
   simp only [iter,Nat.sub_zero,he]
  | succ k ih =>
   intro hk m hm
   obtain ⟨m,rfl⟩:∃ q,m=q+1:=⟨m - 1,by omega⟩
   simp only [iter,hs (n - (k+1)) (by omega)]
   rw [show n - (k+1)+1=n - k by omega]
   exact ih (by omega) m (by omega)
 have:=key n (Nat.le_refl _) m hm
 rwa [Nat.sub_self] at this
theorem zpx (v:kS) (part by_:Int) (links:List Int):jR v part by_ links=bif (by_ != (-1))&&(!(slices_Contains links by_)) then [] else GN v part by_ links v.now.signs.length:=by
 unfold jR qp
 dsimp +instances only [Sk.val_bind,Sk.val_loop,Sk.val_bnd,Sk.val_br,Sk.val_r,Sk.val_wi,Sk.val_fin,Ctr.c_v,kk,Cal.andl_v,Cal.wh_v,jr,Kf]
 cases (by_ != (-1))&&(!(slices_Contains links by_)) with
 | true=>rfl
 | false =>
  refine congrArg (fun q=>Kv q fun b=>b) (zkJ v.now.signs.length (GN v part by_ links) (fun s i=>(s,i)) (fun s=>Sum.inr s) (fun i hi=>?_) ?_ (by omega))
  ·dsimp only
   rw [decide_eq_true (by omega),cond_true]
   show _=Sum.inr (BG v part by_ links i (GN v part by_ links i),i+1)
   unfold BG
   cases ub v ((i:Nat):Int) != part with
   | true=>rfl
   | false =>
    unfold zo6
    rw [cond_false,cond_false]
    cases (v.now.signs.getD i default).kind == 0 with
    | true=>rfl
    | false =>
     cases (v.now.signs.getD i default).kind == 1 with
     | true=>rfl
     | false =>
      cases (v.now.signs.getD i default).kind == 2 with
      | true=>cases ((decide (((i:Nat):Int)≤by_))&&((qg .i64 ((v.now.signs.getD i default).flags) 2) == 0))&&slices_Contains links ((i:Nat):Int) <;> rfl
      | false=>cases slices_Contains (GN v part by_ links i) ((v.now.signs.getD i default).for_) <;> rfl
  ·dsimp only
   rw [decide_eq_false (by omega),cond_false]
theorem zj1 (l:List Int) (x:Int):slices_Contains l x=true↔x∈l:=by
 refine Iff.trans (Zz l x) ?_
 constructor
 ·rintro ⟨q,hq,e⟩
  rw [← (beq_iff_eq.1 e:l.getD q default=x)]
  exact Qg hq _
 ·intro h
  obtain ⟨i,hi,rfl⟩:=List.getElem_of_mem h
  exact ⟨i,hi,by simp [List.getD,hi]⟩
theorem zmV {v:kS} {part by_:Int} {links:List Int}:∀ {n:Nat} {y:Int},y∈GN v part by_ links n→0≤y∧y < n∧ub v y=part∧zo6 v by_ links (GN v part by_ links y.toNat) y.toNat=true∧∀ z,z∈GN v part by_ links y.toNat→z∈GN v part by_ links n
 | 0,y,h=>by cases h
 | n+1,y,h=>by
  have up:∀ z,z∈GN v part by_ links n→z∈GN v part by_ links (n+1):=fun z hz=>by
   show z∈BG v part by_ links n (GN v part by_ links n)
   unfold BG
   cases ub v ((n:Nat):Int) != part with
   | true=>exact hz
   | false =>
    cases zo6 v by_ links (GN v part by_ links n) n with
    | true=>exact List.mem_append_left _ hz
    | false=>exact hz
  have old:y∈GN v part by_ links n→0≤y∧y < ((n+1:Nat):Int)∧ub v y=part∧zo6 v by_ links (GN v part by_ links y.toNat) y.toNat=true∧∀ z,z∈GN v part by_ links y.toNat→z∈GN v part by_ links (n+1):=fun hy=>by
   have:=zmV hy
   exact ⟨this.1,by omega,this.2.2.1,this.2.2.2.1,fun z hz=>up z (this.2.2.2.2 z hz)⟩
  change y∈BG v part by_ links n (GN v part by_ links n) at h
  unfold BG at h
  cases hp:ub v ((n:Nat):Int) != part with
  | true=>rw [hp,cond_true] at h; exact old h
  | false =>
   rw [hp,cond_false] at h
   cases hi:zo6 v by_ links (GN v part by_ links n) n with
   | false=>rw [hi,cond_false] at h; exact old h
   | true =>
    rw [hi,cond_true,List.mem_append,List.mem_singleton] at h
    rcases h with h | rfl
    ·exact old h
    ·exact ⟨by omega,by omega,by simpa using hp,by simpa using hi,fun z hz=>up z (by simpa using hz)⟩
theorem znh {v:kS} {part by_:Int} {links:List Int} {y:Int} (h:y∈jR v part by_ links):(by_ = -1∨by_∈links)∧y∈GN v part by_ links v.now.signs.length:=by
 rw [zpx] at h
 cases hc:(by_ != (-1))&&(!(slices_Contains links by_)) with
 | true=>rw [hc] at h; cases h
 | false =>
  rw [hc,cond_false] at h
  refine ⟨?_,h⟩
  by_cases e:by_ = -1
  ·exact .inl e
  ·refine .inr ((zj1 links by_).1 ?_)
   have:(by_ != (-1))=true:=by simpa using e
   rw [this,Bool.true_and,Bool.not_eq_eq_eq_not,Bool.not_false] at hc
   exact hc
def zay (now:jh) (i:Int):Bool:=now.acts.any fun a=>a.kind == 7&&a.at_ == i
def zhp (now:jh):List Int:=((List.range now.signs.length).filter fun i=>((now.signs.getD i default).kind == 2)&&!(zay now ((i:Nat):Int))).map fun i=>(now.signs.getD i default).part
theorem zff {α:Type} (k k':Int) (v:α):∀ (m:List (Int × α)),gh (gt m k v) k'=if k'=k then some v else gh m k'
 | []=>by
  simp only [gt,gh]
  by_cases e:k'=k
  ·subst e; simp
  ·have:(k' == k)=false:=by simpa using e
   rw [this,if_neg e]; rfl
 | p :: r=>by
  have ih:=zff k k' v r
  simp only [gt]
  cases h:k == p.1 with
  | true =>
   have h:=beq_iff_eq.1 h
   simp only [cond_true,gh]
   by_cases e:k'=k
   ·subst e; rw [← h]; simp
   ·have:(k' == p.1)=false:=by rw [← h]; simpa using e
    rw [this,if_neg e]; rfl
  | false =>
   simp only [cond_false,gh,ih]
   by_cases e:k'=k
   ·subst e; rw [h]; simp
   ·rw [if_neg e,if_neg e]
theorem zo0 (acts:List jI) (p:jI→Bool) (k:Int) (m:List (Int × Bool)):km (acts.foldl (fun m a=>bif p a then gt m a.at_ true else m) m) k false=(acts.any (fun a=>p a&&a.at_ == k)||km m k false):=by
 induction acts generalizing m with
 | nil=>rfl
 | cons a r ih =>
  rw [List.foldl_cons,ih,List.any_cons]
  cases hp:p a with
  | false=>simp
  | true =>
   simp only [cond_true,Bool.true_and]
   unfold km
   rw [zff]
   by_cases e:k=a.at_
   ·subst e; simp
   ·have:(a.at_ == k)=false:=by simpa using fun h:a.at_=k=>e h.symm
    rw [if_neg e,this,Bool.false_or]
theorem zk6 (f:jh) (day:Int):jY f day=⟨f,ji f day,day,bif (((Lib.compact (UI (zhp (ji f day)))).length:Nat):Int) == 0 then [0] else Lib.compact (UI (zhp (ji f day)))⟩:=by
 unfold jY gw
 dsimp +instances only [Sk.val_bind,Sk.val_loop,Sk.val_bnd,Sk.val_br,Sk.val_r,Sk.val_wi,Sk.val_wn,Sk.val_fin,Ctr.c_v,kk,Cal.andl_v,Cal.wh_v,zey.c_v,WY.c_v,ju,Zh,Jm]
 generalize ji f day=now
 rw [Qz now.acts (fun s i=>(i,s)) (fun x (s:List (Int × Bool))=>Sum.inr (bif x.kind == 7 then gt s x.at_ true else s)) (fun s=>Sum.inr s) (fun s i hi=>?_) (fun s=>?_) (by omega) []]
 ·rw [GM (fun (x:jI) s=>bif x.kind == 7 then gt s x.at_ true else s)]
  simp only [VQ]
  have hg:∀ k,km (now.acts.foldl (fun m a=>bif a.kind == 7 then gt m a.at_ true else m) []) k false=zay now k:=fun k=>by
   rw [zo0 now.acts (fun a=>a.kind == 7) k []]
   show (_||false)=_
   rw [Bool.or_false]; rfl
  generalize now.acts.foldl (fun m a=>bif a.kind == 7 then gt m a.at_ true else m) []=m at hg
  refine Eq.trans (congrArg (fun q=>Kv q _) (zkJ now.signs.length (fun n=>((List.range n).filter fun i=>((now.signs.getD i default).kind == 2)&&!(zay now ((i:Nat):Int))).map fun i=>(now.signs.getD i default).part) (fun s i=>(i,s)) (fun s=>Sum.inr s) (fun i hi=>?_) ?_ (by omega))) ?_
  rotate_left
  rotate_left
  ·simp only [VQ]
   show (bif (((Lib.compact (UI (zhp now))).length:Nat):Int) == 0 then kS.mk f now day [0] else kS.mk f now day (Lib.compact (UI (zhp now))))=kS.mk f now day (bif (((Lib.compact (UI (zhp now))).length:Nat):Int) == 0 then [0] else Lib.compact (UI (zhp now)))
   cases (((Lib.compact (UI (zhp now))).length:Nat):Int) == 0 <;> rfl
  ·dsimp only
   rw [decide_eq_true (by omega),cond_true,hg,List.range_succ,List.filter_append,List.map_append]
   cases hc:((now.signs.getD i default).kind == 2)&&!(zay now ((i:Nat):Int)) with
   | true=>rw [List.filter_cons_of_pos (by simpa using hc)]; rfl
   | false=>rw [List.filter_cons_of_neg (by simpa using hc)]; simp
  ·dsimp only
   rw [decide_eq_false (by omega),cond_false]
 ·rw [decide_eq_true (by omega),cond_true]
  cases (now.acts.getD i default).kind == 7 <;> rfl
 ·rw [decide_eq_false (by omega),cond_false]
def zX (c_:qc) (o:yu) (sign:Int) (links:List Int) (effects:List kh):Sk (Int × Int) :=
 .r 1 ((ZZ c_.view sign).c) fun x1 =>
 .r 2 (.andl (.p (ixP sign effects.length)) ((QI o.state ((effects.getD sign.toNat default).binds)).c)) fun x2 =>
 .r 4 (.p (ixP x1 c_.view.now.signs.length)) fun _ =>
 .br (((c_.view.now.signs.getD x1.toNat default).kind) == 1)
 (.br (!((c_.due != (-1))&&(decide (c_.view.day≥c_.due))))
 (.fin (0,0))
 (.fin (x2,0)))
 (.r 8 ((vq c_.view.now.acts).c) fun x3 =>
 .r 9 (.wh ((!((c_.due != (-1))&&(decide (c_.view.day≥c_.due))))&&(!x3)) false (.p (ixP x1 effects.length))) fun _ =>
 .br (((!((c_.due != (-1))&&(decide (c_.view.day≥c_.due))))&&(!x3))||(!((effects.getD x1.toNat default).recourse)))
 (.fin (0,0))
 (.bind true (fun _=>True)
 (.loop (default:Sum (Int × Int) (Int × Int)) (fun i5=>i5.2.2≤links.length) (fun i5=>links.length - i5.2.2) ((0,1,0):Int × Int × Nat)
 (fun (i5:Int × Int × Nat)=>⟨[(16,iv i5.1),(17,iv i5.2.1),(76,iv (i5.2.2:Int))],[]⟩) fun i5 =>
 .bnd 3 0 links.length <|
 .br (decide ((i5.2.2:Int) < ((links.length:Nat):Int)))
 (.r 14 (.p (ixP (i5.2.2:Int) links.length)) fun _ =>
 .bind false (fun _=>True)
 (.br (decide ((links.getD i5.2.2 default)≤o.sign))
 (.fin (.inr (w64 (i5.2.1+1))))
 (.fin (.inr i5.2.1)))
 (fun (b6:Int)=>⟨[(17,iv b6)],[]⟩) fun b6 =>
 .br ((decide ((links.getD i5.2.2 default)≤o.sign))&&(decide ((links.getD i5.2.2 default)≥x1)))
 (.r 19 .z fun _ =>
 .wi 76 (w64 ((i5.2.2:Int)+1)) ((i5.2.2+1:Nat):Int) <|
 .fin (.inr (w64 (i5.1+1),b6,i5.2.2+1)))
 (.r 19 .z fun _ =>
 .wi 76 (w64 ((i5.2.2:Int)+1)) ((i5.2.2+1:Nat):Int) <|
 .fin (.inr (i5.1,b6,i5.2.2+1))))
 (.fin (.inl (.inr (i5.1,i5.2.1)))))
 (fun (b4:Int × Int)=>⟨[(16,iv b4.1),(17,iv b4.2)],[]⟩) fun b4 =>
 .r 20 ((jr links x1).c) fun x7 =>
 .bind false (fun _=>True)
 (.br (!x7)
 (.fin (.inr b4.2))
 (.fin (.inr b4.1)))
 (fun (b8:Int)=>⟨[(16,iv b8)],[]⟩) fun b8 =>
 .r 22 (.dep ((QW c_.r c_.forum c_.view.all x1 c_.view.day).c) fun x9=>(QI x2 x9.all).c) fun p11 =>
 .fin (p11.2,b8)))
def jU (c_:qc) (o:yu) (sign:Int) (links:List Int) (effects:List kh):Int × Int:=(zX c_ o sign links effects).val
theorem BO (c_:qc) (o:yu) (sign:Int) (links:List Int) (effects:List kh) (he:effects.length=c_.view.now.signs.length) (hs:0≤sign∧sign < (c_.view.now.signs.length:Int)) (hc:c_.view.now=ji c_.view.all c_.view.day) (hF:jX c_.r c_.view.all) (h_c__view_BaseOK:c_.view.BaseOK) (h_c__view_all_Small:c_.view.all.Small) (h_c__r_ByOK:c_.r.ByOK) (h_c__r_Small:c_.r.Small):(zX c_ o sign links effects).obs (fun _=>True):=by
 unfold zX
 try simp only [QW,QI,ZZ,vq,jr]
 exact okD
def KU (c_:qc) (o:yu) (sign:Int) (links:List Int) (effects:List kh):Ctr (Int × Int):=kk tok mixed Tryz.func119 [av c_.cells,av o.cells,iv sign,lv jC links,lv kh.cells effects] (fun x=>.tup [iv x.1,iv x.2]) true (zX c_ o sign links effects) (jU c_ o sign links effects) (fun (h:(effects.length=c_.view.now.signs.length)∧(0≤sign∧sign < (c_.view.now.signs.length:Int))∧(c_.view.now=ji c_.view.all c_.view.day)∧(jX c_.r c_.view.all)∧(c_.view.BaseOK)∧(c_.view.all.Small)∧(c_.r.ByOK)∧(c_.r.Small))=>BO c_ o sign links effects h.1 h.2.1 h.2.2.1 h.2.2.2.1 h.2.2.2.2.1 h.2.2.2.2.2.1 h.2.2.2.2.2.2.1 h.2.2.2.2.2.2.2)
structure HR where
 sum:Int
 interest:Int
 costs:Int
 exchange:Int
 paid:Int
 rest:Int
 currency:Int
 deriving Inhabited
def HR.cells (c:HR):List D:=[dI c.sum,dI c.interest,dI c.costs,dI c.exchange,dI c.paid,dI c.rest,dI c.currency]
def HR.E:Enc HR:=⟨HR.cells,7,fun _=>rfl,fun _=>rfl⟩
def uD (r:jg) (forum:Int) (f:jh) (sign:Int) (day:Int):Sk (kh × Bool) :=
 .r 1 ((Kw r forum f day).c) fun x1 =>
 .br ((decide (sign < 0))||(decide (sign≥((x1.f.signs.length:Nat):Int))))
 (.fin (({ sign:=0,kind:=0,firm:=0,binds:=0,text:=0,sum:=0,recourse:=false }:kh),false))
 (.r 4 ((za x1 sign).c) fun x2 =>
 .fin (x2,true))
def zc7 (r:jg) (forum:Int) (f:jh) (sign:Int) (day:Int):kh × Bool:=(uD r forum f sign day).val
theorem zd4 (r:jg) (forum:Int) (f:jh) (sign:Int) (day:Int) (hP:f.SumOK∧f.Small):(uD r forum f sign day).pst (fun (x:kh × Bool)=>0≤x.1.sum∧x.1.sum≤1099511627776):=by
 refine Sk.pst_of _ ?_
 unfold uD
 simp only [Sk.pstq,Sk.isLoop,reduceCtorEq,ON,kk,Kw,za,maxLen]
 intro x _ hx
 refine ⟨fun _=>⟨by decide,by decide⟩,fun hc y _ hy=>hy ⟨by rw [hx.1]; exact zop hP.1 day,by rw [hx.1]; exact XR hP.2 day,?_⟩⟩
 simp only [LN] at hc
 omega
theorem zbZ (r:jg) (forum:Int) (f:jh) (sign:Int) (day:Int):(fun (x:kh × Bool)=>(f.SumOK∧f.Small)→(0≤x.1.sum∧x.1.sum≤1099511627776)) (zc7 r forum f sign day):=fun hP=>Sk.pval _ (zd4 r forum f sign day hP)
theorem zfw (r:jg) (forum:Int) (f:jh) (sign:Int) (day:Int) (h_f_Small:f.Small) (h_r_ByOK:r.ByOK) (h_r_Small:r.Small):(uD r forum f sign day).obs (fun _=>True):=by
 refine Sk.obs_of _ ?_
 unfold uD
 simp only [Sk.obq,Sk.isLoop,reduceCtorEq,ON,kk,Kw,za,maxLen]
 refine ⟨⟨h_f_Small,h_r_ByOK,h_r_Small⟩,fun x _ hx hc=>?_⟩
 have hS:x.f.Small:=by rw [hx.1]; exact XR h_f_Small day
 have hB:x.r.ByOK:=by rw [hx.2]; exact h_r_ByOK
 have hR:x.r.Small:=by rw [hx.2]; exact h_r_Small
 simp only [LN] at hc
 exact ⟨by omega,hS,hB,hR⟩
def Gb (r:jg) (forum:Int) (f:jh) (sign:Int) (day:Int):Ctr (kh × Bool):=kk tok mixed Tryz.func155 [av r.cells,iv forum,av f.cells,iv sign,iv day] (fun x=>.tup [av x.1.cells,bv x.2]) true (uD r forum f sign day) (zc7 r forum f sign day) (fun (h:(f.Small)∧(r.ByOK)∧(r.Small))=>zfw r forum f sign day h.1 h.2.1 h.2.2) (fun (x:kh × Bool)=>(f.SumOK∧f.Small)→(0≤x.1.sum∧x.1.sum≤1099511627776)) (zbZ r forum f sign day)
def JR (n:Int) (most:Int):Sk (Bool) :=
 .fin ((decide (n≥0))&&(decide (n≤most)))
def zao (n:Int) (most:Int):Bool:=(JR n most).val
theorem Xl (n:Int) (most:Int):zao n most=((decide (n≥0))&&(decide (n≤most))):=rfl
theorem zeB (n:Int) (most:Int):(JR n most).obs (fun _=>True):=by
 unfold JR
 exact okE
def uH (n:Int) (most:Int):Ctr (Bool):=kk tok mixed Tryz.func223 [iv n,iv most] (fun x=>bv x) true (JR n most) (zao n most) (fun (_:True)=>zeB n most)
def T8:List Nat:=[0,1,2,2,3,3,3,3,4,4,4,4,4,4,4,4]++List.replicate 16 5++List.replicate 32 6++List.replicate 64 7++List.replicate 128 8
theorem zsX:∀ k,k < 256→0 < k→1≤T8.getD k 0∧T8.getD k 0≤8∧2 ^ (T8.getD k 0 - 1)≤k∧k < 2 ^ (T8.getD k 0):=by decide +kernel
theorem zrV {x d:Int} {n t:Nat} (hd:d=2 ^ n) (h1:(2:Int) ^ (t - 1)≤x / d) (h2:x / d < 2 ^ t) (ht:1≤t):(2:Int) ^ (n+t - 1)≤x∧x < 2 ^ (n+t):=by
 subst hd
 have hp:(0:Int) < 2 ^ n:=Int.pow_pos (by omega)
 have e:=Int.mul_ediv_add_emod x (2 ^ n)
 have r0:=Int.emod_nonneg x (Int.ne_of_gt hp)
 have r1:=Int.emod_lt_of_pos x hp
 rw [show n+t - 1=n+(t - 1) by omega,Int.pow_add,Int.pow_add]
 constructor
 ·have:=Int.mul_le_mul_of_nonneg_left h1 (Int.le_of_lt hp)
  omega
 ·have:(2:Int) ^ n * (x / 2 ^ n+1)≤2 ^ n * 2 ^ t:=Int.mul_le_mul_of_nonneg_left (by omega) (Int.le_of_lt hp)
  rw [Int.mul_add] at this
  omega
theorem zor (a:Int):qa .u64 a 32=a / 4294967296:=zcG .u64 (b:=32) (by decide)
theorem zrG (a:Int):qa .u64 a 16=a / 65536:=zcG .u64 (b:=16) (by decide)
theorem zsP (a:Int):qa .u64 a 8=a / 256:=zcG .u64 (b:=8) (by decide)
theorem zp8 {x:Int} (h:0 < x) (h2:x < 256):1≤T8.getD x.toNat 0∧T8.getD x.toNat 0≤8∧(2:Int) ^ (T8.getD x.toNat 0 - 1)≤x∧x < 2 ^ (T8.getD x.toNat 0):=by
 obtain ⟨h3,h4,h5,h6⟩:=zsX x.toNat (by omega) (by omega)
 refine ⟨h3,h4,?_,?_⟩
 ·have:((2 ^ (T8.getD x.toNat 0 - 1):Nat):Int)≤(x.toNat:Int):=by exact_mod_cast h5
  rw [Int.natCast_pow] at this
  have e:((2:Nat):Int)=2:=rfl
  rw [e] at this
  omega
 ·have:((x.toNat:Nat):Int) < ((2 ^ (T8.getD x.toNat 0):Nat):Int):=by exact_mod_cast h6
  rw [Int.natCast_pow] at this
  have e:((2:Nat):Int)=2:=rfl
  rw [e] at this
  omega
theorem zqM:∀ k,k < 256→((⟨#[0,1,2,2,3,3,3,3,4,4,4,4,4,4,4,4,5,5,5,5,5,5,5,5,5,5,5,5,5,5,5,5,6,6,6,6,6,6,6,6,6,6,6,6,6,6,6,6,6,6,6,6,6,6,6,6,6,6,6,6,6,6,6,6,7,7,7,7,7,7,7,7,7,7,7,7,7,7,7,7,7,7,7,7,7,7,7,7,7,7,7,7,7,7,7,7,7,7,7,7,7,7,7,7,7,7,7,7,7,7,7,7,7,7,7,7,7,7,7,7,7,7,7,7,7,7,7,7,8,8,8,8,8,8,8,8,8,8,8,8,8,8,8,8,8,8,8,8,8,8,8,8,8,8,8,8,8,8,8,8,8,8,8,8,8,8,8,8,8,8,8,8,8,8,8,8,8,8,8,8,8,8,8,8,8,8,8,8,8,8,8,8,8,8,8,8,8,8,8,8,8,8,8,8,8,8,8,8,8,8,8,8,8,8,8,8,8,8,8,8,8,8,8,8,8,8,8,8,8,8,8,8,8,8,8,8,8,8,8,8,8,8,8,8,8,8,8,8,8,8,8,8,8,8,8,8]⟩:ByteArray).data.toList.getD k 0).toNat=T8.getD k 0:=by decide +kernel
theorem Ys {x d:Int} {n t:Nat} (hd:d=2 ^ n) (h1:(2:Int) ^ (t - 1)≤x / d) (h2:x / d < 2 ^ t) (ht:1≤t) (ht8:t≤8) (hn:n≤56) {r:Int} (hr:r=(n+t:Nat)):1≤r∧r≤64∧2 ^ (r.toNat - 1)≤x∧x < 2 ^ r.toNat:=by
 subst hr
 have:=zrV hd h1 h2 ht
 rw [Int.toNat_natCast]
 exact ⟨by omega,by omega,this.1,this.2⟩
def yH (x_:Int):Sk (Int) :=
 .bind false (fun b1=>(0 < x_→0 < b1.1)∧0≤b1.1∧b1.1 < 4294967296∧((b1.2=0∧b1.1=x_)∨(b1.2=32∧b1.1=x_ / 4294967296)))
 (.br (decide (x_≥4294967296))
 (.r 2 (.p (0≤(32:Int))) fun _ =>
 .fin (.inr (qa .u64 x_ 32,32)))
 (.fin (.inr (x_,0))))
 (fun (b1:Int × Int)=>⟨[(0,.d (.v (.int .u64 b1.1))),(2,iv b1.2)],[]⟩) fun b1 =>
 .bind false (fun b2=>(0 < x_→0 < b2.1)∧0≤b2.1∧b2.1 < 65536∧((b2.2=0∧b2.1=x_)∨(b2.2=16∧b2.1=x_ / 65536)∨(b2.2=32∧b2.1=x_ / 4294967296)∨(b2.2=48∧b2.1=x_ / 281474976710656)))
 (.br (decide (b1.1≥65536))
 (.r 5 (.p (0≤(16:Int))) fun _ =>
 .fin (.inr (qa .u64 b1.1 16,w64 (b1.2+16))))
 (.fin (.inr (b1.1,b1.2))))
 (fun (b2:Int × Int)=>⟨[(0,.d (.v (.int .u64 b2.1))),(2,iv b2.2)],[]⟩) fun b2 =>
 .br (decide (b2.1≥256))
 (.r 8 (.p (0≤(8:Int))) fun _ =>
 .r 10 (.p (0≤(IntKind.u8.wrap (qa .u64 b2.1 8))∧(IntKind.u8.wrap (qa .u64 b2.1 8)) < (((⟨#[0,1,2,2,3,3,3,3,4,4,4,4,4,4,4,4,5,5,5,5,5,5,5,5,5,5,5,5,5,5,5,5,6,6,6,6,6,6,6,6,6,6,6,6,6,6,6,6,6,6,6,6,6,6,6,6,6,6,6,6,6,6,6,6,7,7,7,7,7,7,7,7,7,7,7,7,7,7,7,7,7,7,7,7,7,7,7,7,7,7,7,7,7,7,7,7,7,7,7,7,7,7,7,7,7,7,7,7,7,7,7,7,7,7,7,7,7,7,7,7,7,7,7,7,7,7,7,7,8,8,8,8,8,8,8,8,8,8,8,8,8,8,8,8,8,8,8,8,8,8,8,8,8,8,8,8,8,8,8,8,8,8,8,8,8,8,8,8,8,8,8,8,8,8,8,8,8,8,8,8,8,8,8,8,8,8,8,8,8,8,8,8,8,8,8,8,8,8,8,8,8,8,8,8,8,8,8,8,8,8,8,8,8,8,8,8,8,8,8,8,8,8,8,8,8,8,8,8,8,8,8,8,8,8,8,8,8,8,8,8,8,8,8,8,8,8,8,8,8,8,8,8,8,8,8,8]⟩:ByteArray).size:Nat):Int))) fun _ =>
 .fin (w64 ((w64 (b2.2+8))+(w64 ((((⟨#[0,1,2,2,3,3,3,3,4,4,4,4,4,4,4,4,5,5,5,5,5,5,5,5,5,5,5,5,5,5,5,5,6,6,6,6,6,6,6,6,6,6,6,6,6,6,6,6,6,6,6,6,6,6,6,6,6,6,6,6,6,6,6,6,7,7,7,7,7,7,7,7,7,7,7,7,7,7,7,7,7,7,7,7,7,7,7,7,7,7,7,7,7,7,7,7,7,7,7,7,7,7,7,7,7,7,7,7,7,7,7,7,7,7,7,7,7,7,7,7,7,7,7,7,7,7,7,7,8,8,8,8,8,8,8,8,8,8,8,8,8,8,8,8,8,8,8,8,8,8,8,8,8,8,8,8,8,8,8,8,8,8,8,8,8,8,8,8,8,8,8,8,8,8,8,8,8,8,8,8,8,8,8,8,8,8,8,8,8,8,8,8,8,8,8,8,8,8,8,8,8,8,8,8,8,8,8,8,8,8,8,8,8,8,8,8,8,8,8,8,8,8,8,8,8,8,8,8,8,8,8,8,8,8,8,8,8,8,8,8,8,8,8,8,8,8,8,8,8,8,8,8,8,8,8,8]⟩:ByteArray).data.toList.getD ((IntKind.u8.wrap (qa .u64 b2.1 8)).toNat) 0).toNat:Int))))))
 (.r 10 (.p (0≤(IntKind.u8.wrap (b2.1))∧(IntKind.u8.wrap (b2.1)) < (((⟨#[0,1,2,2,3,3,3,3,4,4,4,4,4,4,4,4,5,5,5,5,5,5,5,5,5,5,5,5,5,5,5,5,6,6,6,6,6,6,6,6,6,6,6,6,6,6,6,6,6,6,6,6,6,6,6,6,6,6,6,6,6,6,6,6,7,7,7,7,7,7,7,7,7,7,7,7,7,7,7,7,7,7,7,7,7,7,7,7,7,7,7,7,7,7,7,7,7,7,7,7,7,7,7,7,7,7,7,7,7,7,7,7,7,7,7,7,7,7,7,7,7,7,7,7,7,7,7,7,8,8,8,8,8,8,8,8,8,8,8,8,8,8,8,8,8,8,8,8,8,8,8,8,8,8,8,8,8,8,8,8,8,8,8,8,8,8,8,8,8,8,8,8,8,8,8,8,8,8,8,8,8,8,8,8,8,8,8,8,8,8,8,8,8,8,8,8,8,8,8,8,8,8,8,8,8,8,8,8,8,8,8,8,8,8,8,8,8,8,8,8,8,8,8,8,8,8,8,8,8,8,8,8,8,8,8,8,8,8,8,8,8,8,8,8,8,8,8,8,8,8,8,8,8,8,8,8]⟩:ByteArray).size:Nat):Int))) fun _ =>
 .fin (w64 (b2.2+(w64 ((((⟨#[0,1,2,2,3,3,3,3,4,4,4,4,4,4,4,4,5,5,5,5,5,5,5,5,5,5,5,5,5,5,5,5,6,6,6,6,6,6,6,6,6,6,6,6,6,6,6,6,6,6,6,6,6,6,6,6,6,6,6,6,6,6,6,6,7,7,7,7,7,7,7,7,7,7,7,7,7,7,7,7,7,7,7,7,7,7,7,7,7,7,7,7,7,7,7,7,7,7,7,7,7,7,7,7,7,7,7,7,7,7,7,7,7,7,7,7,7,7,7,7,7,7,7,7,7,7,7,7,8,8,8,8,8,8,8,8,8,8,8,8,8,8,8,8,8,8,8,8,8,8,8,8,8,8,8,8,8,8,8,8,8,8,8,8,8,8,8,8,8,8,8,8,8,8,8,8,8,8,8,8,8,8,8,8,8,8,8,8,8,8,8,8,8,8,8,8,8,8,8,8,8,8,8,8,8,8,8,8,8,8,8,8,8,8,8,8,8,8,8,8,8,8,8,8,8,8,8,8,8,8,8,8,8,8,8,8,8,8,8,8,8,8,8,8,8,8,8,8,8,8,8,8,8,8,8,8]⟩:ByteArray).data.toList.getD ((IntKind.u8.wrap (b2.1)).toNat) 0).toNat:Int))))))
def bits_Len64 (x_:Int):Int:=(yH x_).val
theorem ze2 (x_:Int) (hP:0 < x_∧x_ < 18446744073709551616):(yH x_).pst (fun (x:Int)=>1≤x∧x≤64∧2 ^ (x.toNat - 1)≤x_∧x_ < 2 ^ x.toNat):=by
 refine Sk.pst_of _ ?_
 unfold yH
 simp only [Sk.pstq,Sk.isLoop,reduceCtorEq,ON,kk,maxLen]
 simp only [zor,zrG,zsP,jj (n:=(32:Int)) (by decide) (by decide)] at *
 refine ⟨⟨fun hc _=>?_,fun hc=>?_⟩,fun b _ hb=>⟨⟨fun hc _=>?_,fun hc=>?_⟩,fun d _ hd=>⟨fun hc _ _=>?_,fun hc _=>?_⟩⟩⟩
 all_goals simp only [LN] at hc
 ·(try simp only [true_or,or_true,and_true,true_and]); omega
 ·(try simp only [true_or,or_true,and_true,true_and]); omega
 ·have e:w64 (b.2+16)=b.2+16:=jj (by omega) (by omega)
  rw [e]
  omega
 ·omega
 ·rw [zjH,Int.emod_eq_of_lt (by omega) (by omega),zqM _ (by omega)]
  have ht:=zp8 (x:=d.1 / 256) (by omega) (by omega)
  rw [jj (n:=d.2+8) (by omega) (by omega),jj (n:=((T8.getD (d.1 / 256).toNat 0:Nat):Int)) (by omega) (by omega),jj (by omega) (by omega)]
  rcases hd.2.2.2 with ⟨h1,h2⟩ | ⟨h1,h2⟩ | ⟨h1,h2⟩ | ⟨h1,h2⟩
  ·exact Ys (n:=8) (d:=256) (t:=T8.getD (d.1 / 256).toNat 0) (by decide) (by rw [← h2]; exact ht.2.2.1) (by rw [← h2]; exact ht.2.2.2) ht.1 ht.2.1 (by omega) (by omega)
  ·exact Ys (n:=24) (d:=16777216) (t:=T8.getD (d.1 / 256).toNat 0) (by decide) (by rw [show x_ / 16777216=d.1 / 256 by omega]; exact ht.2.2.1) (by rw [show x_ / 16777216=d.1 / 256 by omega]; exact ht.2.2.2) ht.1 ht.2.1 (by omega) (by omega)
  ·exact Ys (n:=40) (d:=1099511627776) (t:=T8.getD (d.1 / 256).toNat 0) (by decide) (by rw [show x_ / 1099511627776=d.1 / 256 by omega]; exact ht.2.2.1) (by rw [show x_ / 1099511627776=d.1 / 256 by omega]; exact ht.2.2.2) ht.1 ht.2.1 (by omega) (by omega)
  ·exact Ys (n:=56) (d:=72057594037927936) (t:=T8.getD (d.1 / 256).toNat 0) (by decide) (by rw [show x_ / 72057594037927936=d.1 / 256 by omega]; exact ht.2.2.1) (by rw [show x_ / 72057594037927936=d.1 / 256 by omega]; exact ht.2.2.2) ht.1 ht.2.1 (by omega) (by omega)
 ·rw [zjH,Int.emod_eq_of_lt (by omega) (by omega),zqM _ (by omega)]
  have ht:=zp8 (x:=d.1) (by omega) (by omega)
  rw [jj (n:=((T8.getD d.1.toNat 0:Nat):Int)) (by omega) (by omega),jj (by omega) (by omega)]
  rcases hd.2.2.2 with ⟨h1,h2⟩ | ⟨h1,h2⟩ | ⟨h1,h2⟩ | ⟨h1,h2⟩
  ·exact Ys (n:=0) (d:=1) (t:=T8.getD d.1.toNat 0) (by decide) (by rw [show x_ / 1=d.1 by omega]; exact ht.2.2.1) (by rw [show x_ / 1=d.1 by omega]; exact ht.2.2.2) ht.1 ht.2.1 (by omega) (by omega)
  ·exact Ys (n:=16) (d:=65536) (t:=T8.getD d.1.toNat 0) (by decide) (by rw [← h2]; exact ht.2.2.1) (by rw [← h2]; exact ht.2.2.2) ht.1 ht.2.1 (by omega) (by omega)
  ·exact Ys (n:=32) (d:=4294967296) (t:=T8.getD d.1.toNat 0) (by decide) (by rw [← h2]; exact ht.2.2.1) (by rw [← h2]; exact ht.2.2.2) ht.1 ht.2.1 (by omega) (by omega)
  ·exact Ys (n:=48) (d:=281474976710656) (t:=T8.getD d.1.toNat 0) (by decide) (by rw [← h2]; exact ht.2.2.1) (by rw [← h2]; exact ht.2.2.2) ht.1 ht.2.1 (by omega) (by omega)
theorem zdW (x_:Int):(fun (x:Int)=>(0 < x_∧x_ < 18446744073709551616)→(1≤x∧x≤64∧2 ^ (x.toNat - 1)≤x_∧x_ < 2 ^ x.toNat)) (bits_Len64 x_):=fun hP=>Sk.pval _ (ze2 x_ hP)
theorem zhC (x_:Int) (hx:0≤x_∧x_ < 18446744073709551616):(yH x_).obs (fun _=>True):=by
 refine Sk.obs_of _ ?_
 unfold yH
 simp only [Sk.obq,Sk.isLoop,reduceCtorEq,ON,kk,maxLen]
 simp only [zor,zrG,zsP,jj (n:=(32:Int)) (by decide) (by decide)] at *
 refine ⟨⟨fun hc=>⟨by decide,fun _=>?_⟩,fun hc=>?_⟩,fun b _ hb=>⟨⟨fun hc=>⟨by decide,fun _=>?_⟩,fun hc=>?_⟩,fun d _ hd=>⟨fun hc=>⟨by decide,fun _=>⟨?_,?_⟩⟩,fun hc=>⟨?_,?_⟩⟩⟩⟩
 all_goals simp only [LN] at hc
 ·(try simp only [true_or,or_true,and_true,true_and]); omega
 ·(try simp only [true_or,or_true,and_true,true_and]); omega
 ·have e:w64 (b.2+16)=b.2+16:=jj (by omega) (by omega)
  rw [e]
  omega
 ·omega
 ·rw [zjH]; omega
 ·rw [zjH,Int.emod_eq_of_lt (by omega) (by omega)]; exact (show _ < ((256:Nat):Int) by omega)
 ·rw [zjH]; omega
 ·rw [zjH,Int.emod_eq_of_lt (by omega) (by omega)]; exact (show _ < ((256:Nat):Int) by omega)
def Wl (x_:Int):Ctr (Int):=kk tok mixed Tryz.func241 [.d (.v (.int .u64 x_))] (fun x=>iv x) true (yH x_) (bits_Len64 x_) (fun (h:(0≤x_∧x_ < 18446744073709551616))=>zhC x_ h) (fun (x:Int)=>(0 < x_∧x_ < 18446744073709551616)→(1≤x∧x≤64∧2 ^ (x.toNat - 1)≤x_∧x_ < 2 ^ x.toNat)) (zdW x_)
def kV (x_:Int):Sk (Int) :=
 .r 1 ((Wl x_).c) fun x1 =>
 .fin (w64 ((64:Int) - x1))
def bits_LeadingZeros64 (x_:Int):Int:=(kV x_).val
theorem GU (x_:Int) (hP:0 < x_∧x_ < 18446744073709551616):(kV x_).pst (fun (x:Int)=>0≤x∧x≤63∧9223372036854775808≤x_ * 2 ^ x.toNat∧x_ * 2 ^ x.toNat < 18446744073709551616):=by
 refine Sk.pst_of _ ?_
 unfold kV
 simp only [Sk.pstq,Sk.isLoop,reduceCtorEq,ON,kk,Wl,maxLen]
 intro x _ h
 obtain ⟨h1,h2,h3,h4⟩:=h hP
 rw [jj (by omega) (by omega)]
 have e1:x.toNat - 1+(64 - x).toNat=63:=by omega
 have e2:x.toNat+(64 - x).toNat=64:=by omega
 have p:(0:Int) < 2 ^ (64 - x).toNat:=Int.pow_pos (by omega)
 have q1:=Int.mul_le_mul_of_nonneg_right h3 (Int.le_of_lt p)
 have q2:=Int.mul_lt_mul_of_pos_right h4 p
 rw [← Int.pow_add,e1] at q1
 rw [← Int.pow_add,e2] at q2
 refine ⟨by omega,by omega,?_,?_⟩
 ·exact q1
 ·exact q2
theorem YU (x_:Int):(fun (x:Int)=>(0 < x_∧x_ < 18446744073709551616)→(0≤x∧x≤63∧9223372036854775808≤x_ * 2 ^ x.toNat∧x_ * 2 ^ x.toNat < 18446744073709551616)) (bits_LeadingZeros64 x_):=fun hP=>Sk.pval _ (GU x_ hP)
theorem Wp (x_:Int) (hx:0≤x_∧x_ < 18446744073709551616):(kV x_).obs (fun _=>True):=by
 unfold kV
 try simp only [Wl]
 exact okD
def yU (x_:Int):Ctr (Int):=kk tok mixed Tryz.func246 [.d (.v (.int .u64 x_))] (fun x=>iv x) true (kV x_) (bits_LeadingZeros64 x_) (fun (h:(0≤x_∧x_ < 18446744073709551616))=>Wp x_ h) (fun (x:Int)=>(0 < x_∧x_ < 18446744073709551616)→(0≤x∧x≤63∧9223372036854775808≤x_ * 2 ^ x.toNat∧x_ * 2 ^ x.toNat < 18446744073709551616)) (YU x_)
end
end Go.Proofs.YtilbddpghnnmhaaGreatDoor
