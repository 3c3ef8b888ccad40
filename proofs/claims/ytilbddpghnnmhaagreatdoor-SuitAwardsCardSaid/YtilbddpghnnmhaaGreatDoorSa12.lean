/- Functions, as sketches. -/
import Derived.Test.YtilbddpghnnmhaaGreatDoorSa10
namespace Go.Proofs.YtilbddpghnnmhaaGreatDoor
noncomputable section
open Go Go.Av
set_option linter.unusedSimpArgs false
set_option linter.unusedVariables false
set_option maxHeartbeats 1000000
set_option maxRecDepth 100000
def gA (v:kM) (sign:Int):Sk (Int) :=
 .r 1 (.p (ixP sign v.now.signs.length)) fun _ =>
 .r 2 (.wh (sign == 0) false ((jq v.lead ((v.now.signs.getD sign.toNat default).part)).c)) fun x1 =>
 .br ((sign == 0)||(!x1))
 (.r 3 (.p (ixP (0:Int) v.lead.length)) fun _ =>
 .fin (v.lead.getD 0 default))
 (.fin ((v.now.signs.getD sign.toNat default).part))
def vP (v:kM) (sign:Int):Int:=(gA v sign).val
theorem zcb (v:kM) (sign:Int) (hs:0≤sign∧sign < v.now.signs.length) (hl:v.lead.length≠0):(gA v sign).obs (fun _=>True):=by
 unfold gA
 try simp only [jq]
 exact okD
def Jw (v:kM) (sign:Int):Ctr (Int):=kk tok mixed Tryz.func149 [av v.cells,iv sign] (fun x=>iv x) true (gA v sign) (vP v sign) (fun (h:(0≤sign∧sign < v.now.signs.length)∧(v.lead.length≠0))=>zcb v sign h.1 h.2)
def qh (v:kM) (part:Int) (by_:Int) (links:List Int):Sk ((List Int)) :=
 .r 2 (.wh (by_ != (-1)) true ((jq links by_).c)) fun x1 =>
 .br ((by_ != (-1))&&(!x1))
 (.fin [])
 (.bind true (fun b2=>b2.length≤v.now.signs.length∧∀ y,y∈b2→0≤y∧y < (v.now.signs.length:Int))
 (.loop (default:Sum ((List Int)) ((List Int))) (fun i3=>i3.2≤v.now.signs.length∧i3.1.length≤i3.2∧∀ y,y∈i3.1→0≤y∧y < (v.now.signs.length:Int)) (fun i3=>v.now.signs.length - i3.2) (([],0):(List Int) × Nat)
 (fun (i3:(List Int) × Nat)=>⟨[(9,ow 100002 i3.1),(25,iv (i3.2:Int))],[(100002,jx 3 1 jz i3.1)]⟩) fun i3 =>
 .bnd 23 0 v.now.signs.length <|
 .br (decide ((i3.2:Int) < ((v.now.signs.length:Nat):Int)))
 (.r 6 (.p (ixP (i3.2:Int) v.now.signs.length)) fun _ =>
 .r 7 ((Jw v (i3.2:Int)).c) fun x4 =>
 .br (x4 != part)
 (.r 18 .z fun _ =>
 .wi 25 (w64 ((i3.2:Int)+1)) ((i3.2+1:Nat):Int) <|
 .fin (.inr (i3.1,i3.2+1)))
 (.bind true (fun _=>True)
 (.bind false (fun _=>True)
 (.br (((v.now.signs.getD i3.2 default).kind) == 0)
 (.fin (.inr (((v.now.signs.getD i3.2 default).kind) == 0)))
 (.fin (.inr (((v.now.signs.getD i3.2 default).kind) == 1))))
 (fun (b6:Bool)=>⟨[(41,bv b6)],[]⟩) fun b6 =>
 .br b6
 (.fin (.inr (true,b6,((v.now.signs.getD i3.2 default).kind) == 0)))
 (.br (((v.now.signs.getD i3.2 default).kind) == 2)
 (.r 15 (.wh ((decide ((i3.2:Int)≤by_))&&((kY .i64 ((v.now.signs.getD i3.2 default).flags) 2) == 0)) true ((jq links (i3.2:Int)).c)) fun x7 =>
 .fin (.inr (((decide ((i3.2:Int)≤by_))&&((kY .i64 ((v.now.signs.getD i3.2 default).flags) 2) == 0))&&x7,b6,((v.now.signs.getD i3.2 default).kind) == 0)))
 (.r 10 ((jq i3.1 ((v.now.signs.getD i3.2 default).for_)).c) fun x8 =>
 .fin (.inr (x8,b6,((v.now.signs.getD i3.2 default).kind) == 0)))))
 (fun (b5:Bool × Bool × Bool)=>⟨[(12,bv b5.1),(41,bv b5.2.1),(42,bv b5.2.2)],[]⟩) fun b5 =>
 .br b5.1
 (.r 17 (.andl (.o [.nrm (qt ky [(i3.2:Int)])]) (.andl (.o [.nrm (Ji ky i3.1 [(i3.2:Int)])]) (.andl (.t (ky.ones [(i3.2:Int)])) (.p (szP i3.1.length [(i3.2:Int)].length 8))))) fun _ =>
 .r 18 .z fun _ =>
 .wi 25 (w64 ((i3.2:Int)+1)) ((i3.2+1:Nat):Int) <|
 .fin (.inr (i3.1++[(i3.2:Int)],i3.2+1)))
 (.r 18 .z fun _ =>
 .wi 25 (w64 ((i3.2:Int)+1)) ((i3.2+1:Nat):Int) <|
 .fin (.inr (i3.1,i3.2+1)))))
 (.fin (.inl (.inr i3.1))))
 (fun (b2:(List Int))=>⟨[(9,ow 100001 b2)],[(100001,jx 3 1 jz b2)]⟩) fun b2 =>
 .fin b2)
def jM (v:kM) (part:Int) (by_:Int) (links:List Int):(List Int):=(qh v part by_ links).val
theorem Fy (v:kM) (part:Int) (by_:Int) (links:List Int):(qh v part by_ links).pst (fun (x:(List Int))=>x.length≤v.now.signs.length∧∀ y,y∈x→0≤y∧y < (v.now.signs.length:Int)):=by
 unfold qh
 try simp only [Jw,jq]
 exact okP
theorem gk (v:kM) (part:Int) (by_:Int) (links:List Int):(fun (x:(List Int))=>x.length≤v.now.signs.length∧∀ y,y∈x→0≤y∧y < (v.now.signs.length:Int)) (jM v part by_ links):=have h:=Sk.pval _ (Fy v part by_ links); h
theorem Bk (v:kM) (part:Int) (by_:Int) (links:List Int) (hl:v.lead.length≠0) (hn:v.now.signs.length≤1000000):(qh v part by_ links).obs (fun _=>True):=by
 unfold qh
 try simp only [Jw,jq]
 exact okD
def KU (v:kM) (part:Int) (by_:Int) (links:List Int):Ctr ((List Int)):=kk tok mixed Tryz.func118 [av v.cells,iv part,iv by_,lv jz links] (fun x=>lv jz x) false (qh v part by_ links) (jM v part by_ links) (fun (h:(v.lead.length≠0)∧(v.now.signs.length≤1000000))=>Bk v part by_ links h.1 h.2) (fun (x:(List Int))=>x.length≤v.now.signs.length∧∀ y,y∈x→0≤y∧y < (v.now.signs.length:Int)) (gk v part by_ links)
def GH (rv:kM→Int→Int) (rp:kM→Int→Prop) (rf:∀ (v:kM) (sign:Int),rp v sign→FnA Tryz.prog 150 [av v.cells,iv sign] [] (iv (rv v sign)) []) (v:kM) (sign:Int):Ctr (Int):=⟨Tryz.prog,150,[av v.cells,iv sign],fun x=>iv x,true,rv v sign,rp v sign,rf v sign,fun _=>True,trivial⟩
def zL (rv:kM→Int→Int) (rp:kM→Int→Prop) (rf:∀ (v:kM) (sign:Int),rp v sign→FnA Tryz.prog 150 [av v.cells,iv sign] [] (iv (rv v sign)) []) (v:kM) (sign:Int):Sk (Int) :=
 .r 1 (.p (ixP sign v.now.signs.length)) fun _ =>
 .br ((((v.now.signs.getD sign.toNat default).kind) == 3)||(((v.now.signs.getD sign.toNat default).kind) == 4))
 (.r 3 ((GH rv rp rf v ((v.now.signs.getD sign.toNat default).for_)).c) fun x1 =>
 .fin x1)
 (.fin sign)
def kd:Nat→kM→Int→Int
 | 0,_,_=>default
 | fu+1,v,sign=>(zL (kd fu) (fun _ _=>False) (fun _ _=>fun h=>h.elim) v sign).val
theorem Vd (v:kM) (h:v.BaseOK):∀ (fu:Nat) (sign:Int),0≤sign→sign < (v.now.signs.length:Int)→sign.toNat < fu→0≤kd fu v sign∧kd fu v sign≤sign
 | 0,_,_,_,h3=>absurd h3 (by omega)
 | fu+1,s,h1,h2,h3=>by
  have e:kd (fu+1) v s=bif (((v.now.signs.getD s.toNat default).kind) == 3)||(((v.now.signs.getD s.toNat default).kind) == 4) then kd fu v ((v.now.signs.getD s.toNat default).for_) else s:=by kernel_rfl
  rw [e]
  cases hk:(((v.now.signs.getD s.toNat default).kind) == 3)||(((v.now.signs.getD s.toNat default).kind) == 4) with
  | false=>exact ⟨h1,Int.le_refl _⟩
  | true =>
   rw [cond_true]
   have:=h s.toNat (by omega) (by simpa using hk)
   have:=Vd v h fu _ this.1 (by omega) (by omega)
   omega
theorem zbY (fu:Nat) (rf:∀ (v:kM) (sign:Int),(sign.toNat+1)≤fu∧(v.BaseOK)∧(0≤sign∧sign < v.now.signs.length)→FnA Tryz.prog 150 [av v.cells,iv sign] [] (iv (kd fu v sign)) []) (v:kM) (sign:Int) (hm:(sign.toNat+1)≤fu+1) (hv:v.BaseOK) (hs:0≤sign∧sign < v.now.signs.length):(zL (kd fu) (fun v sign=>(sign.toNat+1)≤fu∧(v.BaseOK)∧(0≤sign∧sign < v.now.signs.length)) rf v sign).obs (fun _=>True):=by
 refine Sk.obs_of _ ?_
 unfold zL
 simp only [Sk.obq,Sk.isLoop,reduceCtorEq,ON,kk,GH,maxLen]
 refine ⟨hs,fun _ hk=>?_⟩
 have:=hv sign.toNat (by omega) (by simpa using hk)
 exact ⟨by omega,hv,by omega,by omega⟩
theorem zap (fu:Nat) (rp:kM→Int→Prop) (rf:∀ (v:kM) (sign:Int),rp v sign→FnA Tryz.prog 150 [av v.cells,iv sign] [] (iv (kd fu v sign)) []) (v:kM) (sign:Int):(zL (kd fu) rp rf v sign).val=kd (fu+1) v sign:=by kernel_rfl
theorem zaO (fu:Nat):∀ (v:kM) (sign:Int),(sign.toNat+1)≤fu→v.BaseOK→(0≤sign∧sign < v.now.signs.length)→FnA Tryz.prog 150 [av v.cells,iv sign] [] (iv (kd fu v sign)) []:=by
 induction fu with
 | zero=>intro v sign hm h0 h1; exact absurd hm (by omega)
 | succ fu ih =>
  intro v sign hm h0 h1
  have h:FnA Tryz.prog 150 [av v.cells,iv sign] [] (iv ((zL (kd fu) (fun v sign=>(sign.toNat+1)≤fu∧(v.BaseOK)∧(0≤sign∧sign < v.now.signs.length)) (fun v sign h=>ih v sign h.1 h.2.1 h.2.2) v sign).val)) []:=FnA.sk tok mixed (fun x=>iv x) (fun _=>[]) Tryz.func150 rfl (by kernel_rfl) 3000 (zL (kd fu) (fun v sign=>(sign.toNat+1)≤fu∧(v.BaseOK)∧(0≤sign∧sign < v.now.signs.length)) (fun v sign h=>ih v sign h.1 h.2.1 h.2.2) v sign) (by kernel_rfl) (zbY fu _ v sign hm h0 h1)
  rw [zap] at h
  exact h
def jF (v:kM) (sign:Int):Int:=kd ((sign.toNat+1)) v sign
theorem zbJ (v:kM) (sign:Int) (hv:v.BaseOK) (hs:0≤sign∧sign < v.now.signs.length):FnA Tryz.prog 150 [av v.cells,iv sign] [] (iv (jF v sign)) []:=zaO _ v sign (Nat.le_refl _) hv hs
theorem Bz (v:kM) (sign:Int):(fun (x:Int)=>v.BaseOK→0≤sign∧sign < (v.now.signs.length:Int)→0≤x∧x≤sign) (jF v sign):=by
 exact fun h hs=>Vd v h _ sign hs.1 hs.2 (by omega)
def ZA (v:kM) (sign:Int):Ctr (Int):=⟨Tryz.prog,150,[av v.cells,iv sign],fun x=>iv x,true,jF v sign,(v.BaseOK)∧(0≤sign∧sign < v.now.signs.length),fun h=>zbJ v sign h.1 h.2,fun (x:Int)=>v.BaseOK→0≤sign∧sign < (v.now.signs.length:Int)→0≤x∧x≤sign,Bz v sign⟩
def vc (a:jD):Sk (Bool) :=
 .fin ((a.kind == 1)||(a.kind == 3))
def jB (a:jD):Bool:=(vc a).val
theorem Qc (a:jD):jB a=((a.kind == 1)||(a.kind == 3)):=rfl
theorem Xr (a:jD):(vc a).obs (fun _=>True):=by
 unfold vc
 exact okE
def yQ (a:jD):Ctr (Bool):=kk tok mixed Tryz.func153 [av a.cells] (fun x=>bv x) true (vc a) (jB a) (fun (_:True)=>Xr a)
def kK (s:List jD):Sk (Int) :=
 .bind true (fun b1=>∀ q,q < s.length→jB (s.getD q default)=false)
 (.loop (default:Sum (Int) (Unit)) (fun i2=>∀ q,q < i2→jB (s.getD q default)=false) (fun i2=>s.length - i2) (0:Nat)
 (fun (i2:Nat)=>⟨[(8,iv (i2:Int))],[]⟩) fun i2 =>
 .bnd 0 0 s.length <|
 .br (decide ((i2:Int) < ((s.length:Nat):Int)))
 (.r 4 (.andl (.p (ixP (i2:Int) s.length)) ((yQ (s.getD i2 default)).c)) fun x3 =>
 .br x3
 (.fin (.inl (.inl (i2:Int))))
 (.r 6 .z fun _ =>
 .wi 8 (w64 ((i2:Int)+1)) ((i2+1:Nat):Int) <|
 .fin (.inr (i2+1))))
 (.fin (.inl (.inr ()))))
 (fun (_:Unit)=>⟨[],[]⟩) fun _ =>
 .fin (-1)
def Zl (s:List jD):Int:=(kK s).val
theorem Yr (s:List jD):(kK s).pst (fun (x:Int)=>(x = -1∧∀ q,q < s.length→jB (s.getD q default)=false)∨(0≤x∧x < s.length∧jB (s.getD x.toNat default)=true∧∀ q,(q:Nat) < x.toNat→jB (s.getD q default)=false)):=by
 unfold kK
 try simp only [yQ,Qc]
 exact okQ
theorem UD (s:List jD):(fun (x:Int)=>(x = -1∧∀ q,q < s.length→jB (s.getD q default)=false)∨(0≤x∧x < s.length∧jB (s.getD x.toNat default)=true∧∀ q,(q:Nat) < x.toNat→jB (s.getD q default)=false)) (Zl s):=have h:=Sk.pval _ (Yr s); h
theorem Gn (s:List jD):(kK s).obs (fun _=>True):=by
 unfold kK
 try simp only [yQ,Qc]
 exact okG
def uI (s:List jD):Ctr (Int):=kk tok mixed Tryz.func186 [lv jD.cells s,.fn 153 []] (fun x=>iv x) true (kK s) (Zl s) (fun (_:True)=>Gn s) (fun (x:Int)=>(x = -1∧∀ q,q < s.length→jB (s.getD q default)=false)∨(0≤x∧x < s.length∧jB (s.getD x.toNat default)=true∧∀ q,(q:Nat) < x.toNat→jB (s.getD q default)=false)) (UD s)
def kq (s:List jD):Sk (Bool) :=
 .r 1 ((uI s).c) fun x1 =>
 .fin (decide (x1≥0))
def kF (s:List jD):Bool:=(kq s).val
theorem Vo (s:List jD):(kq s).pst (fun (x:Bool)=>(x=true↔∃ q,q < s.length∧jB (s.getD q default)=true)):=by
 unfold kq
 try simp only [uI]
 exact okP
theorem ZK (s:List jD):(fun (x:Bool)=>(x=true↔∃ q,q < s.length∧jB (s.getD q default)=true)) (kF s):=have h:=Sk.pval _ (Vo s); h
theorem Ut (s:List jD):(kq s).obs (fun _=>True):=by
 unfold kq
 try simp only [uI]
 exact okE
def vh (s:List jD):Ctr (Bool):=kk tok mixed Tryz.func152 [lv jD.cells s,.fn 153 []] (fun x=>bv x) true (kq s) (kF s) (fun (_:True)=>Ut s) (fun (x:Bool)=>(x=true↔∃ q,q < s.length∧jB (s.getD q default)=true)) (ZK s)
structure Kept where
 shown:Int
 protest:Int
 notice:Int
 all:Int
 deriving Inhabited
def Kept.cells (c:Kept):List D:=[dI c.shown,dI c.protest,dI c.notice,dI c.all]
def Kept.E:Enc Kept:=⟨Kept.cells,4,fun _=>rfl,fun _=>rfl⟩
structure jQ where
 r:jg
 forum:Int
 f:jh
 sign:Int
 day:Int
 due:Int
 deriving Inhabited
def jQ.cells (c:jQ):List D:=c.r.cells++[dI c.forum]++c.f.cells++[dI c.sign,dI c.day,dI c.due]
def jQ.E:Enc jQ:=⟨jQ.cells,31,fun _=>rfl,fun _=>rfl⟩
def jQ.PayOK (v:jQ):Prop:=0≤v.f.bill.pay∧v.f.bill.pay < v.r.cities.length
def zp (r:jg) (forum:Int) (f:jh) (sign:Int) (day:Int):Sk (jQ) :=
 .r 1 (.dep ((jt f day).c) fun _=>(jO r forum f day).c) fun p3 =>
 .fin ({ r:=r,forum:=forum,f:=p3.1,sign:=sign,day:=day,due:=p3.2 }:jQ)
def Hw (r:jg) (forum:Int) (f:jh) (sign:Int) (day:Int):jQ:=(zp r forum f sign day).val
theorem BM (r:jg) (forum:Int) (f:jh) (sign:Int) (day:Int):(zp r forum f sign day).pst (fun (x:jQ)=>x.r=r∧x.f=ji f day∧x.sign=sign):=by
 unfold zp
 try simp only [jO,jt,jh.Small,jg.Small,jg.ByOK]
 exact okP
theorem Fi (r:jg) (forum:Int) (f:jh) (sign:Int) (day:Int):(fun (x:jQ)=>x.r=r∧x.f=ji f day∧x.sign=sign) (Hw r forum f sign day):=have h:=Sk.pval _ (BM r forum f sign day); h
theorem zaV (r:jg) (forum:Int) (f:jh) (sign:Int) (day:Int) (h_f_Small:f.Small) (h_r_ByOK:r.ByOK) (h_r_Small:r.Small):(zp r forum f sign day).obs (fun _=>True):=by
 simp only [jh.Small,jg.Small,jg.ByOK] at h_f_Small
 simp only [jh.Small,jg.Small,jg.ByOK] at h_r_ByOK
 simp only [jh.Small,jg.Small,jg.ByOK] at h_r_Small
 unfold zp
 try simp only [jO,jt,jh.Small,jg.Small,jg.ByOK]
 exact okD
def Ja (r:jg) (forum:Int) (f:jh) (sign:Int) (day:Int):Ctr (jQ):=kk tok mixed Tryz.func159 [av r.cells,iv forum,av f.cells,iv sign,iv day] (fun x=>av x.cells) false (zp r forum f sign day) (Hw r forum f sign day) (fun (h:(f.Small)∧(r.ByOK)∧(r.Small))=>zaV r forum f sign day h.1 h.2.1 h.2.2) (fun (x:jQ)=>x.r=r∧x.f=ji f day∧x.sign=sign) (Fi r forum f sign day)
def zk (v:jQ) (kind:Int) (from_:Int):Sk (Int) :=
 .bind true (fun _=>True)
 (.loop (default:Sum (Int) (Unit)) (fun i2=>i2≤v.f.acts.length) (fun i2=>v.f.acts.length - i2) (0:Nat)
 (fun (i2:Nat)=>⟨[(13,iv (i2:Int))],[]⟩) fun i2 =>
 .bnd 11 0 v.f.acts.length <|
 .br (decide ((i2:Int) < ((v.f.acts.length:Nat):Int)))
 (.r 3 (.p (ixP (i2:Int) v.f.acts.length)) fun _ =>
 .br (((((v.f.acts.getD i2 default).kind) == kind)&&(((v.f.acts.getD i2 default).to_) == v.f.bill.drawee))&&(decide (((v.f.acts.getD i2 default).day)≥from_)))
 (.fin (.inl (.inl ((v.f.acts.getD i2 default).day))))
 (.r 6 .z fun _ =>
 .wi 13 (w64 ((i2:Int)+1)) ((i2+1:Nat):Int) <|
 .fin (.inr (i2+1))))
 (.fin (.inl (.inr ()))))
 (fun (_:Unit)=>⟨[],[]⟩) fun _ =>
 .fin (-1)
def XH (v:jQ) (kind:Int) (from_:Int):Int:=(zk v kind from_).val
theorem Gc (v:jQ) (kind:Int) (from_:Int):(zk v kind from_).obs (fun _=>True):=by
 unfold zk
 exact okD
def qB (v:jQ) (kind:Int) (from_:Int):Ctr (Int):=kk tok mixed Tryz.func220 [av v.cells,iv kind,iv from_] (fun x=>iv x) true (zk v kind from_) (XH v kind from_) (fun (_:True)=>Gc v kind from_)
structure yT where
 known:Bool
 last:Int
 deriving Inhabited
def yT.cells (c:yT):List D:=[dB c.known,dI c.last]
def yT.E:Enc yT:=⟨yT.cells,2,fun _=>rfl,fun _=>rfl⟩
def zC (v:jQ):Sk (yT) :=
 .r 1 ((JT v.r v.forum 7 v.f v.day).c) fun x1 =>
 .br (x1.err != 0)
 (.fin ({ known:=true,last:=9223372036854775807 }:yT))
 (.br (!x1.cell.known)
 (.fin ({ known:=false,last:=0 }:yT))
 (.br (decide ((w64 (v.f.bill.day+x1.cell.n)) > 100000))
 (.fin ({ known:=true,last:=9223372036854775807 }:yT))
 (.fin ({ known:=true,last:=w64 (v.f.bill.day+x1.cell.n) }:yT))))
def Fk (v:jQ):yT:=(zC v).val
theorem GQ (v:jQ) (h_v_f_Small:v.f.Small) (h_v_r_ByOK:v.r.ByOK) (h_v_r_Small:v.r.Small):(zC v).obs (fun _=>True):=by
 unfold zC
 try simp only [JT]
 exact okD
def yz (v:jQ):Ctr (yT):=kk tok mixed Tryz.func221 [av v.cells] (fun x=>av x.cells) true (zC v) (Fk v) (fun (h:(v.f.Small)∧(v.r.ByOK)∧(v.r.Small))=>GQ v h.1 h.2.1 h.2.2)
def qZ (v:jQ) (on:Int) (t:yT):Sk (Int) :=
 .br (!t.known)
 (.fin 2)
 (.br ((on != (-1))&&(decide (on≤t.last)))
 (.fin 1)
 (.br ((on != (-1))||(decide (v.day > t.last)))
 (.fin 0)
 (.fin 2)))
def Xp (v:jQ) (on:Int) (t:yT):Int:=(qZ v on t).val
theorem Yp (v:jQ) (on:Int) (t:yT):(qZ v on t).obs (fun _=>True):=by
 unfold qZ
 exact okE
def zo (v:jQ) (on:Int) (t:yT):Ctr (Int):=kk tok mixed Tryz.func219 [av v.cells,iv on,av t.cells] (fun x=>iv x) true (qZ v on t) (Xp v on t) (fun (_:True)=>Yp v on t)
def qK (v:jQ):Sk (Int) :=
 .r 1 ((qB v 1 0).c) fun x1 =>
 .br (decide (x1 > v.due))
 (.fin (-1))
 (.fin x1)
def Wo (v:jQ):Int:=(qK v).val
theorem UI (v:jQ):(qK v).obs (fun _=>True):=by
 unfold qK
 try simp only [qB]
 exact okE
def zc (v:jQ):Ctr (Int):=kk tok mixed Tryz.func196 [av v.cells] (fun x=>iv x) true (qK v) (Wo v) (fun (_:True)=>UI v)
def gr (l:List Int):Sk (Int) :=
 .r 1 ((jq l 0).c) fun x1 =>
 .br x1
 (.fin 0)
 (.r 3 ((jq l 2).c) fun x2 =>
 .br x2
 (.fin 2)
 (.fin 1))
def zhK (l:List Int):Int:=(gr l).val
theorem zbA (l:List Int):(gr l).obs (fun _=>True):=by
 unfold gr
 try simp only [jq]
 exact okE
def uW (l:List Int):Ctr (Int):=kk tok mixed Tryz.func192 [lv jz l] (fun x=>iv x) true (gr l) (zhK l) (fun (_:True)=>zbA l)
def zh (v:jQ) (question:Int):Sk (Said) :=
 .r 1 ((qH v.r v.forum question ({ file:=v.f,sign:=v.sign,holder:=v.sign,defence:=(-1),due:=v.due,day:=v.day }:ka)).c) fun x1 =>
 .fin x1
def HC (v:jQ) (question:Int):Said:=(zh v question).val
theorem Gf (v:jQ) (question:Int) (h_v_f_Small:v.f.Small) (h_v_r_ByOK:v.r.ByOK) (h_v_r_Small:v.r.Small):(zh v question).obs (fun _=>True):=by
 unfold zh
 try simp only [qH]
 exact okD
def jS (v:jQ) (question:Int):Ctr (Said):=kk tok mixed Tryz.func189 [av v.cells,iv question] (fun x=>av x.cells) false (zh v question) (HC v question) (fun (h:(v.f.Small)∧(v.r.ByOK)∧(v.r.Small))=>Gf v question h.1 h.2.1 h.2.2)
def gR (c_:za) (day:Int) (n:Int):Sk (Int × Int) :=
 .r 1 ((qX day).c) fun x1 =>
 .br (((!x1)||(decide (n < 0)))||(decide (n > 20000)))
 (.fin (0,3))
 (.bind true (fun _=>True)
 (.loop (default:Sum (Int × Int) (Int)) (fun i3=>0≤i3.2∧i3.2≤n∧0≤i3.1∧i3.1≤100000) (fun i3=>(n - i3.2).toNat) ((day,0):Int × Int)
 (fun (i3:Int × Int)=>⟨[(1,iv i3.1),(22,iv i3.2)],[]⟩) fun i3 =>
 .br (decide (i3.2 < n))
 (.r 5 ((uV c_ (w64 (i3.1+1))).c) fun x4 =>
 .br (x4.2 != 0)
 (.fin (.inl (.inl (0,x4.2))))
 (.fin (.inr (x4.1,w64 (i3.2+1)))))
 (.fin (.inl (.inr i3.1))))
 (fun (b2:Int)=>⟨[(1,iv b2)],[]⟩) fun b2 =>
 .fin (b2,0))
def ziT (c_:za) (day:Int) (n:Int):Int × Int:=(gR c_ day n).val
theorem zbS (c_:za) (day:Int) (n:Int):(gR c_ day n).obs (fun _=>True):=by
 unfold gR
 try simp only [uV,qX,KO]
 exact okG
def WX (c_:za) (day:Int) (n:Int):Ctr (Int × Int):=kk tok mixed Tryz.func242 [av c_.cells,iv day,iv n] (fun x=>.tup [iv x.1,iv x.2]) true (gR c_ day n) (ziT c_ day n) (fun (_:True)=>zbS c_ day n)
def zy (v:jQ) (said:Said) (from_:Int):Sk (yT) :=
 .br (said.err != 0)
 (.fin ({ known:=true,last:=9223372036854775807 }:yT))
 (.br (!said.cell.known)
 (.fin ({ known:=false,last:=0 }:yT))
 (.r 5 (.andl (.p (ixP v.f.bill.pay v.r.cities.length)) ((WX (v.r.cities.getD v.f.bill.pay.toNat default) from_ said.cell.n).c)) fun x1 =>
 .br (x1.2 != 0)
 (.fin ({ known:=true,last:=9223372036854775807 }:yT))
 (.fin ({ known:=true,last:=x1.1 }:yT))))
def Fu (v:jQ) (said:Said) (from_:Int):yT:=(zy v said from_).val
theorem WI (v:jQ) (said:Said) (from_:Int) (hp:v.PayOK):(zy v said from_).obs (fun _=>True):=by
 unfold zy
 try simp only [WX]
 exact okD
def kh (v:jQ) (said:Said) (from_:Int):Ctr (yT):=kk tok mixed Tryz.func222 [av v.cells,av said.cells,iv from_] (fun x=>av x.cells) true (zy v said from_) (Fu v said from_) (fun (h:(v.PayOK))=>WI v said from_ h)
def qp (v:jQ):Sk (Int) :=
 .br (v.f.bill.tenor.kind == 0)
 (.r 3 (.dep ((qB v 2 0).c) fun x1=>.dep ((yz v).c) fun x2=>(zo v x1 x2).c) fun p4 =>
 .fin p4.2.2)
 (.bind false (fun _=>True)
 (.br (v.f.bill.tenor.kind == 1)
 (.r 6 (.dep ((QM v.f).c) fun x6=>.dep ((yz v).c) fun x7=>(zo v x6 x7).c) fun p9 =>
 .fin (.inr p9.2.2))
 (.fin (.inr 1)))
 (fun (b5:Int)=>⟨[(4,iv b5)],[]⟩) fun b5 =>
 .r 7 ((zc v).c) fun x10 =>
 .br (x10 != (-1))
 (.fin b5)
 (.br (v.due == (-1))
 (.r 10 (.andl (.o [.nrm (qt ky [b5,2])]) ((uW [b5,2]).c)) fun x11 =>
 .fin x11)
 (.r 11 (.dep ((qB v 2 v.due).c) fun x12=>.dep ((jS v 10).c) fun x13=>.dep ((kh v x13 v.due).c) fun x14=>.dep ((zo v x12 x14).c) fun x15=>.andl (.o [.nrm (qt ky [b5,x15])]) ((uW [b5,x15]).c)) fun p17 =>
 .fin p17.2.2.2.2)))
def YK (v:jQ):Int:=(qp v).val
theorem Vw (v:jQ) (h_v_f_Small:v.f.Small) (h_v_r_ByOK:v.r.ByOK) (h_v_r_Small:v.r.Small) (h_v_PayOK:v.PayOK):(qp v).obs (fun _=>True):=by
 refine Sk.obs_of _ ?_
 unfold qp
 simp (maxSteps:=2000000) only [Sk.obq,Sk.isLoop,reduceCtorEq,ON,kk,uW,jS,kh,qB,zc,yz,zo,QM,maxLen]
 all_goals (repeat' first | assumption | (apply And.intro) | (intro h))
 all_goals first | trivial | assumption | omega | ((try simp only [LN] at *) <;> first | omega | (refine (jj ?_ ?_).trans ?_ <;> omega) | (simp (disch:=omega) only [jj] at *; omega) | (grind) | (simp_all; done) | (simp_all; omega))
def yV (v:jQ):Ctr (Int):=kk tok mixed Tryz.func187 [av v.cells] (fun x=>iv x) true (qp v) (YK v) (fun (h:(v.f.Small)∧(v.r.ByOK)∧(v.r.Small)∧(v.PayOK))=>Vw v h.1 h.2.1 h.2.2.1 h.2.2.2)
def qq (v:jQ):Sk (Int) :=
 .r 1 ((zc v).c) fun x1 =>
 .br (x1 != (-1))
 (.fin x1)
 (.fin v.due)
def YO (v:jQ):Int:=(qq v).val
theorem Vf (v:jQ):(qq v).obs (fun _=>True):=by
 unfold qq
 try simp only [zc]
 exact okE
def km (v:jQ):Ctr (Int):=kk tok mixed Tryz.func160 [av v.cells] (fun x=>iv x) true (qq v) (YO v) (fun (_:True)=>Vf v)
def qo (v:jQ):Sk (Int) :=
 .r 1 ((km v).c) fun x1 =>
 .r 2 (.dep ((jS v 10).c) fun x2=>(kh v x2 x1).c) fun p11 =>
 .br (!p11.2.known)
 (.fin 2)
 (.bind false (fun _=>True)
 (.br (decide (v.day≤p11.2.last))
 (.fin (.inr 2))
 (.fin (.inr 0)))
 (fun (b4:Int)=>⟨[(5,iv b4)],[]⟩) fun b4 =>
 .bind true (fun _=>True)
 (.loop (default:Sum (Int) (Int)) (fun i6=>i6.2≤v.f.acts.length) (fun i6=>v.f.acts.length - i6.2) ((b4,0):Int × Nat)
 (fun (i6:Int × Nat)=>⟨[(5,iv i6.1),(28,iv (i6.2:Int))],[]⟩) fun i6 =>
 .bnd 26 0 v.f.acts.length <|
 .br (decide ((i6.2:Int) < ((v.f.acts.length:Nat):Int)))
 (.r 10 (.p (ixP (i6.2:Int) v.f.acts.length)) fun _ =>
 .br ((((((v.f.acts.getD i6.2 default).kind) != 4)||(((v.f.acts.getD i6.2 default).to_) != v.f.bill.drawee))||(decide (((v.f.acts.getD i6.2 default).day) < x1)))||(decide (((v.f.acts.getD i6.2 default).day) > p11.2.last)))
 (.r 19 .z fun _ =>
 .wi 28 (w64 ((i6.2:Int)+1)) ((i6.2+1:Nat):Int) <|
 .fin (.inr (i6.1,i6.2+1)))
 (.bind false (fun _=>True)
 (.br (((v.f.acts.getD i6.2 default).form) == 1)
 (.r 14 (.dep ((jS v 9).c) fun x8=>(qE x8).c) fun p10 =>
 .fin (.inr p10.2))
 (.fin (.inr 1)))
 (fun (b7:Int)=>⟨[(8,iv b7)],[]⟩) fun b7 =>
 .br (b7 == 1)
 (.fin (.inl (.inl 1)))
 (.br (b7 == 2)
 (.r 19 .z fun _ =>
 .wi 28 (w64 ((i6.2:Int)+1)) ((i6.2+1:Nat):Int) <|
 .fin (.inr (2,i6.2+1)))
 (.r 19 .z fun _ =>
 .wi 28 (w64 ((i6.2:Int)+1)) ((i6.2+1:Nat):Int) <|
 .fin (.inr (i6.1,i6.2+1))))))
 (.fin (.inl (.inr i6.1))))
 (fun (b5:Int)=>⟨[(5,iv b5)],[]⟩) fun b5 =>
 .fin b5)
def YI (v:jQ):Int:=(qo v).val
theorem Vn (v:jQ) (h_v_f_Small:v.f.Small) (h_v_r_ByOK:v.r.ByOK) (h_v_r_Small:v.r.Small) (h_v_PayOK:v.PayOK):(qo v).obs (fun _=>True):=by
 unfold qo
 try simp only [qE,jS,kh,km]
 exact okD
def gb (v:jQ):Ctr (Int):=kk tok mixed Tryz.func190 [av v.cells] (fun x=>iv x) true (qo v) (YI v) (fun (h:(v.f.Small)∧(v.r.ByOK)∧(v.r.Small)∧(v.PayOK))=>Vn v h.1 h.2.1 h.2.2.1 h.2.2.2)
def vU (said:Said) (answer:Int):Sk (Int) :=
 .r 1 ((qE said).c) fun x1 =>
 .br ((x1 == 0)||(answer == 1))
 (.fin 1)
 (.br (x1 == 2)
 (.fin 2)
 (.fin answer))
def zbM (said:Said) (answer:Int):Int:=(vU said answer).val
theorem Fv (said:Said) (answer:Int):(vU said answer).obs (fun _=>True):=by
 unfold vU
 try simp only [qE]
 exact okE
def JS (said:Said) (answer:Int):Ctr (Int):=kk tok mixed Tryz.func188 [av said.cells,iv answer] (fun x=>iv x) true (vU said answer) (zbM said answer) (fun (_:True)=>Fv said answer)
def qA (v:jQ):Sk (Int) :=
 .r 1 ((km v).c) fun x1 =>
 .r 2 ((jS v 12).c) fun x2 =>
 .r 3 ((kh v x2 x1).c) fun x3 =>
 .br (!x3.known)
 (.fin 2)
 (.bind true (fun _=>True)
 (.loop (default:Sum (Int) (Int)) (fun i5=>i5.2.2≤v.f.acts.length∧i5.2.1.length≤i5.2.2) (fun i5=>v.f.acts.length - i5.2.2) ((x3.last,[],0):Int × (List jD) × Nat)
 (fun (i5:Int × (List jD) × Nat)=>⟨[(6,iv i5.1),(7,ow 100005 i5.2.1),(30,iv (i5.2.2:Int))],[(100005,jx 108 9 jD.cells i5.2.1)]⟩) fun i5 =>
 .bnd 28 0 v.f.acts.length <|
 .br (decide ((i5.2.2:Int) < ((v.f.acts.length:Nat):Int)))
 (.bind true (fun b6=>b6.2.1.length≤i5.2.1.length+1)
 (.r 10 (.p (ixP (i5.2.2:Int) v.f.acts.length)) fun _ =>
 .br (((v.f.acts.getD i5.2.2 default).kind) != 5)
 (.fin (.inr (i5.1,i5.2.1,v.f.acts.getD i5.2.2 default,(v.f.acts.getD i5.2.2 default).kind,((v.f.acts.getD i5.2.2 default).kind) != 5)))
 (.bind true (fun _=>True)
 (.loop (default:Sum (Sum (Sum (Sum (Int) (Int)) (Int × (List jD) × Nat)) (Int × (List jD) × jD × Int × Bool)) (Bool × Int × Bool)) (fun i8=>i8.2≤i5.2.1.length) (fun i8=>i5.2.1.length - i8.2) (((decide (((v.f.acts.getD i5.2.2 default).day)≥x1))&&(decide (((v.f.acts.getD i5.2.2 default).day)≤x3.last)),0):Bool × Nat)
 (fun (i8:Bool × Nat)=>⟨[(10,bv i8.1),(50,iv (i8.2:Int))],[]⟩) fun i8 =>
 .bnd 7 0 i5.2.1.length <|
 .br (decide ((i8.2:Int) < ((i5.2.1.length:Nat):Int)))
 (.r 15 (.andl (.p (ixP (i8.2:Int) i5.2.1.length)) (.p (i8.2 < i5.2.1.length))) fun _ =>
 .r 16 (.wh i8.1 false (.wh (((i5.2.1.getD i8.2 default).to_) == ((v.f.acts.getD i5.2.2 default).who)) true ((kh v x2 ((i5.2.1.getD i8.2 default).day)).c))) fun x9 =>
 .r 17 .z fun _ =>
 .wi 50 (w64 ((i8.2:Int)+1)) ((i8.2+1:Nat):Int) <|
 .fin (.inr (i8.1||((((i5.2.1.getD i8.2 default).to_) == ((v.f.acts.getD i5.2.2 default).who))&&(decide (((v.f.acts.getD i5.2.2 default).day)≤x9.last))),i8.2+1)))
 (.fin (.inl (.inr (i8.1,(i8.2:Int),decide ((i8.2:Int) < ((i5.2.1.length:Nat):Int)))))))
 (fun (b7:Bool × Int × Bool)=>⟨[(10,bv b7.1),(50,iv b7.2.1),(51,bv b7.2.2)],[]⟩) fun b7 =>
 .br (!b7.1)
 (.fin (.inr (i5.1,i5.2.1,v.f.acts.getD i5.2.2 default,(v.f.acts.getD i5.2.2 default).kind,((v.f.acts.getD i5.2.2 default).kind) != 5)))
 (.r 19 (.p (ixP v.sign v.f.signs.length)) fun _ =>
 .br (((v.f.acts.getD i5.2.2 default).to_) == ((v.f.signs.getD v.sign.toNat default).who))
 (.fin (.inl (.inl (.inl 1))))
 (.r 21 (.andl (.o [.nrm (qt jD.E [v.f.acts.getD i5.2.2 default])]) (.andl (.o [.nrm (Ji jD.E i5.2.1 [v.f.acts.getD i5.2.2 default])]) (.andl (.t (jD.E.ones [v.f.acts.getD i5.2.2 default])) (.p (szP i5.2.1.length [v.f.acts.getD i5.2.2 default].length 72))))) fun _ =>
 .r 22 ((kh v x2 ((v.f.acts.getD i5.2.2 default).day)).c) fun x10 =>
 .fin (.inr (jP i5.1 x10.last,i5.2.1++[v.f.acts.getD i5.2.2 default],v.f.acts.getD i5.2.2 default,(v.f.acts.getD i5.2.2 default).kind,((v.f.acts.getD i5.2.2 default).kind) != 5))))))
 (fun (b6:Int × (List jD) × jD × Int × Bool)=>⟨[(6,iv b6.1),(7,ow 100007 b6.2.1),(33,av b6.2.2.1.cells),(35,iv b6.2.2.2.1),(36,bv b6.2.2.2.2)],[(100007,jx 108 9 jD.cells b6.2.1)]⟩) fun b6 =>
 .r 23 .z fun _ =>
 .wi 30 (w64 ((i5.2.2:Int)+1)) ((i5.2.2+1:Nat):Int) <|
 .fin (.inr (b6.1,b6.2.1,i5.2.2+1)))
 (.fin (.inl (.inr i5.1))))
 (fun (b4:Int)=>⟨[(6,iv b4)],[]⟩) fun b4 =>
 .br (decide (v.day > b4))
 (.fin 0)
 (.fin 2))
def GG (v:jQ):Int:=(qA v).val
theorem Uj (v:jQ) (hs:0≤v.sign∧v.sign < (v.f.signs.length:Int)) (h_v_f_Small:v.f.Small) (h_v_r_ByOK:v.r.ByOK) (h_v_r_Small:v.r.Small) (h_v_PayOK:v.PayOK):(qA v).obs (fun _=>True):=by
 refine Sk.obs_of _ ?_
 unfold qA
 simp only [Sk.obq,Sk.isLoop,reduceCtorEq,ON,kk,jS,kh,km,maxLen]
 have hS1:=h_v_f_Small.2.2.1
 all_goals exact okT
def Jf (v:jQ):Ctr (Int):=kk tok mixed Tryz.func191 [av v.cells] (fun x=>iv x) true (qA v) (GG v) (fun (h:(0≤v.sign∧v.sign < (v.f.signs.length:Int))∧(v.f.Small)∧(v.r.ByOK)∧(v.r.Small)∧(v.PayOK))=>Uj v h.1 h.2.1 h.2.2.1 h.2.2.2.1 h.2.2.2.2)
def yF (r:jg) (forum:Int) (f:jh) (sign:Int) (day:Int):Sk (Kept) :=
 .r 1 ((Ja r forum f sign day).c) fun x1 =>
 .br ((decide (sign < 0))||(decide (sign≥((x1.f.signs.length:Nat):Int))))
 (.fin ({ shown:=0,protest:=0,notice:=0,all:=0 }:Kept))
 (.r 5 ((yV x1).c) fun x2 =>
 .bind false (fun _=>True)
 (.br (x1.due != (-1))
 (.r 7 (.dep ((jS x1 8).c) fun x4=>.dep ((gb x1).c) fun x5=>(JS x4 x5).c) fun p11 =>
 .r 8 (.dep ((jS x1 11).c) fun x7=>.dep ((Jf x1).c) fun x8=>(JS x7 x8).c) fun p10 =>
 .fin (.inr ({ shown:=x2,protest:=p11.2.2,notice:=p10.2.2,all:=0 }:Kept)))
 (.fin (.inr ({ shown:=x2,protest:=2,notice:=2,all:=0 }:Kept))))
 (fun (b3:Kept)=>⟨[],[(12,.box (b3.cells.map .d))]⟩) fun b3 =>
 .r 9 (.andl (.o [.nrm (qt ky [b3.shown,b3.protest,b3.notice])]) ((uW [b3.shown,b3.protest,b3.notice]).c)) fun x12 =>
 .fin ({ b3 with all:=x12 }))
def Hc (r:jg) (forum:Int) (f:jh) (sign:Int) (day:Int):Kept:=(yF r forum f sign day).val
theorem zaP (r:jg) (forum:Int) (f:jh) (sign:Int) (day:Int) (hF:jU r f) (h_f_Small:f.Small) (h_r_ByOK:r.ByOK) (h_r_Small:r.Small):(yF r forum f sign day).obs (fun _=>True):=by
 refine Sk.obs_of _ ?_
 unfold yF
 simp only [Sk.obq,Sk.isLoop,reduceCtorEq,ON,kk,uW,Ja,JS,jS,Jf,yV,gb,maxLen]
 refine ⟨⟨h_f_Small,h_r_ByOK,h_r_Small⟩,fun x _ hx hc=>?_⟩
 have hS:x.f.Small:=by rw [hx.2.1]; exact Hk h_f_Small day
 have hB:x.r.ByOK:=by rw [hx.1]; exact h_r_ByOK
 have hR:x.r.Small:=by rw [hx.1]; exact h_r_Small
 have hp:x.PayOK:=by unfold jQ.PayOK; rw [hx.1,hx.2.1,zls]; exact hF.1.2.1
 have hs:0≤x.sign∧x.sign < (x.f.signs.length:Int):=by rw [hx.2.2]; simp only [LN] at hc; omega
 all_goals exact okT
def Qx (r:jg) (forum:Int) (f:jh) (sign:Int) (day:Int):Ctr (Kept):=kk tok mixed Tryz.func154 [av r.cells,iv forum,av f.cells,iv sign,iv day] (fun x=>av x.cells) true (yF r forum f sign day) (Hc r forum f sign day) (fun (h:(jU r f)∧(f.Small)∧(r.ByOK)∧(r.Small))=>zaP r forum f sign day h.1 h.2.1 h.2.2.1 h.2.2.2)
theorem zbd {d:Array Int} {n:Nat} (hs:∀ i j,i≤j→j < n→d[i]!≤d[j]!):∀ m,m≤n→(Lib.compactUpTo d m).Pairwise (· < ·)∧∀ x,x∈Lib.compactUpTo d m↔∃ j,j < m∧d[j]! = x
 | 0,_=>by simp [Lib.compactUpTo]
 | m+1,hm=>by
  obtain ⟨h1,h2⟩:=zbd hs m (by omega)
  rw [Lib.compactUpTo_succ]
  by_cases hk:Lib.keeps d m=true
  ·rw [if_pos hk]
   refine ⟨List.pairwise_append.2 ⟨h1,by simp,fun a ha b hb=>?_⟩,fun x=>?_⟩
   ·simp only [List.mem_singleton] at hb
    subst hb
    obtain ⟨j,hj,rfl⟩:=(h2 a).1 ha
    have h3:=hs j (m - 1) (by omega) (by omega)
    have h4:=hs (m - 1) m (by omega) (by omega)
    simp only [Lib.keeps,decide_eq_true_eq] at hk
    rcases hk with hk | hk
    ·omega
    ·omega
   ·rw [List.mem_append,h2,List.mem_singleton]
    constructor
    ·rintro (⟨j,hj,rfl⟩ | rfl)
     ·exact ⟨j,by omega,rfl⟩
     ·exact ⟨m,by omega,rfl⟩
    ·rintro ⟨j,hj,rfl⟩
     by_cases e:j=m
     ·subst e; exact .inr rfl
     ·exact .inl ⟨j,by omega,rfl⟩
  ·rw [if_neg hk,List.append_nil]
   refine ⟨h1,fun x=>(h2 x).trans ?_⟩
   constructor
   ·rintro ⟨j,hj,rfl⟩
    exact ⟨j,by omega,rfl⟩
   ·rintro ⟨j,hj,rfl⟩
    by_cases e:j=m
    ·subst e
     simp only [Lib.keeps,decide_eq_true_eq,not_or] at hk
     have:¬ d[j]!≠d[j - 1]!:=hk.2
     exact ⟨j - 1,by omega,by omega⟩
    ·exact ⟨j,by omega,rfl⟩
theorem zdb {β Y:Type} {γ:Type} (sg:γ→List β) (se:Y→β) {δ:Type} (sd:δ→List β) {f:γ→Y→δ ⊕ γ}:∀ (l:List Y) (s:γ),(∀ s y,match f s y with | .inl e=>sd e=sg s | .inr s'=>sg s'=sg s++[se y]) →
  ∃ k,(match Ku f l s with | .inl e=>sd e | .inr s'=>sg s')=sg s++(l.take k).map se
 | [],s,_=>⟨0,by simp [Ku]⟩
 | y :: r,s,h=>by
  have h1:=h s y
  simp only [Ku]
  cases e:f s y with
  | inl b=>rw [e] at h1; exact ⟨0,by simpa using h1⟩
  | inr s' =>
   rw [e] at h1
   obtain ⟨k,hk⟩:=zdb sg se sd r s' h
   refine ⟨k+1,?_⟩
   rw [hk,h1]
   simp
theorem zmX (f:jh) (part day:Int):∃ k,(Zs f part day).signs=((jJ f day part).take k).map (·.1):=by
 unfold Zs zS
 dsimp +instances only [Sk.val_bind,Sk.val_loop,Sk.val_bnd,Sk.val_br,Sk.val_r,Sk.val_wi,Sk.val_fin,Sk.val_rf,Ctr.c_v,kk,Cal.andl_v,ub,vI,qY,QD]
 obtain ⟨k,hk⟩:=zdb (fun s:List Int × Int × Bool × Int × List Int=>s.1) (fun y:Int × ql=>y.1) (fun e:List Int × Int × Int × Bool × Int × List Int=>e.1)
  (f:=fun s y=>bif (!s.2.2.1)&&(y.2.who != s.2.1) then .inl (s.1,s.2.1,y.1,s.2.2.1,s.2.2.2.1,s.2.2.2.2) else bif (vD f day).2&&decide (y.2.day > (vD f day).1) then .inr (s.1++[y.1],y.2.to_,y.2.to_ == (-1),XE s.2.2.2.1 y.2.flags,s.2.2.2.2++[y.1]) else .inr (s.1++[y.1],y.2.to_,y.2.to_ == (-1),XE s.2.2.2.1 y.2.flags,s.2.2.2.2))
  (jJ f day part) ([],f.bill.payee,f.bill.payee == (-1),0,[]) (fun s y=>by
   cases (!s.2.2.1)&&(y.2.who != s.2.1)
   ·cases (vD f day).2&&decide (y.2.day > (vD f day).1) <;> rfl
   ·rfl)
 refine ⟨k,?_⟩
 rw [List.nil_append] at hk
 rw [← hk]
 generalize hr:Ku _ _ _=r
 cases r <;> rfl
theorem zpd {v:kM} {part y:Int} (h:y∈jm v part):0≤y∧y < v.all.signs.length∧(v.all.signs.getD y.toNat default).kind=2∧(v.all.signs.getD y.toNat default).part=part∧(v.all.signs.getD y.toNat default).day≤v.day∧kf (qD v.all v.day) y false=false:=by
 have e:jm v part=(Zs v.all part v.day).signs:=rfl
 obtain ⟨k,hk⟩:=zmX v.all part v.day
 rw [e,hk] at h
 obtain ⟨z,hz,rfl⟩:=List.mem_map.1 h
 obtain ⟨i,hi⟩:=List.getElem?_of_mem ((List.take_sublist _ _).subset hz)
 have:=zgX hi
 rw [← this.2.2.2.1]
 exact ⟨this.2.1,this.2.2.1,this.2.2.2.2⟩
theorem zc8 (c:kV) (last:Int):∀ (links:List Int) (o z:uS),z∈gP c last links o→(z.sign=o.sign∧z.firm=o.firm∨z.sign∈links∧z.firm=(c.view.now.signs.getD z.sign.toNat default).to_)∧(z.state=2∨z.state=o.state)
 | [],o,z,h=>by
  simp only [gP,List.mem_singleton] at h
  subst h
  exact ⟨.inl ⟨rfl,rfl⟩,.inr rfl⟩
 | l :: r,o,z,h=>by
  simp only [gP] at h
  cases h0:kp c l last == 0 with
  | true =>
   rw [h0,cond_true,List.mem_singleton] at h
   subst h
   exact ⟨.inl ⟨rfl,rfl⟩,.inr rfl⟩
  | false =>
   rw [h0,cond_false] at h
   have ih:∀ o',o'.sign=l→o'.firm=(c.view.now.signs.getD l.toNat default).to_→(o'.state=2∨o'.state=o.state)→z∈gP c last r o'→(z.sign=o.sign∧z.firm=o.firm∨z.sign∈l :: r∧z.firm=(c.view.now.signs.getD z.sign.toNat default).to_)∧(z.state=2∨z.state=o.state):=by
    intro o' e1 e2 e3 hz
    obtain ⟨h1,h2⟩:=zc8 c last r o' z hz
    refine ⟨.inr ?_,?_⟩
    ·rcases h1 with ⟨h1,h3⟩ | ⟨h1,h3⟩
     ·rw [h1,e1]; exact ⟨by simp,by rw [h3,e2]⟩
     ·exact ⟨by simp [h1],h3⟩
    ·rcases h2 with h2 | h2
     ·exact .inl h2
     ·rw [h2]; exact e3
   cases h2:kp c l last == 2 with
   | true =>
    rw [h2,cond_true] at h
    rcases List.mem_cons.1 h with rfl | h
    ·exact ⟨.inl ⟨rfl,rfl⟩,.inl rfl⟩
    ·exact ih _ rfl rfl (.inl rfl) h
   | false =>
    rw [h2,cond_false] at h
    exact ih { o with firm:=(c.view.now.signs.getD l.toNat default).to_,sign:=l } rfl rfl (.inr rfl) h
theorem znj {c:kV} {links:List Int} {z:uS} (h:z∈jE c links):(z.sign = -1∧z.firm=c.view.now.bill.payee∨z.sign∈links∧z.firm=(c.view.now.signs.getD z.sign.toNat default).to_)∧(z.state=1∨z.state=2):=by
 have:=zc8 c _ links _ z h
 exact ⟨this.1,this.2.symm⟩
theorem XK (c:kV) (last:Int):∀ (links:List Int) (o:uS),(gP c last links o).length≤links.length+1
 | [],o=>by simp [gP]
 | l :: r,o=>by
  simp only [gP]
  cases kp c l last == 0 with
  | true=>simp
  | false =>
   rw [cond_false]
   cases kp c l last == 2 with
   | true=>rw [cond_true,List.length_cons,List.length_cons]; have:=XK c last r { firm:=(c.view.now.signs.getD l.toNat default).to_,sign:=l,state:=2 }; omega
   | false=>rw [cond_false,List.length_cons]; have:=XK c last r { o with firm:=(c.view.now.signs.getD l.toNat default).to_,sign:=l }; omega
theorem Bw (c:kV) (links:List Int):(jE c links).length≤links.length+1:=XK c _ links _
def zo6 (v:kM) (by_:Int) (links l:List Int) (i:Nat):Bool :=
 bif ((v.now.signs.getD i default).kind == 0)||((v.now.signs.getD i default).kind == 1) then true else
 bif (v.now.signs.getD i default).kind == 2 then ((decide (((i:Nat):Int)≤by_))&&((kY .i64 ((v.now.signs.getD i default).flags) 2) == 0))&&slices_Contains links ((i:Nat):Int)
 else slices_Contains l ((v.now.signs.getD i default).for_)
def Bn (v:kM) (part by_:Int) (links:List Int) (i:Nat) (l:List Int):List Int :=
 bif vP v ((i:Nat):Int) != part then l else bif zo6 v by_ links l i then l++[((i:Nat):Int)] else l
def Ga (v:kM) (part by_:Int) (links:List Int):Nat→List Int
 | 0=>[]
 | n+1=>Bn v part by_ links n (Ga v part by_ links n)
theorem zkV {α ι δ:Type} (n:Nat) (h:Nat→α) (pack:α→Nat→ι) {f:ι→δ ⊕ ι} {d:δ} (e:α→δ) (hs:∀ i,i < n→f (pack (h i) i)=.inr (pack (h (i+1)) (i+1))) (he:f (pack (h n) n)=.inl (e (h n))) {m:Nat} (hm:n < m):iter f d m (pack (h 0) 0)=e (h n):=by
 have key:∀ k,k≤n→∀ m,k < m→iter f d m (pack (h (n - k)) (n - k))=e (h n):=by
  intro k
  induction k with
  | zero =>
   intro _ m hm
   obtain ⟨m,rfl⟩:∃ q,m=q+1:=⟨m - 1,by omega⟩
   simp only [iter,Nat.sub_zero,he]
  | succ k ih =>
   intro hk m hm
   obtain ⟨m,rfl⟩:∃ q,m=q+1:=⟨m - 1,by omega⟩
   simp only [iter,hs (n - (k+1)) (by omega)]
   rw [show n - (k+1)+1=n - k by omega]
   exact ih (by omega) m (by omega)
 have:=key n (Nat.le_refl _) m hm
 rwa [Nat.sub_self] at this
theorem zpe (v:kM) (part by_:Int) (links:List Int):jM v part by_ links=bif (by_ != (-1))&&(!(slices_Contains links by_)) then [] else Ga v part by_ links v.now.signs.length:=by
 unfold jM qh
 dsimp +instances only [Sk.val_bind,Sk.val_loop,Sk.val_bnd,Sk.val_br,Sk.val_r,Sk.val_wi,Sk.val_fin,Ctr.c_v,kk,Cal.andl_v,Cal.wh_v,jq,Jw]
 cases (by_ != (-1))&&(!(slices_Contains links by_)) with
 | true=>rfl
 | false =>
  refine congrArg (fun q=>Ke q fun b=>b) (zkV v.now.signs.length (Ga v part by_ links) (fun s i=>(s,i)) (fun s=>Sum.inr s) (fun i hi=>?_) ?_ (by omega))
  ·dsimp only
   rw [decide_eq_true (by omega),cond_true]
   show _=Sum.inr (Bn v part by_ links i (Ga v part by_ links i),i+1)
   unfold Bn
   cases vP v ((i:Nat):Int) != part with
   | true=>rfl
   | false =>
    unfold zo6
    rw [cond_false,cond_false]
    cases (v.now.signs.getD i default).kind == 0 with
    | true=>rfl
    | false =>
     cases (v.now.signs.getD i default).kind == 1 with
     | true=>rfl
     | false =>
      cases (v.now.signs.getD i default).kind == 2 with
      | true=>cases ((decide (((i:Nat):Int)≤by_))&&((kY .i64 ((v.now.signs.getD i default).flags) 2) == 0))&&slices_Contains links ((i:Nat):Int) <;> rfl
      | false=>cases slices_Contains (Ga v part by_ links i) ((v.now.signs.getD i default).for_) <;> rfl
  ·dsimp only
   rw [decide_eq_false (by omega),cond_false]
theorem zkW (l:List Int) (x:Int):slices_Contains l x=true↔x∈l:=by
 refine Iff.trans (Zq l x) ?_
 constructor
 ·rintro ⟨q,hq,e⟩
  rw [← (beq_iff_eq.1 e:l.getD q default=x)]
  exact KS hq _
 ·intro h
  obtain ⟨i,hi,rfl⟩:=List.getElem_of_mem h
  exact ⟨i,hi,by simp [List.getD,hi]⟩
theorem zmn {v:kM} {part by_:Int} {links:List Int}:∀ {n:Nat} {y:Int},y∈Ga v part by_ links n→0≤y∧y < n∧vP v y=part∧zo6 v by_ links (Ga v part by_ links y.toNat) y.toNat=true∧∀ z,z∈Ga v part by_ links y.toNat→z∈Ga v part by_ links n
 | 0,y,h=>by cases h
 | n+1,y,h=>by
  have up:∀ z,z∈Ga v part by_ links n→z∈Ga v part by_ links (n+1):=fun z hz=>by
   show z∈Bn v part by_ links n (Ga v part by_ links n)
   unfold Bn
   cases vP v ((n:Nat):Int) != part with
   | true=>exact hz
   | false =>
    cases zo6 v by_ links (Ga v part by_ links n) n with
    | true=>exact List.mem_append_left _ hz
    | false=>exact hz
  have old:y∈Ga v part by_ links n→0≤y∧y < ((n+1:Nat):Int)∧vP v y=part∧zo6 v by_ links (Ga v part by_ links y.toNat) y.toNat=true∧∀ z,z∈Ga v part by_ links y.toNat→z∈Ga v part by_ links (n+1):=fun hy=>by
   have:=zmn hy
   exact ⟨this.1,by omega,this.2.2.1,this.2.2.2.1,fun z hz=>up z (this.2.2.2.2 z hz)⟩
  change y∈Bn v part by_ links n (Ga v part by_ links n) at h
  unfold Bn at h
  cases hp:vP v ((n:Nat):Int) != part with
  | true=>rw [hp,cond_true] at h; exact old h
  | false =>
   rw [hp,cond_false] at h
   cases hi:zo6 v by_ links (Ga v part by_ links n) n with
   | false=>rw [hi,cond_false] at h; exact old h
   | true =>
    rw [hi,cond_true,List.mem_append,List.mem_singleton] at h
    rcases h with h | rfl
    ·exact old h
    ·exact ⟨by omega,by omega,by simpa using hp,by simpa using hi,fun z hz=>up z (by simpa using hz)⟩
theorem zm4 {v:kM} {part by_:Int} {links:List Int} {y:Int} (h:y∈jM v part by_ links):(by_ = -1∨by_∈links)∧y∈Ga v part by_ links v.now.signs.length:=by
 rw [zpe] at h
 cases hc:(by_ != (-1))&&(!(slices_Contains links by_)) with
 | true=>rw [hc] at h; cases h
 | false =>
  rw [hc,cond_false] at h
  refine ⟨?_,h⟩
  by_cases e:by_ = -1
  ·exact .inl e
  ·refine .inr ((zkW links by_).1 ?_)
   have:(by_ != (-1))=true:=by simpa using e
   rw [this,Bool.true_and,Bool.not_eq_eq_eq_not,Bool.not_false] at hc
   exact hc
def zaF (now:jh) (i:Int):Bool:=now.acts.any fun a=>a.kind == 7&&a.at_ == i
def zeZ (now:jh):List Int:=((List.range now.signs.length).filter fun i=>((now.signs.getD i default).kind == 2)&&!(zaF now ((i:Nat):Int))).map fun i=>(now.signs.getD i default).part
theorem zeM {α:Type} (k k':Int) (v:α):∀ (m:List (Int × α)),yP (gn m k v) k'=if k'=k then some v else yP m k'
 | []=>by
  simp only [gn,yP]
  by_cases e:k'=k
  ·subst e; simp
  ·have:(k' == k)=false:=by simpa using e
   rw [this,if_neg e]; rfl
 | p :: r=>by
  have ih:=zeM k k' v r
  simp only [gn]
  cases h:k == p.1 with
  | true =>
   have h:=beq_iff_eq.1 h
   simp only [cond_true,yP]
   by_cases e:k'=k
   ·subst e; rw [← h]; simp
   ·have:(k' == p.1)=false:=by rw [← h]; simpa using e
    rw [this,if_neg e]; rfl
  | false =>
   simp only [cond_false,yP,ih]
   by_cases e:k'=k
   ·subst e; rw [h]; simp
   ·rw [if_neg e,if_neg e]
theorem zpo (acts:List jD) (p:jD→Bool) (k:Int) (m:List (Int × Bool)):kf (acts.foldl (fun m a=>bif p a then gn m a.at_ true else m) m) k false=(acts.any (fun a=>p a&&a.at_ == k)||kf m k false):=by
 induction acts generalizing m with
 | nil=>rfl
 | cons a r ih =>
  rw [List.foldl_cons,ih,List.any_cons]
  cases hp:p a with
  | false=>simp
  | true =>
   simp only [cond_true,Bool.true_and]
   unfold kf
   rw [zeM]
   by_cases e:k=a.at_
   ·subst e; simp
   ·have:(a.at_ == k)=false:=by simpa using fun h:a.at_=k=>e h.symm
    rw [if_neg e,this,Bool.false_or]
theorem zkv (f:jh) (day:Int):jV f day=⟨f,ji f day,day,bif (((Lib.compact (Ud (zeZ (ji f day)))).length:Nat):Int) == 0 then [0] else Lib.compact (Ud (zeZ (ji f day)))⟩:=by
 unfold jV ga
 dsimp +instances only [Sk.val_bind,Sk.val_loop,Sk.val_bnd,Sk.val_br,Sk.val_r,Sk.val_wi,Sk.val_wn,Sk.val_fin,Ctr.c_v,kk,Cal.andl_v,Cal.wh_v,zel.c_v,GW.c_v,jt,QF,gy]
 generalize ji f day=now
 rw [Qf now.acts (fun s i=>(i,s)) (fun x (s:List (Int × Bool))=>Sum.inr (bif x.kind == 7 then gn s x.at_ true else s)) (fun s=>Sum.inr s) (fun s i hi=>?_) (fun s=>?_) (by omega) []]
 ·rw [GN (fun (x:jD) s=>bif x.kind == 7 then gn s x.at_ true else s)]
  simp only [VC]
  have hg:∀ k,kf (now.acts.foldl (fun m a=>bif a.kind == 7 then gn m a.at_ true else m) []) k false=zaF now k:=fun k=>by
   rw [zpo now.acts (fun a=>a.kind == 7) k []]
   show (_||false)=_
   rw [Bool.or_false]; rfl
  generalize now.acts.foldl (fun m a=>bif a.kind == 7 then gn m a.at_ true else m) []=m at hg
  refine Eq.trans (congrArg (fun q=>Ke q _) (zkV now.signs.length (fun n=>((List.range n).filter fun i=>((now.signs.getD i default).kind == 2)&&!(zaF now ((i:Nat):Int))).map fun i=>(now.signs.getD i default).part) (fun s i=>(i,s)) (fun s=>Sum.inr s) (fun i hi=>?_) ?_ (by omega))) ?_
  rotate_left
  rotate_left
  ·simp only [VC]
   show (bif (((Lib.compact (Ud (zeZ now))).length:Nat):Int) == 0 then kM.mk f now day [0] else kM.mk f now day (Lib.compact (Ud (zeZ now))))=kM.mk f now day (bif (((Lib.compact (Ud (zeZ now))).length:Nat):Int) == 0 then [0] else Lib.compact (Ud (zeZ now)))
   cases (((Lib.compact (Ud (zeZ now))).length:Nat):Int) == 0 <;> rfl
  ·dsimp only
   rw [decide_eq_true (by omega),cond_true,hg,List.range_succ,List.filter_append,List.map_append]
   cases hc:((now.signs.getD i default).kind == 2)&&!(zaF now ((i:Nat):Int)) with
   | true=>rw [List.filter_cons_of_pos (by simpa using hc)]; rfl
   | false=>rw [List.filter_cons_of_neg (by simpa using hc)]; simp
  ·dsimp only
   rw [decide_eq_false (by omega),cond_false]
 ·rw [decide_eq_true (by omega),cond_true]
  cases (now.acts.getD i default).kind == 7 <;> rfl
 ·rw [decide_eq_false (by omega),cond_false]
def zO (c_:kV) (o:uS) (sign:Int) (links:List Int) (effects:List ke):Sk (Int × Int) :=
 .r 1 ((ZA c_.view sign).c) fun x1 =>
 .r 2 (.andl (.p (ixP sign effects.length)) ((Qv o.state ((effects.getD sign.toNat default).binds)).c)) fun x2 =>
 .r 4 (.p (ixP x1 c_.view.now.signs.length)) fun _ =>
 .br (((c_.view.now.signs.getD x1.toNat default).kind) == 1)
 (.br (!((c_.due != (-1))&&(decide (c_.view.day≥c_.due))))
 (.fin (0,0))
 (.fin (x2,0)))
 (.r 8 ((vh c_.view.now.acts).c) fun x3 =>
 .r 9 (.wh ((!((c_.due != (-1))&&(decide (c_.view.day≥c_.due))))&&(!x3)) false (.p (ixP x1 effects.length))) fun _ =>
 .br (((!((c_.due != (-1))&&(decide (c_.view.day≥c_.due))))&&(!x3))||(!((effects.getD x1.toNat default).recourse)))
 (.fin (0,0))
 (.bind true (fun _=>True)
 (.loop (default:Sum (Int × Int) (Int × Int)) (fun i5=>i5.2.2≤links.length) (fun i5=>links.length - i5.2.2) ((0,1,0):Int × Int × Nat)
 (fun (i5:Int × Int × Nat)=>⟨[(16,iv i5.1),(17,iv i5.2.1),(76,iv (i5.2.2:Int))],[]⟩) fun i5 =>
 .bnd 3 0 links.length <|
 .br (decide ((i5.2.2:Int) < ((links.length:Nat):Int)))
 (.r 14 (.p (ixP (i5.2.2:Int) links.length)) fun _ =>
 .bind false (fun _=>True)
 (.br (decide ((links.getD i5.2.2 default)≤o.sign))
 (.fin (.inr (w64 (i5.2.1+1))))
 (.fin (.inr i5.2.1)))
 (fun (b6:Int)=>⟨[(17,iv b6)],[]⟩) fun b6 =>
 .br ((decide ((links.getD i5.2.2 default)≤o.sign))&&(decide ((links.getD i5.2.2 default)≥x1)))
 (.r 19 .z fun _ =>
 .wi 76 (w64 ((i5.2.2:Int)+1)) ((i5.2.2+1:Nat):Int) <|
 .fin (.inr (w64 (i5.1+1),b6,i5.2.2+1)))
 (.r 19 .z fun _ =>
 .wi 76 (w64 ((i5.2.2:Int)+1)) ((i5.2.2+1:Nat):Int) <|
 .fin (.inr (i5.1,b6,i5.2.2+1))))
 (.fin (.inl (.inr (i5.1,i5.2.1)))))
 (fun (b4:Int × Int)=>⟨[(16,iv b4.1),(17,iv b4.2)],[]⟩) fun b4 =>
 .r 20 ((jq links x1).c) fun x7 =>
 .bind false (fun _=>True)
 (.br (!x7)
 (.fin (.inr b4.2))
 (.fin (.inr b4.1)))
 (fun (b8:Int)=>⟨[(16,iv b8)],[]⟩) fun b8 =>
 .r 22 (.dep ((Qx c_.r c_.forum c_.view.all x1 c_.view.day).c) fun x9=>(Qv x2 x9.all).c) fun p11 =>
 .fin (p11.2,b8)))
def jR (c_:kV) (o:uS) (sign:Int) (links:List Int) (effects:List ke):Int × Int:=(zO c_ o sign links effects).val
theorem BB (c_:kV) (o:uS) (sign:Int) (links:List Int) (effects:List ke) (he:effects.length=c_.view.now.signs.length) (hs:0≤sign∧sign < (c_.view.now.signs.length:Int)) (hc:c_.view.now=ji c_.view.all c_.view.day) (hF:jU c_.r c_.view.all) (h_c__view_BaseOK:c_.view.BaseOK) (h_c__view_all_Small:c_.view.all.Small) (h_c__r_ByOK:c_.r.ByOK) (h_c__r_Small:c_.r.Small):(zO c_ o sign links effects).obs (fun _=>True):=by
 unfold zO
 try simp only [Qx,Qv,ZA,vh,jq]
 exact okD
def Kn (c_:kV) (o:uS) (sign:Int) (links:List Int) (effects:List ke):Ctr (Int × Int):=kk tok mixed Tryz.func119 [av c_.cells,av o.cells,iv sign,lv jz links,lv ke.cells effects] (fun x=>.tup [iv x.1,iv x.2]) true (zO c_ o sign links effects) (jR c_ o sign links effects) (fun (h:(effects.length=c_.view.now.signs.length)∧(0≤sign∧sign < (c_.view.now.signs.length:Int))∧(c_.view.now=ji c_.view.all c_.view.day)∧(jU c_.r c_.view.all)∧(c_.view.BaseOK)∧(c_.view.all.Small)∧(c_.r.ByOK)∧(c_.r.Small))=>BB c_ o sign links effects h.1 h.2.1 h.2.2.1 h.2.2.2.1 h.2.2.2.2.1 h.2.2.2.2.2.1 h.2.2.2.2.2.2.1 h.2.2.2.2.2.2.2)
structure XJ where
 sum:Int
 interest:Int
 costs:Int
 exchange:Int
 paid:Int
 rest:Int
 currency:Int
 deriving Inhabited
def XJ.cells (c:XJ):List D:=[dI c.sum,dI c.interest,dI c.costs,dI c.exchange,dI c.paid,dI c.rest,dI c.currency]
def XJ.E:Enc XJ:=⟨XJ.cells,7,fun _=>rfl,fun _=>rfl⟩
def ul (r:jg) (forum:Int) (f:jh) (sign:Int) (day:Int):Sk (ke × Bool) :=
 .r 1 ((Kj r forum f day).c) fun x1 =>
 .br ((decide (sign < 0))||(decide (sign≥((x1.f.signs.length:Nat):Int))))
 (.fin (({ sign:=0,kind:=0,firm:=0,binds:=0,text:=0,sum:=0,recourse:=false }:ke),false))
 (.r 4 ((qS x1 sign).c) fun x2 =>
 .fin (x2,true))
def zdf (r:jg) (forum:Int) (f:jh) (sign:Int) (day:Int):ke × Bool:=(ul r forum f sign day).val
theorem zdO (r:jg) (forum:Int) (f:jh) (sign:Int) (day:Int) (hP:f.SumOK∧f.Small):(ul r forum f sign day).pst (fun (x:ke × Bool)=>0≤x.1.sum∧x.1.sum≤1099511627776):=by
 refine Sk.pst_of _ ?_
 unfold ul
 simp only [Sk.pstq,Sk.isLoop,reduceCtorEq,ON,kk,Kj,qS,maxLen]
 intro x _ hx
 refine ⟨fun _=>⟨by decide,by decide⟩,fun hc y _ hy=>hy ⟨by rw [hx.1]; exact zov hP.1 day,by rw [hx.1]; exact Hk hP.2 day,?_⟩⟩
 simp only [LN] at hc
 omega
theorem zbT (r:jg) (forum:Int) (f:jh) (sign:Int) (day:Int):(fun (x:ke × Bool)=>(f.SumOK∧f.Small)→(0≤x.1.sum∧x.1.sum≤1099511627776)) (zdf r forum f sign day):=fun hP=>Sk.pval _ (zdO r forum f sign day hP)
theorem zhb (r:jg) (forum:Int) (f:jh) (sign:Int) (day:Int) (h_f_Small:f.Small) (h_r_ByOK:r.ByOK) (h_r_Small:r.Small):(ul r forum f sign day).obs (fun _=>True):=by
 refine Sk.obs_of _ ?_
 unfold ul
 simp only [Sk.obq,Sk.isLoop,reduceCtorEq,ON,kk,Kj,qS,maxLen]
 refine ⟨⟨h_f_Small,h_r_ByOK,h_r_Small⟩,fun x _ hx hc=>?_⟩
 have hS:x.f.Small:=by rw [hx.1]; exact Hk h_f_Small day
 have hB:x.r.ByOK:=by rw [hx.2]; exact h_r_ByOK
 have hR:x.r.Small:=by rw [hx.2]; exact h_r_Small
 simp only [LN] at hc
 exact ⟨by omega,hS,hB,hR⟩
def Yl (r:jg) (forum:Int) (f:jh) (sign:Int) (day:Int):Ctr (ke × Bool):=kk tok mixed Tryz.func155 [av r.cells,iv forum,av f.cells,iv sign,iv day] (fun x=>.tup [av x.1.cells,bv x.2]) true (ul r forum f sign day) (zdf r forum f sign day) (fun (h:(f.Small)∧(r.ByOK)∧(r.Small))=>zhb r forum f sign day h.1 h.2.1 h.2.2) (fun (x:ke × Bool)=>(f.SumOK∧f.Small)→(0≤x.1.sum∧x.1.sum≤1099511627776)) (zbT r forum f sign day)
def Jr (n:Int) (most:Int):Sk (Bool) :=
 .fin ((decide (n≥0))&&(decide (n≤most)))
def zbb (n:Int) (most:Int):Bool:=(Jr n most).val
theorem WQ (n:Int) (most:Int):zbb n most=((decide (n≥0))&&(decide (n≤most))):=rfl
theorem zdJ (n:Int) (most:Int):(Jr n most).obs (fun _=>True):=by
 unfold Jr
 exact okE
def uy (n:Int) (most:Int):Ctr (Bool):=kk tok mixed Tryz.func223 [iv n,iv most] (fun x=>bv x) true (Jr n most) (zbb n most) (fun (_:True)=>zdJ n most)
def T8:List Nat:=[0,1,2,2,3,3,3,3,4,4,4,4,4,4,4,4]++List.replicate 16 5++List.replicate 32 6++List.replicate 64 7++List.replicate 128 8
theorem zsB:∀ k,k < 256→0 < k→1≤T8.getD k 0∧T8.getD k 0≤8∧2 ^ (T8.getD k 0 - 1)≤k∧k < 2 ^ (T8.getD k 0):=by decide +kernel
theorem zrA {x d:Int} {n t:Nat} (hd:d=2 ^ n) (h1:(2:Int) ^ (t - 1)≤x / d) (h2:x / d < 2 ^ t) (ht:1≤t):(2:Int) ^ (n+t - 1)≤x∧x < 2 ^ (n+t):=by
 subst hd
 have hp:(0:Int) < 2 ^ n:=Int.pow_pos (by omega)
 have e:=Int.mul_ediv_add_emod x (2 ^ n)
 have r0:=Int.emod_nonneg x (Int.ne_of_gt hp)
 have r1:=Int.emod_lt_of_pos x hp
 rw [show n+t - 1=n+(t - 1) by omega,Int.pow_add,Int.pow_add]
 constructor
 ·have:=Int.mul_le_mul_of_nonneg_left h1 (Int.le_of_lt hp)
  omega
 ·have:(2:Int) ^ n * (x / 2 ^ n+1)≤2 ^ n * 2 ^ t:=Int.mul_le_mul_of_nonneg_left (by omega) (Int.le_of_lt hp)
  rw [Int.mul_add] at this
  omega
theorem zoe (a:Int):kP .u64 a 32=a / 4294967296:=zcm .u64 (b:=32) (by decide)
theorem zrw (a:Int):kP .u64 a 16=a / 65536:=zcm .u64 (b:=16) (by decide)
theorem zst (a:Int):kP .u64 a 8=a / 256:=zcm .u64 (b:=8) (by decide)
theorem zp3 {x:Int} (h:0 < x) (h2:x < 256):1≤T8.getD x.toNat 0∧T8.getD x.toNat 0≤8∧(2:Int) ^ (T8.getD x.toNat 0 - 1)≤x∧x < 2 ^ (T8.getD x.toNat 0):=by
 obtain ⟨h3,h4,h5,h6⟩:=zsB x.toNat (by omega) (by omega)
 refine ⟨h3,h4,?_,?_⟩
 ·have:((2 ^ (T8.getD x.toNat 0 - 1):Nat):Int)≤(x.toNat:Int):=by exact_mod_cast h5
  rw [Int.natCast_pow] at this
  have e:((2:Nat):Int)=2:=rfl
  rw [e] at this
  omega
 ·have:((x.toNat:Nat):Int) < ((2 ^ (T8.getD x.toNat 0):Nat):Int):=by exact_mod_cast h6
  rw [Int.natCast_pow] at this
  have e:((2:Nat):Int)=2:=rfl
  rw [e] at this
  omega
theorem zpL:∀ k,k < 256→((⟨#[0,1,2,2,3,3,3,3,4,4,4,4,4,4,4,4,5,5,5,5,5,5,5,5,5,5,5,5,5,5,5,5,6,6,6,6,6,6,6,6,6,6,6,6,6,6,6,6,6,6,6,6,6,6,6,6,6,6,6,6,6,6,6,6,7,7,7,7,7,7,7,7,7,7,7,7,7,7,7,7,7,7,7,7,7,7,7,7,7,7,7,7,7,7,7,7,7,7,7,7,7,7,7,7,7,7,7,7,7,7,7,7,7,7,7,7,7,7,7,7,7,7,7,7,7,7,7,7,8,8,8,8,8,8,8,8,8,8,8,8,8,8,8,8,8,8,8,8,8,8,8,8,8,8,8,8,8,8,8,8,8,8,8,8,8,8,8,8,8,8,8,8,8,8,8,8,8,8,8,8,8,8,8,8,8,8,8,8,8,8,8,8,8,8,8,8,8,8,8,8,8,8,8,8,8,8,8,8,8,8,8,8,8,8,8,8,8,8,8,8,8,8,8,8,8,8,8,8,8,8,8,8,8,8,8,8,8,8,8,8,8,8,8,8,8,8,8,8,8,8,8,8,8,8,8,8]⟩:ByteArray).data.toList.getD k 0).toNat=T8.getD k 0:=by decide +kernel
theorem Yc {x d:Int} {n t:Nat} (hd:d=2 ^ n) (h1:(2:Int) ^ (t - 1)≤x / d) (h2:x / d < 2 ^ t) (ht:1≤t) (ht8:t≤8) (hn:n≤56) {r:Int} (hr:r=(n+t:Nat)):1≤r∧r≤64∧2 ^ (r.toNat - 1)≤x∧x < 2 ^ r.toNat:=by
 subst hr
 have:=zrA hd h1 h2 ht
 rw [Int.toNat_natCast]
 exact ⟨by omega,by omega,this.1,this.2⟩
def ym (x_:Int):Sk (Int) :=
 .bind false (fun b1=>(0 < x_→0 < b1.1)∧0≤b1.1∧b1.1 < 4294967296∧((b1.2=0∧b1.1=x_)∨(b1.2=32∧b1.1=x_ / 4294967296)))
 (.br (decide (x_≥4294967296))
 (.r 2 (.p (0≤(32:Int))) fun _ =>
 .fin (.inr (kP .u64 x_ 32,32)))
 (.fin (.inr (x_,0))))
 (fun (b1:Int × Int)=>⟨[(0,.d (.v (.int .u64 b1.1))),(2,iv b1.2)],[]⟩) fun b1 =>
 .bind false (fun b2=>(0 < x_→0 < b2.1)∧0≤b2.1∧b2.1 < 65536∧((b2.2=0∧b2.1=x_)∨(b2.2=16∧b2.1=x_ / 65536)∨(b2.2=32∧b2.1=x_ / 4294967296)∨(b2.2=48∧b2.1=x_ / 281474976710656)))
 (.br (decide (b1.1≥65536))
 (.r 5 (.p (0≤(16:Int))) fun _ =>
 .fin (.inr (kP .u64 b1.1 16,w64 (b1.2+16))))
 (.fin (.inr (b1.1,b1.2))))
 (fun (b2:Int × Int)=>⟨[(0,.d (.v (.int .u64 b2.1))),(2,iv b2.2)],[]⟩) fun b2 =>
 .br (decide (b2.1≥256))
 (.r 8 (.p (0≤(8:Int))) fun _ =>
 .r 10 (.p (0≤(IntKind.u8.wrap (kP .u64 b2.1 8))∧(IntKind.u8.wrap (kP .u64 b2.1 8)) < (((⟨#[0,1,2,2,3,3,3,3,4,4,4,4,4,4,4,4,5,5,5,5,5,5,5,5,5,5,5,5,5,5,5,5,6,6,6,6,6,6,6,6,6,6,6,6,6,6,6,6,6,6,6,6,6,6,6,6,6,6,6,6,6,6,6,6,7,7,7,7,7,7,7,7,7,7,7,7,7,7,7,7,7,7,7,7,7,7,7,7,7,7,7,7,7,7,7,7,7,7,7,7,7,7,7,7,7,7,7,7,7,7,7,7,7,7,7,7,7,7,7,7,7,7,7,7,7,7,7,7,8,8,8,8,8,8,8,8,8,8,8,8,8,8,8,8,8,8,8,8,8,8,8,8,8,8,8,8,8,8,8,8,8,8,8,8,8,8,8,8,8,8,8,8,8,8,8,8,8,8,8,8,8,8,8,8,8,8,8,8,8,8,8,8,8,8,8,8,8,8,8,8,8,8,8,8,8,8,8,8,8,8,8,8,8,8,8,8,8,8,8,8,8,8,8,8,8,8,8,8,8,8,8,8,8,8,8,8,8,8,8,8,8,8,8,8,8,8,8,8,8,8,8,8,8,8,8,8]⟩:ByteArray).size:Nat):Int))) fun _ =>
 .fin (w64 ((w64 (b2.2+8))+(w64 ((((⟨#[0,1,2,2,3,3,3,3,4,4,4,4,4,4,4,4,5,5,5,5,5,5,5,5,5,5,5,5,5,5,5,5,6,6,6,6,6,6,6,6,6,6,6,6,6,6,6,6,6,6,6,6,6,6,6,6,6,6,6,6,6,6,6,6,7,7,7,7,7,7,7,7,7,7,7,7,7,7,7,7,7,7,7,7,7,7,7,7,7,7,7,7,7,7,7,7,7,7,7,7,7,7,7,7,7,7,7,7,7,7,7,7,7,7,7,7,7,7,7,7,7,7,7,7,7,7,7,7,8,8,8,8,8,8,8,8,8,8,8,8,8,8,8,8,8,8,8,8,8,8,8,8,8,8,8,8,8,8,8,8,8,8,8,8,8,8,8,8,8,8,8,8,8,8,8,8,8,8,8,8,8,8,8,8,8,8,8,8,8,8,8,8,8,8,8,8,8,8,8,8,8,8,8,8,8,8,8,8,8,8,8,8,8,8,8,8,8,8,8,8,8,8,8,8,8,8,8,8,8,8,8,8,8,8,8,8,8,8,8,8,8,8,8,8,8,8,8,8,8,8,8,8,8,8,8,8]⟩:ByteArray).data.toList.getD ((IntKind.u8.wrap (kP .u64 b2.1 8)).toNat) 0).toNat:Int))))))
 (.r 10 (.p (0≤(IntKind.u8.wrap (b2.1))∧(IntKind.u8.wrap (b2.1)) < (((⟨#[0,1,2,2,3,3,3,3,4,4,4,4,4,4,4,4,5,5,5,5,5,5,5,5,5,5,5,5,5,5,5,5,6,6,6,6,6,6,6,6,6,6,6,6,6,6,6,6,6,6,6,6,6,6,6,6,6,6,6,6,6,6,6,6,7,7,7,7,7,7,7,7,7,7,7,7,7,7,7,7,7,7,7,7,7,7,7,7,7,7,7,7,7,7,7,7,7,7,7,7,7,7,7,7,7,7,7,7,7,7,7,7,7,7,7,7,7,7,7,7,7,7,7,7,7,7,7,7,8,8,8,8,8,8,8,8,8,8,8,8,8,8,8,8,8,8,8,8,8,8,8,8,8,8,8,8,8,8,8,8,8,8,8,8,8,8,8,8,8,8,8,8,8,8,8,8,8,8,8,8,8,8,8,8,8,8,8,8,8,8,8,8,8,8,8,8,8,8,8,8,8,8,8,8,8,8,8,8,8,8,8,8,8,8,8,8,8,8,8,8,8,8,8,8,8,8,8,8,8,8,8,8,8,8,8,8,8,8,8,8,8,8,8,8,8,8,8,8,8,8,8,8,8,8,8,8]⟩:ByteArray).size:Nat):Int))) fun _ =>
 .fin (w64 (b2.2+(w64 ((((⟨#[0,1,2,2,3,3,3,3,4,4,4,4,4,4,4,4,5,5,5,5,5,5,5,5,5,5,5,5,5,5,5,5,6,6,6,6,6,6,6,6,6,6,6,6,6,6,6,6,6,6,6,6,6,6,6,6,6,6,6,6,6,6,6,6,7,7,7,7,7,7,7,7,7,7,7,7,7,7,7,7,7,7,7,7,7,7,7,7,7,7,7,7,7,7,7,7,7,7,7,7,7,7,7,7,7,7,7,7,7,7,7,7,7,7,7,7,7,7,7,7,7,7,7,7,7,7,7,7,8,8,8,8,8,8,8,8,8,8,8,8,8,8,8,8,8,8,8,8,8,8,8,8,8,8,8,8,8,8,8,8,8,8,8,8,8,8,8,8,8,8,8,8,8,8,8,8,8,8,8,8,8,8,8,8,8,8,8,8,8,8,8,8,8,8,8,8,8,8,8,8,8,8,8,8,8,8,8,8,8,8,8,8,8,8,8,8,8,8,8,8,8,8,8,8,8,8,8,8,8,8,8,8,8,8,8,8,8,8,8,8,8,8,8,8,8,8,8,8,8,8,8,8,8,8,8,8]⟩:ByteArray).data.toList.getD ((IntKind.u8.wrap (b2.1)).toNat) 0).toNat:Int))))))
def bits_Len64 (x_:Int):Int:=(ym x_).val
theorem zgh (x_:Int) (hP:0 < x_∧x_ < 18446744073709551616):(ym x_).pst (fun (x:Int)=>1≤x∧x≤64∧2 ^ (x.toNat - 1)≤x_∧x_ < 2 ^ x.toNat):=by
 refine Sk.pst_of _ ?_
 unfold ym
 simp only [Sk.pstq,Sk.isLoop,reduceCtorEq,ON,kk,maxLen]
 simp only [zoe,zrw,zst,jj (n:=(32:Int)) (by decide) (by decide)] at *
 refine ⟨⟨fun hc _=>?_,fun hc=>?_⟩,fun b _ hb=>⟨⟨fun hc _=>?_,fun hc=>?_⟩,fun d _ hd=>⟨fun hc _ _=>?_,fun hc _=>?_⟩⟩⟩
 all_goals simp only [LN] at hc
 ·(try simp only [true_or,or_true,and_true,true_and]); omega
 ·(try simp only [true_or,or_true,and_true,true_and]); omega
 ·have e:w64 (b.2+16)=b.2+16:=jj (by omega) (by omega)
  rw [e]
  omega
 ·omega
 ·rw [zju,Int.emod_eq_of_lt (by omega) (by omega),zpL _ (by omega)]
  have ht:=zp3 (x:=d.1 / 256) (by omega) (by omega)
  rw [jj (n:=d.2+8) (by omega) (by omega),jj (n:=((T8.getD (d.1 / 256).toNat 0:Nat):Int)) (by omega) (by omega),jj (by omega) (by omega)]
  rcases hd.2.2.2 with ⟨h1,h2⟩ | ⟨h1,h2⟩ | ⟨h1,h2⟩ | ⟨h1,h2⟩
  ·exact Yc (n:=8) (d:=256) (t:=T8.getD (d.1 / 256).toNat 0) (by decide) (by rw [← h2]; exact ht.2.2.1) (by rw [← h2]; exact ht.2.2.2) ht.1 ht.2.1 (by omega) (by omega)
  ·exact Yc (n:=24) (d:=16777216) (t:=T8.getD (d.1 / 256).toNat 0) (by decide) (by rw [show x_ / 16777216=d.1 / 256 by omega]; exact ht.2.2.1) (by rw [show x_ / 16777216=d.1 / 256 by omega]; exact ht.2.2.2) ht.1 ht.2.1 (by omega) (by omega)
  ·exact Yc (n:=40) (d:=1099511627776) (t:=T8.getD (d.1 / 256).toNat 0) (by decide) (by rw [show x_ / 1099511627776=d.1 / 256 by omega]; exact ht.2.2.1) (by rw [show x_ / 1099511627776=d.1 / 256 by omega]; exact ht.2.2.2) ht.1 ht.2.1 (by omega) (by omega)
  ·exact Yc (n:=56) (d:=72057594037927936) (t:=T8.getD (d.1 / 256).toNat 0) (by decide) (by rw [show x_ / 72057594037927936=d.1 / 256 by omega]; exact ht.2.2.1) (by rw [show x_ / 72057594037927936=d.1 / 256 by omega]; exact ht.2.2.2) ht.1 ht.2.1 (by omega) (by omega)
 ·rw [zju,Int.emod_eq_of_lt (by omega) (by omega),zpL _ (by omega)]
  have ht:=zp3 (x:=d.1) (by omega) (by omega)
  rw [jj (n:=((T8.getD d.1.toNat 0:Nat):Int)) (by omega) (by omega),jj (by omega) (by omega)]
  rcases hd.2.2.2 with ⟨h1,h2⟩ | ⟨h1,h2⟩ | ⟨h1,h2⟩ | ⟨h1,h2⟩
  ·exact Yc (n:=0) (d:=1) (t:=T8.getD d.1.toNat 0) (by decide) (by rw [show x_ / 1=d.1 by omega]; exact ht.2.2.1) (by rw [show x_ / 1=d.1 by omega]; exact ht.2.2.2) ht.1 ht.2.1 (by omega) (by omega)
  ·exact Yc (n:=16) (d:=65536) (t:=T8.getD d.1.toNat 0) (by decide) (by rw [← h2]; exact ht.2.2.1) (by rw [← h2]; exact ht.2.2.2) ht.1 ht.2.1 (by omega) (by omega)
  ·exact Yc (n:=32) (d:=4294967296) (t:=T8.getD d.1.toNat 0) (by decide) (by rw [← h2]; exact ht.2.2.1) (by rw [← h2]; exact ht.2.2.2) ht.1 ht.2.1 (by omega) (by omega)
  ·exact Yc (n:=48) (d:=281474976710656) (t:=T8.getD d.1.toNat 0) (by decide) (by rw [← h2]; exact ht.2.2.1) (by rw [← h2]; exact ht.2.2.2) ht.1 ht.2.1 (by omega) (by omega)
theorem zdW (x_:Int):(fun (x:Int)=>(0 < x_∧x_ < 18446744073709551616)→(1≤x∧x≤64∧2 ^ (x.toNat - 1)≤x_∧x_ < 2 ^ x.toNat)) (bits_Len64 x_):=fun hP=>Sk.pval _ (zgh x_ hP)
theorem zh8 (x_:Int) (hx:0≤x_∧x_ < 18446744073709551616):(ym x_).obs (fun _=>True):=by
 refine Sk.obs_of _ ?_
 unfold ym
 simp only [Sk.obq,Sk.isLoop,reduceCtorEq,ON,kk,maxLen]
 simp only [zoe,zrw,zst,jj (n:=(32:Int)) (by decide) (by decide)] at *
 refine ⟨⟨fun hc=>⟨by decide,fun _=>?_⟩,fun hc=>?_⟩,fun b _ hb=>⟨⟨fun hc=>⟨by decide,fun _=>?_⟩,fun hc=>?_⟩,fun d _ hd=>⟨fun hc=>⟨by decide,fun _=>⟨?_,?_⟩⟩,fun hc=>⟨?_,?_⟩⟩⟩⟩
 all_goals simp only [LN] at hc
 ·(try simp only [true_or,or_true,and_true,true_and]); omega
 ·(try simp only [true_or,or_true,and_true,true_and]); omega
 ·have e:w64 (b.2+16)=b.2+16:=jj (by omega) (by omega)
  rw [e]
  omega
 ·omega
 ·rw [zju]; omega
 ·rw [zju,Int.emod_eq_of_lt (by omega) (by omega)]; exact (show _ < ((256:Nat):Int) by omega)
 ·rw [zju]; omega
 ·rw [zju,Int.emod_eq_of_lt (by omega) (by omega)]; exact (show _ < ((256:Nat):Int) by omega)
def WN (x_:Int):Ctr (Int):=kk tok mixed Tryz.func241 [.d (.v (.int .u64 x_))] (fun x=>iv x) true (ym x_) (bits_Len64 x_) (fun (h:(0≤x_∧x_ < 18446744073709551616))=>zh8 x_ h) (fun (x:Int)=>(0 < x_∧x_ < 18446744073709551616)→(1≤x∧x≤64∧2 ^ (x.toNat - 1)≤x_∧x_ < 2 ^ x.toNat)) (zdW x_)
def kS (x_:Int):Sk (Int) :=
 .r 1 ((WN x_).c) fun x1 =>
 .fin (w64 ((64:Int) - x1))
def bits_LeadingZeros64 (x_:Int):Int:=(kS x_).val
theorem Gv (x_:Int) (hP:0 < x_∧x_ < 18446744073709551616):(kS x_).pst (fun (x:Int)=>0≤x∧x≤63∧9223372036854775808≤x_ * 2 ^ x.toNat∧x_ * 2 ^ x.toNat < 18446744073709551616):=by
 refine Sk.pst_of _ ?_
 unfold kS
 simp only [Sk.pstq,Sk.isLoop,reduceCtorEq,ON,kk,WN,maxLen]
 intro x _ h
 obtain ⟨h1,h2,h3,h4⟩:=h hP
 rw [jj (by omega) (by omega)]
 have e1:x.toNat - 1+(64 - x).toNat=63:=by omega
 have e2:x.toNat+(64 - x).toNat=64:=by omega
 have p:(0:Int) < 2 ^ (64 - x).toNat:=Int.pow_pos (by omega)
 have q1:=Int.mul_le_mul_of_nonneg_right h3 (Int.le_of_lt p)
 have q2:=Int.mul_lt_mul_of_pos_right h4 p
 rw [← Int.pow_add,e1] at q1
 rw [← Int.pow_add,e2] at q2
 refine ⟨by omega,by omega,?_,?_⟩
 ·exact q1
 ·exact q2
theorem Yu (x_:Int):(fun (x:Int)=>(0 < x_∧x_ < 18446744073709551616)→(0≤x∧x≤63∧9223372036854775808≤x_ * 2 ^ x.toNat∧x_ * 2 ^ x.toNat < 18446744073709551616)) (bits_LeadingZeros64 x_):=fun hP=>Sk.pval _ (Gv x_ hP)
theorem Wf (x_:Int) (hx:0≤x_∧x_ < 18446744073709551616):(kS x_).obs (fun _=>True):=by
 unfold kS
 try simp only [WN]
 exact okD
def yx (x_:Int):Ctr (Int):=kk tok mixed Tryz.func246 [.d (.v (.int .u64 x_))] (fun x=>iv x) true (kS x_) (bits_LeadingZeros64 x_) (fun (h:(0≤x_∧x_ < 18446744073709551616))=>Wf x_ h) (fun (x:Int)=>(0 < x_∧x_ < 18446744073709551616)→(0≤x∧x≤63∧9223372036854775808≤x_ * 2 ^ x.toNat∧x_ * 2 ^ x.toNat < 18446744073709551616)) (Yu x_)
end
end Go.Proofs.YtilbddpghnnmhaaGreatDoor
