/- Functions, as sketches. -/
import Derived.Test.YtilbddpghnnmhaaGreatDoorSa5
namespace Go.Proofs.YtilbddpghnnmhaaGreatDoor
noncomputable section
open Go Go.Av
set_option linter.unusedSimpArgs false
set_option linter.unusedVariables false
set_option maxHeartbeats 1000000
set_option maxRecDepth 100000
def yC (t:jm):Sk (Int × Int) :=
 .r 1 ((Uq t 1).c) fun x1 =>
 .br (decide (x1 > 60))
 (.fin (0,6))
 (.r 3 ((WD t).c) fun x2 =>
 .fin (x2.1,x2.2))
def zf6 (t:jm):Int × Int:=(yC t).val
def jm.Right (t:jm):Prop:=(∃ k,TyT t k)∧t.depth≤8
theorem zgf (t:jm):(yC t).pst (fun (x:Int × Int)=>x.2=0→TyT t x.1∧t.depth≤8):=by
 refine Sk.pst_of _ ?_
 unfold yC
 simp only [Sk.pstq,Sk.isLoop,reduceCtorEq,false_implies,Qy,zL,Cal.z,Cal.p,Cal.t,Cal.pt,Cal.o,Cal.and,Cal.andl,Cal.andr,Cal.wh,Cal.dep,Cal.depr,Ctr.c,kk,Ctr.nil,Ctr.nilc,vT.c,vT.nil,Uq,WD,forall_eq,forall_const]
 have hm:=ZU _ t 1 (Nat.le_refl _) (by omega) (by omega)
 have hc:=GK _ t (Nat.le_refl _)
 refine ⟨fun _ h=>absurd h (by decide),fun c h=>⟨hc h,?_⟩⟩
 simp only [decide_eq_false_iff_not] at c
 have:jN t.depth t 1≤60:=Int.not_lt.1 c
 have:=hm.2.2.1 this
 omega
theorem zdV (t:jm):(fun (x:Int × Int)=>x.2=0→TyT t x.1∧t.depth≤8) (zf6 t):=have h:=Sk.pval _ (zgf t); h
theorem zia (t:jm):(yC t).obs (fun _=>True):=by
 refine Sk.obs_of _ ?_
 unfold yC
 simp only [Sk.obq,Sk.isLoop,reduceCtorEq,ON,kk,WD,Uq,maxLen]
 exact fun x hx h=>(ZU _ t 1 (Nat.le_refl _) (by omega) (by omega)).2.2.2 (by subst hx; simp only [LN] at h; exact h)
def VH (t:jm):Ctr (Int × Int):=kk tok mixed Tryz.func141 [av t.cells] (fun x=>.tup [iv x.1,iv x.2]) true (yC t) (zf6 t) (fun (_:True)=>zia t) (fun (x:Int × Int)=>x.2=0→TyT t x.1∧t.depth≤8) (zdV t)
def Zg (o:qv) (ask:Int):Sk (jm × Int) :=
 .r 1 ((yq ask).c) fun x1 =>
 .br (!x1.2)
 (.fin (({ op:=0,n:=0,args:=[] }:jm),1))
 (.r 4 ((KW o.rules ask).c) fun x2 =>
 .br (decide (x2 < 0))
 (.fin (({ op:=0,n:=0,args:=[] }:jm),4))
 (.r 7 (.p (ixP x2 o.rules.length)) fun _ =>
 .r 8 ((VH ((o.rules.getD x2.toNat default).term)).c) fun x3 =>
 .br ((x3.2 != 0)||(x3.1 != x1.1))
 (.fin (({ op:=0,n:=0,args:=[] }:jm),11))
 (.fin ((o.rules.getD x2.toNat default).term,0))))
def znZ (o:qv) (ask:Int):jm × Int:=(Zg o ask).val
theorem ziL (o:qv) (ask:Int):(Zg o ask).obs (fun _=>True):=by
 unfold Zg
 try simp only [yq,KW,VH]
 exact okD
def zbf (o:qv) (ask:Int):Ctr (jm × Int):=kk tok mixed Tryz.func112 [av o.cells,iv ask] (fun x=>.tup [av x.1.cells,iv x.2]) false (Zg o ask) (znZ o ask) (fun (_:True)=>ziL o ask)
structure Machine where
 cells_:List jq
 deriving Inhabited
def Machine.cells (c:Machine):List D:=[slD jq.cells c.cells_]
def Machine.E:Enc Machine:=⟨Machine.cells,1,fun _=>rfl,fun _=>rfl⟩
def Yu (is_:Bool):Sk (jq) :=
 .br is_
 (.fin ({ known:=true,n:=1 }:jq))
 (.fin ({ known:=true,n:=0 }:jq))
def Gt (is_:Bool):jq:=(Yu is_).val
theorem zms (is_:Bool):(Yu is_).obs (fun _=>True):=by
 unfold Yu
 exact okE
def zB (is_:Bool):Ctr (jq):=kk tok mixed Tryz.func208 [bv is_] (fun x=>av x.cells) true (Yu is_) (Gt is_) (fun (_:True)=>zms is_)
def qW (m:Machine) (v:Int):Sk (jq) :=
 .r 1 (.wh (decide (v≥((m.cells_.length:Nat):Int))) false (.p (ixP v m.cells_.length))) fun _ =>
 .br ((decide (v≥((m.cells_.length:Nat):Int)))||(!((m.cells_.getD v.toNat default).known)))
 (.fin ({ known:=false,n:=0 }:jq))
 (.r 3 ((uF v).c) fun x1 =>
 .br (x1.1 == 1)
 (.r 5 (.andl (.p (ixP v m.cells_.length)) ((zB (((m.cells_.getD v.toNat default).n) != 0)).c)) fun x2 =>
 .fin x2)
 (.r 6 (.andl (.p (ixP v m.cells_.length)) ((uf ((m.cells_.getD v.toNat default).n)).c)) fun x3 =>
 .fin ({ known:=true,n:=x3 }:jq)))
def zV (m:Machine) (v:Int):jq:=(qW m v).val
theorem Xs (m:Machine) (v:Int) (hv:0≤v):(qW m v).obs (fun _=>True):=by
 unfold qW
 try simp only [uF,uf,zB,Zw]
 exact okG
def ZD (m:Machine) (v:Int):Ctr (jq):=kk tok mixed Tryz.func173 [av [slD jq.cells m.cells_],iv v] (fun x=>av x.cells) true (qW m v) (zV m v) (fun (h:(0≤v))=>Xs m v h)
theorem zgA {a:Int} (h0:0≤a) (h1:a < 18446744073709551616):qg .u64 a 4294967295=a % 4294967296:=by
 obtain ⟨a,rfl⟩:=Int.eq_ofNat_of_zero_le h0
 unfold qg
 have h2:(BitVec.ofInt IntKind.u64.bits ((a:Nat):Int) &&& BitVec.ofInt IntKind.u64.bits 4294967295).toNat=a % 4294967296:=by
  have e:(4294967295:Int)=((4294967295:Nat):Int):=rfl
  rw [e,BitVec.toNat_and,BitVec.ofInt_natCast,BitVec.ofInt_natCast,BitVec.toNat_ofNat,BitVec.toNat_ofNat]
  have hb:IntKind.u64.bits=64:=rfl
  rw [hb,Nat.mod_eq_of_lt (by omega),Nat.mod_eq_of_lt (by omega)]
  exact Nat.and_two_pow_sub_one_eq_mod a 32
 rw [h2,qI (by omega) (by omega)]
 omega
theorem zq3 {x y:Int} (hx:0≤x∧x < 18446744073709551616) (hy:0≤y∧y < 18446744073709551616) :
  IntKind.u64.wrap ((IntKind.u64.wrap ((IntKind.u64.wrap ((qa .u64 x 32) * (qa .u64 y 32)))+(qa .u64 (IntKind.u64.wrap ((IntKind.u64.wrap ((qa .u64 x 32) * (qg .u64 y 4294967295)))+(qa .u64 (IntKind.u64.wrap ((qg .u64 x 4294967295) * (qg .u64 y 4294967295))) 32))) 32)))+(qa .u64 (IntKind.u64.wrap ((qg .u64 (IntKind.u64.wrap ((IntKind.u64.wrap ((qa .u64 x 32) * (qg .u64 y 4294967295)))+(qa .u64 (IntKind.u64.wrap ((qg .u64 x 4294967295) * (qg .u64 y 4294967295))) 32))) 4294967295)+(IntKind.u64.wrap ((qg .u64 x 4294967295) * (qa .u64 y 32))))) 32)) * 18446744073709551616+IntKind.u64.wrap (x * y)=x * y:=by
 have s32:∀ a:Int,qa .u64 a 32=a / 4294967296:=fun a=>zcG .u64 (b:=32) (by decide)
 have ax:=zgA hx.1 hx.2
 have ay:=zgA hy.1 hy.2
 rw [zgA (uk _).1 (uk _).2,ax,ay,s32,s32,s32,s32,s32]
 have bd:∀ a b:Int,0≤a∧a < 4294967296→0≤b∧b < 4294967296→0≤a * b∧a * b≤18446744065119617025:=fun a b ha hb =>
  ⟨Int.mul_nonneg ha.1 hb.1,by have:=Int.mul_le_mul (show a≤4294967295 by omega) (show b≤4294967295 by omega) hb.1 (by omega); omega⟩
 have hx1:0≤x / 4294967296∧x / 4294967296 < 4294967296:=by omega
 have hx0:0≤x % 4294967296∧x % 4294967296 < 4294967296:=by omega
 have hy1:0≤y / 4294967296∧y / 4294967296 < 4294967296:=by omega
 have hy0:0≤y % 4294967296∧y % 4294967296 < 4294967296:=by omega
 have b11:=bd _ _ hx1 hy1
 have b10:=bd _ _ hx1 hy0
 have b01:=bd _ _ hx0 hy1
 have b00:=bd _ _ hx0 hy0
 have e:x * y=(x / 4294967296) * (y / 4294967296) * 18446744073709551616+((x / 4294967296) * (y % 4294967296)+(x % 4294967296) * (y / 4294967296)) * 4294967296+(x % 4294967296) * (y % 4294967296):=by
  have ex:x=x / 4294967296 * 4294967296+x % 4294967296:=by omega
  have ey:y=y / 4294967296 * 4294967296+y % 4294967296:=by omega
  generalize x / 4294967296=x1 at ex ⊢
  generalize x % 4294967296=x0 at ex ⊢
  generalize y / 4294967296=y1 at ey ⊢
  generalize y % 4294967296=y0 at ey ⊢
  subst ex; subst ey
  have a1:x1 * 4294967296 * (y1 * 4294967296)=x1 * y1 * 18446744073709551616:=by rw [Int.mul_assoc,Int.mul_left_comm 4294967296 y1,← Int.mul_assoc]; rfl
  have a2:x1 * 4294967296 * y0=x1 * y0 * 4294967296:=Int.mul_right_comm _ _ _
  have a3:x0 * (y1 * 4294967296)=x0 * y1 * 4294967296:=(Int.mul_assoc _ _ _).symm
  rw [Int.add_mul,Int.mul_add,Int.mul_add,a1,a2,a3,Int.add_mul]
  omega
 rw [e]
 generalize x / 4294967296 * (y / 4294967296)=p11 at *
 generalize x / 4294967296 * (y % 4294967296)=p10 at *
 generalize x % 4294967296 * (y / 4294967296)=p01 at *
 generalize x % 4294967296 * (y % 4294967296)=p00 at *
 simp only [zha]
 omega
def yJ (x_:Int) (y:Int):Sk (Int × Int) :=
 .r 2 (.p (0≤(32:Int))) fun _ =>
 .r 4 (.p (0≤(32:Int))) fun _ =>
 .r 6 (.p (0≤(32:Int))) fun _ =>
 .r 8 (.p (0≤(32:Int))) fun _ =>
 .r 10 (.p (0≤(32:Int))) fun _ =>
 .fin (IntKind.u64.wrap ((IntKind.u64.wrap ((IntKind.u64.wrap ((qa .u64 x_ 32) * (qa .u64 y 32)))+(qa .u64 (IntKind.u64.wrap ((IntKind.u64.wrap ((qa .u64 x_ 32) * (qg .u64 y 4294967295)))+(qa .u64 (IntKind.u64.wrap ((qg .u64 x_ 4294967295) * (qg .u64 y 4294967295))) 32))) 32)))+(qa .u64 (IntKind.u64.wrap ((qg .u64 (IntKind.u64.wrap ((IntKind.u64.wrap ((qa .u64 x_ 32) * (qg .u64 y 4294967295)))+(qa .u64 (IntKind.u64.wrap ((qg .u64 x_ 4294967295) * (qg .u64 y 4294967295))) 32))) 4294967295)+(IntKind.u64.wrap ((qg .u64 x_ 4294967295) * (qa .u64 y 32))))) 32)),IntKind.u64.wrap (x_ * y))
def bits_Mul64 (x_:Int) (y:Int):Int × Int:=(yJ x_ y).val
theorem zgl (x_:Int) (y:Int) (hP:(0≤x_∧x_ < 18446744073709551616)∧0≤y∧y < 18446744073709551616):(yJ x_ y).pst (fun (x:Int × Int)=>(0≤x.1∧x.1 < 18446744073709551616)∧(0≤x.2∧x.2 < 18446744073709551616)∧x.1 * 18446744073709551616+x.2=x_ * y):=by
 refine Sk.pst_of _ ?_
 unfold yJ
 simp only [Sk.pstq,Sk.isLoop,reduceCtorEq,ON,kk,maxLen]
 intro _ _ _ _ _
 exact ⟨uk _,uk _,zq3 hP.1 hP.2⟩
theorem zd8 (x_:Int) (y:Int):(fun (x:Int × Int)=>((0≤x_∧x_ < 18446744073709551616)∧0≤y∧y < 18446744073709551616)→((0≤x.1∧x.1 < 18446744073709551616)∧(0≤x.2∧x.2 < 18446744073709551616)∧x.1 * 18446744073709551616+x.2=x_ * y)) (bits_Mul64 x_ y):=fun hP=>Sk.pval _ (zgl x_ y hP)
theorem ziG (x_:Int) (y:Int):(yJ x_ y).obs (fun _=>True):=by
 unfold yJ
 exact okD
def vO (x_:Int) (y:Int):Ctr (Int × Int):=kk tok mixed Tryz.func227 [.d (.v (.int .u64 x_)),.d (.v (.int .u64 y))] (fun x=>.tup [.d (.v (.int .u64 x.1)),.d (.v (.int .u64 x.2))]) true (yJ x_ y) (bits_Mul64 x_ y) (fun (_:True)=>ziG x_ y) (fun (x:Int × Int)=>((0≤x_∧x_ < 18446744073709551616)∧0≤y∧y < 18446744073709551616)→((0≤x.1∧x.1 < 18446744073709551616)∧(0≤x.2∧x.2 < 18446744073709551616)∧x.1 * 18446744073709551616+x.2=x_ * y)) (zd8 x_ y)
def Kj (a:Int) (b:Int):Sk (Int) :=
 .r 1 ((vO (IntKind.u64.wrap (ki a (w64 (0 - a)))) (IntKind.u64.wrap (ki b (w64 (0 - b))))).c) fun x1 =>
 .bind false (fun _=>True)
 (.br ((x1.1 == 0)&&(decide (x1.2 < 1099511627776)))
 (.fin (.inr (w64 (x1.2))))
 (.fin (.inr 1099511627776)))
 (fun (b2:Int)=>⟨[(7,iv b2)],[]⟩) fun b2 =>
 .br (!((decide (a < 0)) == (decide (b < 0))))
 (.fin (w64 (0 - b2)))
 (.fin b2)
def zjN (a:Int) (b:Int):Int:=(Kj a b).val
theorem zdR (a:Int) (b:Int):(Kj a b).obs (fun _=>True):=by
 unfold Kj
 try simp only [vO]
 exact okE
def HM (a:Int) (b:Int):Ctr (Int):=kk tok mixed Tryz.func230 [iv a,iv b] (fun x=>iv x) true (Kj a b) (zjN a b) (fun (_:True)=>zdR a b)
def ym (op:Int) (a:Int) (b:Int):Sk (Int) :=
 .br (op == 9)
 (.r 3 ((uf (w64 (a+b))).c) fun x1 =>
 .fin x1)
 (.br (op == 10)
 (.r 5 ((uf (w64 (a - b))).c) fun x2 =>
 .fin x2)
 (.br (op == 11)
 (.r 7 ((HM a b).c) fun x3 =>
 .fin x3)
 (.br (op == 12)
 (.fin (qO a b))
 (.fin (ki a b)))))
def Xh (op:Int) (a:Int) (b:Int):Int:=(ym op a b).val
theorem Bl (op:Int) (a:Int) (b:Int):(ym op a b).obs (fun _=>True):=by
 unfold ym
 try simp only [uf,HM,Zw]
 exact okG
def KO (op:Int) (a:Int) (b:Int):Ctr (Int):=kk tok mixed Tryz.func210 [iv op,iv a,iv b] (fun x=>iv x) true (ym op a b) (Xh op a b) (fun (_:True)=>Bl op a b)
def qP (op:Int) (l:List jq):Sk (jq) :=
 .bind true (fun b1=>op≠3∧op≠6)
 (.br (op == 3)
 (.r 3 (.p (ixP (0:Int) l.length)) fun _ =>
 .br ((l.getD 0 default).known)
 (.r 4 (.andl (.p (ixP (0:Int) l.length)) ((zB (((l.getD 0 default).n) == 0)).c)) fun x2 =>
 .fin (.inl x2))
 (.fin (.inl ({ known:=false,n:=0 }:jq))))
 (.bind false (fun b3=>b3=(op == 4||op == 5))
 (.br (op == 4)
 (.fin (.inr (op == 4)))
 (.fin (.inr (op == 5))))
 (fun (b3:Bool)=>⟨[(22,bv b3)],[]⟩) fun b3 =>
 .br b3
 (.r 8 ((zB (op == 5)).c) fun x4 =>
 .r 9 (.andl (.p (ixP (0:Int) l.length)) (.wh ((((l.getD 0 default).known) == x4.known)&&((((l.getD 0 default).n) == x4.n)&&true)) false (.p (ixP (1:Int) l.length)))) fun _ =>
 .br (((((l.getD 0 default).known) == x4.known)&&((((l.getD 0 default).n) == x4.n)&&true))||((((l.getD 1 default).known) == x4.known)&&((((l.getD 1 default).n) == x4.n)&&true)))
 (.fin (.inl x4))
 (.fin (.inr ())))
 (.br (op == 6)
 (.r 12 (.andl (.p (ixP (1:Int) l.length)) (.andl (.wh ((l.getD 1 default).known) true (.p (ixP (1:Int) l.length))) (.wh ((l.getD 1 default).known) true (.p (ixP (2:Int) l.length))))) fun _ =>
 .br (((l.getD 1 default).known)&&((((l.getD 1 default).known) == ((l.getD 2 default).known))&&((((l.getD 1 default).n) == ((l.getD 2 default).n))&&true)))
 (.r 13 (.p (ixP (1:Int) l.length)) fun _ =>
 .fin (.inl (l.getD 1 default)))
 (.fin (.inl ({ known:=false,n:=0 }:jq))))
 (.fin (.inr ())))))
 (fun (_:Unit)=>⟨[],[]⟩) fun _ =>
 .r 15 (.andl (.p (ixP (0:Int) l.length)) (.wh (!((l.getD 0 default).known)) false (.p (ixP (1:Int) l.length)))) fun _ =>
 .br ((!((l.getD 0 default).known))||(!((l.getD 1 default).known)))
 (.fin ({ known:=false,n:=0 }:jq))
 (.r 17 (.andl (.p (ixP (0:Int) l.length)) (.p (ixP (1:Int) l.length))) fun _ =>
 .bind false (fun _=>True)
 (.br (op == 4)
 (.fin (.inr (op == 4)))
 (.fin (.inr (op == 5))))
 (fun (b5:Bool)=>⟨[(82,bv b5)],[]⟩) fun b5 =>
 .br b5
 (.r 21 ((zB (op == 4)).c) fun x6 =>
 .fin x6)
 (.br (op == 7)
 (.r 23 ((zB (decide (((l.getD 0 default).n) < ((l.getD 1 default).n)))).c) fun x7 =>
 .fin x7)
 (.br (op == 8)
 (.r 25 ((zB (((l.getD 0 default).n) == ((l.getD 1 default).n))).c) fun x8 =>
 .fin x8)
 (.r 26 ((KO op ((l.getD 0 default).n) ((l.getD 1 default).n)).c) fun x9 =>
 .fin ({ known:=true,n:=x9 }:jq)))))
def kI (op:Int) (l:List jq):jq:=(qP op l).val
theorem zen (op:Int) (l:List jq) (ha:(op=3∧1≤l.length)∨(op=6∧3≤l.length)∨(op≠3∧op≠6∧2≤l.length)):(qP op l).obs (fun _=>True):=by
 unfold qP
 try simp only [KO,zB]
 exact okD
def XI (op:Int) (l:List jq):Ctr (jq):=kk tok mixed Tryz.func174 [iv op,lv jq.cells l] (fun x=>av x.cells) true (qP op l) (kI op l) (fun (h:((op=3∧1≤l.length)∨(op=6∧3≤l.length)∨(op≠3∧op≠6∧2≤l.length)))=>zen op l h)
def zc (n:Int):Sk ((List Int)) :=
 .bind false (fun _=>True)
 (.br (decide (n < 0))
 (.dead default)
 (.fin (.inr ())))
 (fun (_:Unit)=>⟨[],[]⟩) fun _ =>
 .br (decide ((w64 (n - (w64 ((0:Int) - 0)))) > 0))
 (.r 5 (.andl (.p (0≤(0:Int)∧(0:Int)≤0)) (.andl (.andl (.o [.nrm (mkC kA ((w64 (n - (w64 ((0:Int) - 0)))).toNat) (0:Int))]) (.p (mkP (w64 (n - (w64 ((0:Int) - 0)))) 8))) (.andl (.o [.nrm (zsI kA (List.replicate ((w64 (n - (w64 ((0:Int) - 0)))).toNat) (0:Int)) 0)]) (.p (0≤(0:Int)∧0≤(((List.replicate ((w64 (n - (w64 ((0:Int) - 0)))).toNat) (0:Int)).length:Nat):Int)))))) fun _ =>
 .fin (uZ (List.replicate ((w64 (n - (w64 ((0:Int) - 0)))).toNat) (0:Int)) 0 0))
 (.fin [])
def JN (n:Int):(List Int):=(zc n).val
theorem FF (n:Int):(zc n).pst (fun (x:(List Int))=>x=[]):=by
 unfold zc
 exact okP
theorem Hd (n:Int):(fun (x:(List Int))=>x=[]) (JN n):=have h:=Sk.pval _ (FF n); h
theorem Bn (n:Int) (hn:0≤n∧n≤1000000000):(zc n).obs (fun _=>True):=by
 unfold zc
 exact okD
theorem FP (n:Int) (hn:0≤n∧n≤1000000000):FnA Tryz.prog 211 [nv,iv n] [] (ow 777777 (JN n)) [(777777,jz 3 1 jC (JN n))] :=
 FnA.sk tok mixed (fun x=>ow 777777 x) (fun x=>[(777777,jz 3 1 jC x)]) Tryz.func211 rfl (by kernel_rfl) 3000 (zc n) (by kernel_rfl) (Bn n hn)
def Kr (κ:Nat) (n:Int):vT ((List Int)):=⟨Tryz.prog,211,[nv,iv n],fun x=>ow κ x,fun x=>[(κ,jz 3 1 jC x)],JN n,(0≤n∧n≤1000000000),fun h=>FnA.rekey κ (FP n h),fun (x:(List Int))=>x=[],Hd n⟩
theorem zb4 {α:Type} [Inhabited α] (l:List (List α)) (n:Nat) (h:n < l.length):(l.take (n+1)).flatten=(l.take n).flatten++l.getD n default:=by
 rw [List.take_succ_eq_append_getElem h,List.flatten_append]
 simp only [List.getD,h,List.getElem?_eq_getElem,Option.getD_some,List.flatten_cons,List.flatten_nil,List.append_nil]
theorem zkU {α:Type} [Inhabited α] (l:List (List α)) (B:Nat) (h:∀ i,i < l.length→(l.getD i default).length≤B):∀ n,n≤l.length→(l.take n).flatten.length≤B * n
 | 0,_=>by simp
 | n+1,hn=>by
  have:=zkU l B h n (by omega)
  rw [zb4 l n (by omega),List.length_append,Nat.mul_add]
  have:=h n (by omega)
  omega
def zQ (slices:List (List Int)):Sk ((List Int)) :=
 .bind true (fun b1=>(slices.length≤100∧∀ i,i < slices.length→(slices.getD i default).length≤1000000)→(0:Int)≤b1∧b1≤100000000)
 (.loop (default:Sum ((List Int)) (Int)) (fun i2=>(slices.length≤100∧∀ i,i < slices.length→(slices.getD i default).length≤1000000)→(0:Int)≤i2.1∧i2.1≤((1000000 * i2.2:Nat):Int)∧i2.2≤slices.length) (fun i2=>slices.length - i2.2) ((0,0):Int × Nat)
 (fun (i2:Int × Nat)=>⟨[(3,iv i2.1),(11,iv (i2.2:Int))],[]⟩) fun i2 =>
 .bnd 0 0 slices.length <|
 .br (decide ((i2.2:Int) < ((slices.length:Nat):Int)))
 (.r 4 (.p (ixP (i2.2:Int) slices.length)) fun _ =>
 .br (decide ((w64 (i2.1+(((slices.getD i2.2 default).length:Nat):Int))) < 0))
 (.dead default)
 (.r 8 .z fun _ =>
 .wi 11 (w64 ((i2.2:Int)+1)) ((i2.2+1:Nat):Int) <|
 .fin (.inr (w64 (i2.1+(((slices.getD i2.2 default).length:Nat):Int)),i2.2+1))))
 (.fin (.inl (.inr i2.1))))
 (fun (b1:Int)=>⟨[(3,iv b1)],[]⟩) fun b1 =>
 .r 9 ((Kr 24 b1).c) fun x3 =>
 .bind true (fun b4=>(slices.length≤100∧∀ i,i < slices.length→(slices.getD i default).length≤1000000)→b4=slices.flatten)
 (.loop (default:Sum ((List Int)) ((List Int))) (fun i5=>(slices.length≤100∧∀ i,i < slices.length→(slices.getD i default).length≤1000000)→i5.1=(slices.take i5.2).flatten∧i5.2≤slices.length) (fun i5=>slices.length - i5.2) ((x3,0):(List Int) × Nat)
 (fun (i5:(List Int) × Nat)=>⟨[(6,ow 100002 i5.1),(27,iv (i5.2:Int))],[(100002,jz 3 1 jC i5.1)]⟩) fun i5 =>
 .bnd 25 0 slices.length <|
 .br (decide ((i5.2:Int) < ((slices.length:Nat):Int)))
 (.r 12 (.p (ixP (i5.2:Int) slices.length)) fun _ =>
 .r 13 (.andl (.o [.nrm (gy kA i5.1 (slices.getD i5.2 default))]) (.andl (.t (kA.src (slices.getD i5.2 default))) (.p (szP i5.1.length (slices.getD i5.2 default).length 8)))) fun _ =>
 .r 14 .z fun _ =>
 .wi 27 (w64 ((i5.2:Int)+1)) ((i5.2+1:Nat):Int) <|
 .fin (.inr (i5.1++(slices.getD i5.2 default),i5.2+1)))
 (.fin (.inl (.inr i5.1))))
 (fun (b4:(List Int))=>⟨[(6,ow 100001 b4)],[(100001,jz 3 1 jC b4)]⟩) fun b4 =>
 .fin b4
def YA (slices:List (List Int)):(List Int):=(zQ slices).val
theorem zbe (slices:List (List Int)):(zQ slices).pst (fun (x:(List Int))=>(slices.length≤100∧∀ i,i < slices.length→(slices.getD i default).length≤1000000)→x=slices.flatten):=by
 refine Sk.pst_of _ ?_
 unfold zQ
 simp only [Sk.pstq,Sk.isLoop,reduceCtorEq,ON,kk,Kr,maxLen]
 refine ⟨⟨fun h=>⟨by omega,by omega,by omega⟩,fun i hi=>⟨fun hc _=>⟨fun hd=>?_,fun hd _=>⟨fun h=>?_,?_⟩⟩,fun hc h=>?_⟩⟩,fun b hb x _ hx=>⟨⟨fun h=>⟨by simp [hx],by omega⟩,fun i hi=>⟨fun hc _ _ _=>⟨fun h=>⟨?_,?_⟩,?_⟩,fun hc h=>?_⟩⟩,fun b hb=>hb⟩⟩
 all_goals (try simp only [LN] at hc)
 all_goals (try simp only [LN] at hd)
 ·show (slices.length≤100∧∀ (i:Nat),i < slices.length→(slices.getD i default).length≤1000000)→_
  intro h
  have h1:=hi h
  have h2:=h.2 i.2 (by omega)
  rw [jj (by omega) (by omega)] at hd
  omega
 ·have h1:=hi h
  have h2:=h.2 i.2 (by omega)
  rw [jj (by omega) (by omega)]
  omega
 ·omega
 ·have:=hi h
  omega
 ·rw [zb4 slices i.2 (by omega),(hi h).1]
 ·have:=hi h; omega
 ·omega
 ·have:=hi h
  rw [this.1,show i.2=slices.length by omega,List.take_length]
theorem Uy (slices:List (List Int)):(fun (x:(List Int))=>(slices.length≤100∧∀ i,i < slices.length→(slices.getD i default).length≤1000000)→x=slices.flatten) (YA slices):=have h:=Sk.pval _ (zbe slices); h
theorem zcH (slices:List (List Int)) (hn:(slices.length≤100∧∀ i,i < slices.length→(slices.getD i default).length≤1000000)):(zQ slices).obs (fun _=>True):=by
 refine Sk.obs_of _ ?_
 unfold zQ
 simp only [Sk.obq,Sk.isLoop,reduceCtorEq,ON,kk,Kr,maxLen]
 refine ⟨⟨fun h=>⟨by omega,by omega,by omega⟩,fun i hi hl=>⟨fun hc=>⟨⟨by omega,of_decide_eq_true hc⟩,fun _=>⟨fun hd=>?_,fun hd _=>⟨?_,⟨fun h=>?_,?_⟩⟩⟩⟩,fun hc h=>?_⟩⟩,fun b hb=>⟨?_,fun x _ hx=>⟨fun h=>⟨by simp [hx],by omega⟩,fun i hi hl=>⟨fun hc=>⟨⟨by omega,of_decide_eq_true hc⟩,fun _=>⟨?_,fun _ _=>⟨?_,⟨fun h=>⟨?_,?_⟩,?_⟩⟩⟩⟩,fun hc h=>?_⟩⟩⟩⟩
 all_goals (try simp only [LN] at hc)
 all_goals (try simp only [LN] at hd)
 ·have h1:=hi hn
  have h2:=hn.2 i.2 (by omega)
  rw [jj (by omega) (by omega)] at hd
  omega
 ·exact jj (by omega) (by omega)
 ·have h1:=hi h
  have h2:=h.2 i.2 (by omega)
  rw [jj (by omega) (by omega)]
  omega
 ·omega
 ·have:=hi h
  omega
 ·have:=hb hn; omega
 ·have h1:=hi hn
  have h2:=hn.2 i.2 (by omega)
  have h3:=zkU slices 1000000 hn.2 i.2 (by omega)
  rw [← h1.1] at h3
  omega
 ·exact jj (by omega) (by omega)
 ·rw [zb4 slices i.2 (by omega),(hi h).1]
 ·have:=hi h; omega
 ·omega
 ·have:=hi h
  rw [this.1,show i.2=slices.length by omega,List.take_length]
def Xf (slices:List (List Int)):Ctr ((List Int)):=kk tok mixed Tryz.func175 [lv (slE kA).cells slices] (fun x=>lv jC x) false (zQ slices) (YA slices) (fun (h:((slices.length≤100∧∀ i,i < slices.length→(slices.getD i default).length≤1000000)))=>zcH slices h) (fun (x:(List Int))=>(slices.length≤100∧∀ i,i < slices.length→(slices.getD i default).length≤1000000)→x=slices.flatten) (Uy slices)
def Vu (rv:Machine→jm→jq × (List Int)) (rp:Machine→jm→Prop) (rf:∀ (m:Machine) (t:jm),rp m t→FnA Tryz.prog 142 [av [slD jq.cells m.cells_],av t.cells] [] (.tup [av ((rv m t).1).cells,lv jC ((rv m t).2)]) []) (m:Machine) (t:jm):Ctr (jq × (List Int)):=⟨Tryz.prog,142,[av [slD jq.cells m.cells_],av t.cells],fun x=>.tup [av x.1.cells,lv jC x.2],false,rv m t,rp m t,rf m t,fun _=>True,trivial⟩
def qf (rv:Machine→jm→jq × (List Int)) (rp:Machine→jm→Prop) (rf:∀ (m:Machine) (t:jm),rp m t→FnA Tryz.prog 142 [av [slD jq.cells m.cells_],av t.cells] [] (.tup [av ((rv m t).1).cells,lv jC ((rv m t).2)]) []) (m:Machine) (t:jm):Sk (jq × (List Int)) :=
 .bind false (fun b1=>b1=(t.op == 0||t.op == 1))
 (.br (t.op == 0)
 (.fin (.inr (t.op == 0)))
 (.fin (.inr (t.op == 1))))
 (fun (b1:Bool)=>⟨[(15,bv b1)],[]⟩) fun b1 =>
 .br b1
 (.fin (({ known:=true,n:=t.n }:jq),[]))
 (.br (t.op == 2)
 (.r 6 ((ZD m t.n).c) fun x2 =>
 .br x2.known
 (.fin (x2,[]))
 (.r 9 (.o [.nrm (qk kA [t.n])]) fun _ =>
 .fin (({ known:=false,n:=0 }:jq),[t.n])))
 (.r 10 (.andl (.o [.nrm (mkC jq.E t.args.length ({ known:=false,n:=0 }:jq))]) (.p (mkP ((t.args.length:Nat):Int) 16))) fun _ =>
 .r 11 (.andl (.o [.nrm (mkN (slE kA) t.args.length ([]:List Int) [.v (.slice none 0 0)] (by kernel_rfl))]) (.p (mkP ((t.args.length:Nat):Int) 24))) fun _ =>
 .bind true (fun b3=>b3.1.length=t.args.length∧b3.2.length=t.args.length∧∀ q,q < t.args.length→b3.1.getD q default=(rv m (t.args.getD q default)).1∧b3.2.getD q default=(rv m (t.args.getD q default)).2)
 (.loop (default:Sum (jq × (List Int)) ((List jq) × (List (List Int)))) (fun i4=>i4.1.length=t.args.length∧i4.2.1.length=t.args.length∧i4.2.2≤t.args.length∧∀ q,q < i4.2.2→i4.1.getD q default=(rv m (t.args.getD q default)).1∧i4.2.1.getD q default=(rv m (t.args.getD q default)).2) (fun i4=>t.args.length - i4.2.2) ((List.replicate t.args.length ({ known:=false,n:=0 }:jq),List.replicate t.args.length ([]:List Int),0):(List jq) × (List (List Int)) × Nat)
 (fun (i4:(List jq) × (List (List Int)) × Nat)=>⟨[(7,ow 100004 i4.1),(8,ow 100005 i4.2.1),(45,iv (i4.2.2:Int))],[(100004,jz 95 2 jq.cells i4.1),(100005,jz 25 1 (slE kA).cells i4.2.1)]⟩) fun i4 =>
 .bnd 43 0 t.args.length <|
 .br (decide ((i4.2.2:Int) < ((t.args.length:Nat):Int)))
 (.r 14 (.andl (.p (ixP (i4.2.2:Int) t.args.length)) (.o [.cast 48 (zq8 (jm.unroll (t.args.getD i4.2.2 default)))])) fun _ =>
 .r 15 (.depr ((Vu rv rp rf m (t.args.getD i4.2.2 default)).c) fun x5=>.andl (.p (ixP (i4.2.2:Int) i4.1.length)) (.andl (.andl (.o [.nrm (VI jq.E i4.1 i4.2.2 x5.1)]) (.p (i4.2.2 < i4.1.length))) (.andl (.p (ixP (i4.2.2:Int) i4.2.1.length)) (.andl (.o [.nrm (VI (slE kA) i4.2.1 i4.2.2 x5.2)]) (.p (i4.2.2 < i4.2.1.length)))))) fun x5 =>
 .wn 100004 i4.1.length (i4.1.set i4.2.2 x5.1).length <|
 .wn 100005 i4.2.1.length (i4.2.1.set i4.2.2 x5.2).length <|
 .r 16 .z fun _ =>
 .wi 45 (w64 ((i4.2.2:Int)+1)) ((i4.2.2+1:Nat):Int) <|
 .fin (.inr (i4.1.set i4.2.2 x5.1,i4.2.1.set i4.2.2 x5.2,i4.2.2+1)))
 (.fin (.inl (.inr (i4.1,i4.2.1)))))
 (fun (b3:(List jq) × (List (List Int)))=>⟨[(7,ow 100002 b3.1),(8,ow 100003 b3.2)],[(100002,jz 95 2 jq.cells b3.1),(100003,jz 25 1 (slE kA).cells b3.2)]⟩) fun b3 =>
 .r 17 (.andl (.wh (t.op == 6) true (.p (ixP (0:Int) b3.1.length))) (.wh (t.op == 6) true (.p (0 < b3.1.length)))) fun _ =>
 .br ((t.op == 6)&&((b3.1.getD 0 default).known))
 (.r 18 (.andl (.p (ixP (0:Int) b3.1.length)) (.p (0 < b3.1.length))) fun _ =>
 .r 19 (.andl (.p (ixP (w64 ((2:Int) - ((b3.1.getD 0 default).n))) b3.1.length)) (.andl (.p ((w64 ((2:Int) - ((b3.1.getD 0 default).n))).toNat < b3.1.length)) (.andl (.p (ixP (w64 ((2:Int) - ((b3.1.getD 0 default).n))) b3.2.length)) (.p ((w64 ((2:Int) - ((b3.1.getD 0 default).n))).toNat < b3.2.length))))) fun _ =>
 .fin (b3.1.getD ((w64 ((2:Int) - ((b3.1.getD 0 default).n))).toNat) default,b3.2.getD ((w64 ((2:Int) - ((b3.1.getD 0 default).n))).toNat) default))
 (.r 20 ((XI t.op b3.1).c) fun x6 =>
 .br x6.known
 (.fin (x6,[]))
 (.fz 100003 <|
 .r 23 ((Xf b3.2).c) fun x7 =>
 .fin (({ known:=false,n:=0 }:jq),x7)))))
def jf:Nat→Machine→jm→jq × (List Int)
 | 0,_,_=>default
 | fu+1,m,t=>(qf (jf fu) (fun _ _=>False) (fun _ _=>fun h=>h.elim) m t).val
theorem zry (fu:Nat) (m:Machine) (n:Int):jf (fu+1) m ⟨0,n,[]⟩=(⟨true,n⟩,[]):=by kernel_rfl
theorem zp2 (fu:Nat) (m:Machine) (n:Int):jf (fu+1) m ⟨1,n,[]⟩=(⟨true,n⟩,[]):=by kernel_rfl
theorem zqX (fu:Nat) (m:Machine) (n:Int):jf (fu+1) m ⟨2,n,[]⟩=bif (zV m n).known then (zV m n,[]) else (⟨false,0⟩,[n]):=by kernel_rfl
def Vn (op:Int) (cs:List jq) (ns:List (List Int)):jq × List Int:=bif (kI op cs).known then (kI op cs,[]) else (⟨false,0⟩,YA ns)
theorem zrk (fu:Nat) (m:Machine) (n:Int) (a:jm):jf (fu+1) m ⟨3,n,[a]⟩=Vn 3 [(jf fu m a).1] [(jf fu m a).2]:=by kernel_rfl
theorem run_ite (fu:Nat) (m:Machine) (n:Int) (a b c:jm):jf (fu+1) m ⟨6,n,[a,b,c]⟩ = 
 (let x:=(jf fu m a); let y:=(jf fu m b); let z:=(jf fu m c);
  bif x.1.known then ([x.1,y.1,z.1].getD (w64 (2 - x.1.n)).toNat default,[x.2,y.2,z.2].getD (w64 (2 - x.1.n)).toNat default) else Vn 6 [x.1,y.1,z.1] [x.2,y.2,z.2]):=by kernel_rfl
theorem zqP (fu:Nat) (m:Machine) (n:Int) (a b:jm):jf (fu+1) m ⟨4,n,[a,b]⟩=Vn 4 [(jf fu m a).1,(jf fu m b).1] [(jf fu m a).2,(jf fu m b).2]:=by kernel_rfl
theorem zqA (fu:Nat) (m:Machine) (n:Int) (a b:jm):jf (fu+1) m ⟨5,n,[a,b]⟩=Vn 5 [(jf fu m a).1,(jf fu m b).1] [(jf fu m a).2,(jf fu m b).2]:=by kernel_rfl
theorem zpU (fu:Nat) (m:Machine) (n:Int) (a b:jm):jf (fu+1) m ⟨7,n,[a,b]⟩=Vn 7 [(jf fu m a).1,(jf fu m b).1] [(jf fu m a).2,(jf fu m b).2]:=by kernel_rfl
theorem zqh (fu:Nat) (m:Machine) (n:Int) (a b:jm):jf (fu+1) m ⟨8,n,[a,b]⟩=Vn 8 [(jf fu m a).1,(jf fu m b).1] [(jf fu m a).2,(jf fu m b).2]:=by kernel_rfl
theorem zqe (fu:Nat) (m:Machine) (n:Int) (a b:jm):jf (fu+1) m ⟨9,n,[a,b]⟩=Vn 9 [(jf fu m a).1,(jf fu m b).1] [(jf fu m a).2,(jf fu m b).2]:=by kernel_rfl
theorem zpB (fu:Nat) (m:Machine) (n:Int) (a b:jm):jf (fu+1) m ⟨10,n,[a,b]⟩=Vn 10 [(jf fu m a).1,(jf fu m b).1] [(jf fu m a).2,(jf fu m b).2]:=by kernel_rfl
theorem zpf (fu:Nat) (m:Machine) (n:Int) (a b:jm):jf (fu+1) m ⟨11,n,[a,b]⟩=Vn 11 [(jf fu m a).1,(jf fu m b).1] [(jf fu m a).2,(jf fu m b).2]:=by kernel_rfl
theorem zpn (fu:Nat) (m:Machine) (n:Int) (a b:jm):jf (fu+1) m ⟨12,n,[a,b]⟩=Vn 12 [(jf fu m a).1,(jf fu m b).1] [(jf fu m a).2,(jf fu m b).2]:=by kernel_rfl
theorem zo7 (fu:Nat) (m:Machine) (n:Int) (a b:jm):jf (fu+1) m ⟨13,n,[a,b]⟩=Vn 13 [(jf fu m a).1,(jf fu m b).1] [(jf fu m a).2,(jf fu m b).2]:=by kernel_rfl
theorem zeS (fu:Nat) (m:Machine) (op n:Int) (h:op=4∨op=5∨op=7∨op=8∨(9≤op∧op≤13)) (a b:jm):jf (fu+1) m ⟨op,n,[a,b]⟩=Vn op [(jf fu m a).1,(jf fu m b).1] [(jf fu m a).2,(jf fu m b).2]:=by
 have:op=4∨op=5∨op=7∨op=8∨op=9∨op=10∨op=11∨op=12∨op=13:=by omega
 rcases this with rfl | rfl | rfl | rfl | rfl | rfl | rfl | rfl | rfl
 ·exact zqP fu m n a b
 ·exact zqA fu m n a b
 ·exact zpU fu m n a b
 ·exact zqh fu m n a b
 ·exact zqe fu m n a b
 ·exact zpB fu m n a b
 ·exact zpf fu m n a b
 ·exact zpn fu m n a b
 ·exact zo7 fu m n a b
def b01 (c:jq):Prop:=c.known=true→c.n=0∨c.n=1
theorem zkd (b:Bool):Gt b=⟨true,if b then 1 else 0⟩:=by cases b <;> kernel_rfl
theorem zqB (b:Bool):b01 (Gt b):=by rw [zkd]; intro _; cases b <;> simp
theorem zqw (a:jq):kI 3 [a]=bif a.known then Gt (a.n == 0) else ⟨false,0⟩:=by
 obtain ⟨k,n⟩:=a
 cases k <;> kernel_rfl
def zoV (c:jq) (n:Int):jq:=bif c.known then (bif decide (n < 7) then ⟨true,zf3 c.n⟩ else ⟨true,bif c.n != 0 then 1 else 0⟩) else ⟨false,0⟩
theorem zpQ (m:Machine) (n:Int) (h:0≤n∧n≤19):zV m n=zoV (m.cells_.getD n.toNat default) n:=by
 simp only [zV,qW,Sk.val_r,Sk.val_br,Sk.val_fin,Ctr.c_v,kk,Cal.andl_v,uF,zB,Wv,vz,uf,zoV,zkd]
 rw [show (decide (n < 0)||decide (n > 19))=false from by simp; omega]
 by_cases hl:n≥m.cells_.length
 ·have e:m.cells_.getD n.toNat default=⟨false,0⟩:=by
   rw [List.getD,List.getElem?_eq_none (by omega)]
   rfl
  rw [e,decide_eq_true hl]
  rfl
 ·rw [decide_eq_false hl]
  cases hk:(m.cells_.getD n.toNat default).known with
  | false=>rfl
  | true =>
   by_cases c:n < 7
   ·rw [decide_eq_true c]; rfl
   ·rw [decide_eq_false c]
    cases hn:((m.cells_.getD n.toNat default).n != 0) <;> rfl
theorem zsx (c:jq) (n:Int) (h:7≤n):b01 (zoV c n):=by
 unfold zoV
 rw [decide_eq_false (by omega)]
 intro hk
 cases hc:c.known with
 | false=>rw [hc] at hk; exact absurd (show false=true from hk) (by decide)
 | true =>
  cases hn:(c.n != 0)
  ·left; rfl
  ·right; rfl
theorem zph (op:Int) (h:op=4∨op=5) (a b:jq):kI op [a,b]=(let z:Int:=if op=5 then 1 else 0; bif (a.known&&a.n == z)||(b.known&&b.n == z) then ⟨true,z⟩ else bif a.known&&b.known then ⟨true,1 - z⟩ else ⟨false,0⟩):=by
 obtain ⟨k,n⟩:=a
 obtain ⟨k',n'⟩:=b
 rcases h with rfl | rfl
 ·cases k <;> cases k' <;> cases h1:(n == 0) <;> cases h2:(n' == 0) <;> simp [kI,qP,zB,zkd,h1,h2]
 ·cases k <;> cases k' <;> cases h1:(n == 1) <;> cases h2:(n' == 1) <;> simp [kI,qP,zB,zkd,h1,h2]
theorem zqW (a b c:jq):kI 6 [a,b,c]=bif b.known&&(c.known&&b.n == c.n) then b else ⟨false,0⟩:=by
 obtain ⟨k,n⟩:=b
 obtain ⟨k',n'⟩:=c
 cases k <;> cases k' <;> cases h1:(n == n') <;> simp [kI,qP,h1]
theorem zgO (op:Int) (h:7≤op) (a b:jq):kI op [a,b]=bif a.known&&b.known then (if op=7 then Gt (decide (a.n < b.n)) else if op=8 then Gt (a.n == b.n) else ⟨true,Xh op a.n b.n⟩) else ⟨false,0⟩:=by
 obtain ⟨k,n⟩:=a
 obtain ⟨k',n'⟩:=b
 have e3:(op == 3)=false:=by simp; omega
 have e4:(op == 4)=false:=by simp; omega
 have e5:(op == 5)=false:=by simp; omega
 have e6:(op == 6)=false:=by simp; omega
 simp only [kI,qP,Sk.val_bind,Sk.val_br,Sk.val_r,Sk.val_fin,e3,e4,e5,e6,cond_false,zpa,VQ,Ctr.c_v,kk,zB,KO]
 cases k <;> cases k' <;> (try rfl)
 by_cases c7:op=7
 ·subst c7; rfl
 ·have e7:(op == 7)=false:=by simpa using c7
  by_cases c8:op=8
  ·subst c8; rfl
  ·have e8:(op == 8)=false:=by simpa using c8
   simp [e7,e8,c7,c8]
theorem Gz (op:Int) (cs:List jq) (ns:List (List Int)) (h:b01 (kI op cs)):b01 (Vn op cs ns).1:=by
 unfold Vn
 cases hk:(kI op cs).known with
 | true=>exact h
 | false=>intro h; exact absurd (show false=true from h) (by decide)
theorem VT (op:Int) (cs:List jq) (ns:List (List Int)) (B:Nat) (hB:B≤1000000) (hl:ns.length≤3) (h:∀ q,q < ns.length→(ns.getD q default).length≤B):(Vn op cs ns).2.length≤3 * B:=by
 unfold Vn
 cases hk:(kI op cs).known with
 | true=>simp
 | false =>
  simp only [cond_false]
  rw [Uy ns ⟨by omega,fun q hq=>Nat.le_trans (h q hq) hB⟩]
  have:=zkU ns B h ns.length (Nat.le_refl _)
  rw [List.take_length] at this
  have:B * ns.length≤B * 3:=Nat.mul_le_mul_left _ hl
  omega
theorem zrX (op n:Int) (a:jm):jm.depth ⟨op,n,[a]⟩=a.depth+1:=by simp [jm.depth,jm.depthL]
theorem zkE (op n:Int) (a b:jm):jm.depth ⟨op,n,[a,b]⟩=max a.depth b.depth+1:=by simp [jm.depth,jm.depthL]
theorem zr2 (op n:Int) (a b c:jm):jm.depth ⟨op,n,[a,b,c]⟩=max a.depth (max b.depth c.depth)+1:=by simp [jm.depth,jm.depthL]
theorem gk {a b:Nat} (h:a≤b):3 ^ a≤3 ^ b:=Nat.pow_le_pow_right (by omega) h
theorem zje {t:jm} {k:Int} (h:TyT t k):∀ (fu:Nat) (m:Machine),t.depth≤fu→t.depth≤8→(k=1→b01 (jf fu m t).1)∧(jf fu m t).2.length≤3 ^ t.depth:=by
 have h8:∀ d,d≤8→3 ^ d≤1000000:=fun d hd=>Nat.le_trans (gk hd) (by decide)
 induction h with
 | int hn =>
  intro fu m hd _
  cases fu with
  | zero=>exact absurd hd (by simp [jm.depth,jm.depthL])
  | succ fu=>rw [zry]; exact ⟨fun h=>absurd h (by decide),by simp⟩
 | @bool n hn =>
  intro fu m hd _
  cases fu with
  | zero=>exact absurd hd (by simp [jm.depth,jm.depthL])
  | succ fu=>rw [zp2]; exact ⟨fun _ _=>by show n=0∨n=1; omega,by simp⟩
 | @var n hn =>
  intro fu m hd _
  cases fu with
  | zero=>exact absurd hd (by simp [jm.depth,jm.depthL])
  | succ fu =>
   rw [zqX,zpQ m n hn]
   refine ⟨fun h=>?_,?_⟩
   ·have:=zsx (m.cells_.getD n.toNat default) n (by split at h <;> omega)
    cases hk:(zoV (m.cells_.getD n.toNat default) n).known with
    | true=>exact this
    | false=>intro h; exact absurd (show false=true from h) (by decide)
   ·cases hk:(zoV (m.cells_.getD n.toNat default) n).known <;> simp [jm.depth,jm.depthL]
 | @not a _ ih =>
  intro fu m hd h8d
  cases fu with
  | zero=>exact absurd hd (by simp [jm.depth,jm.depthL])
  | succ fu =>
   rw [zrX] at hd h8d ⊢
   have ih:=ih fu m (by omega) (by omega)
   rw [zrk]
   refine ⟨fun _=>Gz _ _ _ ?_,?_⟩
   ·rw [zqw]
    cases hk:(jf fu m a).1.known with
    | true=>exact zqB _
    | false=>intro h; exact absurd (show false=true from h) (by decide)
   ·have:=VT 3 [(jf fu m a).1] [(jf fu m a).2] (3 ^ a.depth) (h8 _ (by omega)) (by simp) (fun q hq=>by
     have:q=0:=by simpa using hq
     subst this
     exact ih.2)
    rw [Nat.pow_succ]; omega
 | @conj op a b hop _ _ iha ihb =>
  intro fu m hd h8d
  cases fu with
  | zero=>exact absurd hd (by simp [jm.depth,jm.depthL])
  | succ fu =>
   rw [zkE] at hd h8d ⊢
   have iha:=iha fu m (by omega) (by omega)
   have ihb:=ihb fu m (by omega) (by omega)
   rw [zeS _ _ _ _ (by omega)]
   refine ⟨fun _=>Gz _ _ _ ?_,?_⟩
   ·rw [zph op hop]
    dsimp only
    split
    ·cases (((jf fu m a).1.known&&(jf fu m a).1.n == 1)||((jf fu m b).1.known&&(jf fu m b).1.n == 1)) <;> cases ((jf fu m a).1.known&&(jf fu m b).1.known) <;> simp [b01]
    ·cases (((jf fu m a).1.known&&(jf fu m a).1.n == 0)||((jf fu m b).1.known&&(jf fu m b).1.n == 0)) <;> cases ((jf fu m a).1.known&&(jf fu m b).1.known) <;> simp [b01]
   ·have:=VT op [(jf fu m a).1,(jf fu m b).1] [(jf fu m a).2,(jf fu m b).2] (3 ^ (max a.depth b.depth)) (h8 _ (by omega)) (by simp) (fun q hq=>by
     have:q=0∨q=1:=by simp at hq; omega
     rcases this with rfl | rfl
     ·exact Nat.le_trans iha.2 (gk (by omega))
     ·exact Nat.le_trans ihb.2 (gk (by omega)))
    rw [Nat.pow_succ]; omega
 | @ite a b c k ha _ _ iha ihb ihc =>
  intro fu m hd h8d
  cases fu with
  | zero=>exact absurd hd (by simp [jm.depth,jm.depthL])
  | succ fu =>
   rw [zr2] at hd h8d ⊢
   have iha:=iha fu m (by omega) (by omega)
   have ihb:=ihb fu m (by omega) (by omega)
   have ihc:=ihc fu m (by omega) (by omega)
   rw [run_ite]
   dsimp only
   have lb:=Nat.le_trans ihb.2 (gk (b:=max a.depth (max b.depth c.depth)+1) (by omega))
   have lc:=Nat.le_trans ihc.2 (gk (b:=max a.depth (max b.depth c.depth)+1) (by omega))
   cases hk:(jf fu m a).1.known with
   | true =>
    simp only [cond_true]
    rcases iha.1 rfl hk with e | e
    ·rw [e]
     exact ⟨ihc.1,lc⟩
    ·rw [e]
     exact ⟨ihb.1,lb⟩
   | false =>
    simp only [cond_false]
    refine ⟨fun h=>Gz _ _ _ ?_,?_⟩
    ·rw [zqW]
     cases ((jf fu m b).1.known&&((jf fu m c).1.known&&(jf fu m b).1.n == (jf fu m c).1.n)) with
     | true=>exact ihb.1 h
     | false=>intro h; exact absurd (show false=true from h) (by decide)
    ·have:=VT 6 [(jf fu m a).1,(jf fu m b).1,(jf fu m c).1] [(jf fu m a).2,(jf fu m b).2,(jf fu m c).2] (3 ^ (max a.depth (max b.depth c.depth))) (h8 _ (by omega)) (by simp) (fun q hq=>by
      have:q=0∨q=1∨q=2:=by simp at hq; omega
      rcases this with rfl | rfl | rfl
      ·exact Nat.le_trans iha.2 (gk (by omega))
      ·exact Nat.le_trans ihb.2 (gk (by omega))
      ·exact Nat.le_trans ihc.2 (gk (by omega)))
     rw [Nat.pow_succ]; omega
 | @less a b _ _ iha ihb =>
  intro fu m hd h8d
  cases fu with
  | zero=>exact absurd hd (by simp [jm.depth,jm.depthL])
  | succ fu =>
   rw [zkE] at hd h8d ⊢
   have iha:=iha fu m (by omega) (by omega)
   have ihb:=ihb fu m (by omega) (by omega)
   rw [zeS _ _ _ _ (by omega)]
   refine ⟨fun _=>Gz _ _ _ ?_,?_⟩
   ·rw [zgO 7 (by omega)]
    cases ((jf fu m a).1.known&&(jf fu m b).1.known) with
    | true=>exact zqB _
    | false=>intro h; exact absurd (show false=true from h) (by decide)
   ·have:=VT 7 [(jf fu m a).1,(jf fu m b).1] [(jf fu m a).2,(jf fu m b).2] (3 ^ (max a.depth b.depth)) (h8 _ (by omega)) (by simp) (fun q hq=>by
     have:q=0∨q=1:=by simp at hq; omega
     rcases this with rfl | rfl
     ·exact Nat.le_trans iha.2 (gk (by omega))
     ·exact Nat.le_trans ihb.2 (gk (by omega)))
    rw [Nat.pow_succ]; omega
 | @eq a b _ _ _ iha ihb =>
  intro fu m hd h8d
  cases fu with
  | zero=>exact absurd hd (by simp [jm.depth,jm.depthL])
  | succ fu =>
   rw [zkE] at hd h8d ⊢
   have iha:=iha fu m (by omega) (by omega)
   have ihb:=ihb fu m (by omega) (by omega)
   rw [zeS _ _ _ _ (by omega)]
   refine ⟨fun _=>Gz _ _ _ ?_,?_⟩
   ·rw [zgO 8 (by omega)]
    cases ((jf fu m a).1.known&&(jf fu m b).1.known) with
    | true=>exact zqB _
    | false=>intro h; exact absurd (show false=true from h) (by decide)
   ·have:=VT 8 [(jf fu m a).1,(jf fu m b).1] [(jf fu m a).2,(jf fu m b).2] (3 ^ (max a.depth b.depth)) (h8 _ (by omega)) (by simp) (fun q hq=>by
     have:q=0∨q=1:=by simp at hq; omega
     rcases this with rfl | rfl
     ·exact Nat.le_trans iha.2 (gk (by omega))
     ·exact Nat.le_trans ihb.2 (gk (by omega)))
    rw [Nat.pow_succ]; omega
 | @arith op a b hop _ _ iha ihb =>
  intro fu m hd h8d
  cases fu with
  | zero=>exact absurd hd (by simp [jm.depth,jm.depthL])
  | succ fu =>
   rw [zkE] at hd h8d ⊢
   have iha:=iha fu m (by omega) (by omega)
   have ihb:=ihb fu m (by omega) (by omega)
   rw [zeS _ _ _ _ (by omega)]
   refine ⟨fun h=>absurd h (by decide),?_⟩
   have:=VT op [(jf fu m a).1,(jf fu m b).1] [(jf fu m a).2,(jf fu m b).2] (3 ^ (max a.depth b.depth)) (h8 _ (by omega)) (by simp) (fun q hq=>by
    have:q=0∨q=1:=by simp at hq; omega
    rcases this with rfl | rfl
    ·exact Nat.le_trans iha.2 (gk (by omega))
    ·exact Nat.le_trans ihb.2 (gk (by omega)))
   rw [Nat.pow_succ]; omega
theorem TyT.parts {t:jm} {k:Int} (h:TyT t k):(t.op=0∨t.op=1∨(t.op=2∧0≤t.n))∨((∀ q,q < t.args.length→∃ j,TyT (t.args.getD q default) j)∧((t.op=3∧t.args.length=1)∨(t.op=6∧t.args.length=3∧TyT (t.args.getD 0 default) 1)∨(t.op≠0∧t.op≠1∧t.op≠2∧t.op≠3∧t.op≠6∧t.args.length=2))):=by
 cases h with
 | int _=>left; left; rfl
 | bool _=>left; right; left; rfl
 | var h=>left; right; right; exact ⟨rfl,h.1⟩
 | not h =>
  right
  refine ⟨fun q hq=>?_,.inl ⟨rfl,rfl⟩⟩
  obtain rfl:q=0:=by simpa using hq
  exact ⟨_,h⟩
 | conj o h1 h2 =>
  right
  refine ⟨fun q hq=>?_,.inr (.inr ⟨by dsimp only; omega,by dsimp only; omega,by dsimp only; omega,by dsimp only; omega,by dsimp only; omega,rfl⟩)⟩
  have:q=0∨q=1:=by simp at hq; omega
  rcases this with rfl | rfl
  ·exact ⟨_,h1⟩
  ·exact ⟨_,h2⟩
 | ite h1 h2 h3 =>
  right
  refine ⟨fun q hq=>?_,.inr (.inl ⟨rfl,rfl,h1⟩)⟩
  have:q=0∨q=1∨q=2:=by simp at hq; omega
  rcases this with rfl | rfl | rfl
  ·exact ⟨_,h1⟩
  ·exact ⟨_,h2⟩
  ·exact ⟨_,h3⟩
 | less h1 h2 =>
  right
  refine ⟨fun q hq=>?_,.inr (.inr ⟨by dsimp only; omega,by dsimp only; omega,by dsimp only; omega,by dsimp only; omega,by dsimp only; omega,rfl⟩)⟩
  have:q=0∨q=1:=by simp at hq; omega
  rcases this with rfl | rfl
  ·exact ⟨_,h1⟩
  ·exact ⟨_,h2⟩
 | eq h1 h2 =>
  right
  refine ⟨fun q hq=>?_,.inr (.inr ⟨by dsimp only; omega,by dsimp only; omega,by dsimp only; omega,by dsimp only; omega,by dsimp only; omega,rfl⟩)⟩
  have:q=0∨q=1:=by simp at hq; omega
  rcases this with rfl | rfl
  ·exact ⟨_,h1⟩
  ·exact ⟨_,h2⟩
 | arith o h1 h2 =>
  right
  refine ⟨fun q hq=>?_,.inr (.inr ⟨by dsimp only; omega,by dsimp only; omega,by dsimp only; omega,by dsimp only; omega,by dsimp only; omega,rfl⟩)⟩
  have:q=0∨q=1:=by simp at hq; omega
  rcases this with rfl | rfl
  ·exact ⟨_,h1⟩
  ·exact ⟨_,h2⟩
theorem FR (fu:Nat) (rf:∀ (m:Machine) (t:jm),t.depth≤fu∧(t.Right)→FnA Tryz.prog 142 [av [slD jq.cells m.cells_],av t.cells] [] (.tup [av ((jf fu m t).1).cells,lv jC ((jf fu m t).2)]) []) (m:Machine) (t:jm) (hm:t.depth≤fu+1) (ht:t.Right):(qf (jf fu) (fun m t=>t.depth≤fu∧(t.Right)) rf m t).obs (fun _=>True):=by
 refine Sk.obs_of _ ?_
 unfold qf
 simp only [Sk.obq,Sk.isLoop,reduceCtorEq,ON,kk,Xf,XI,ZD,Vu,maxLen]
 obtain ⟨⟨k,hk⟩,h8⟩:=ht
 have hparts:=hk.parts
 refine ⟨⟨fun _=>by simp_all,fun _=>by simp_all⟩,fun b _ hb hbf=>?_⟩
 rw [hb] at hbf
 simp only [LN] at hbf
 refine ⟨fun h2=>?_,fun h2=>?_⟩
 ·simp only [LN] at h2
  rcases hparts with h | h
  ·omega
  ·omega
 ·simp only [LN] at h2
  have hp:(∀ q,q < t.args.length→∃ j,TyT (t.args.getD q default) j)∧((t.op=3∧t.args.length=1)∨(t.op=6∧t.args.length=3∧TyT (t.args.getD 0 default) 1)∨(t.op≠0∧t.op≠1∧t.op≠2∧t.op≠3∧t.op≠6∧t.args.length=2)):=by
   rcases hparts with h | h
   ·omega
   ·exact h
  obtain ⟨hp1,hp2⟩:=hp
  have hlen:t.args.length≤3:=by omega
  have hdep:∀ q,q < t.args.length→(t.args.getD q default).depth≤fu∧(t.args.getD q default).depth≤8:=fun q hq=>by have:=t.depth_args q hq; omega
  refine ⟨⟨by omega,by omega,by omega⟩,fun _=>⟨⟨by omega,by omega,by omega⟩,fun _=>⟨⟨⟨by simp,by simp,by omega,fun q hq=>absurd hq (by omega)⟩,fun i hi hl=>⟨fun hc=>⟨⟨by omega,of_decide_eq_true hc⟩,fun _=>⟨⟨⟨?_,?_⟩,fun x hx=>⟨⟨by omega,?_⟩,?_,⟨by omega,?_⟩,?_⟩⟩,fun x hx=>⟨by simp,by simp,fun _=>⟨?_,⟨⟨by simp [hi.1],by simp [hi.2.1],?_,fun q hq=>?_⟩,?_⟩⟩⟩⟩⟩,fun hc=>⟨hi.1,hi.2.1,fun q hq=>hi.2.2.2 q (by simp only [LN] at hc; omega)⟩⟩⟩,fun b hb=>?_⟩⟩⟩
  all_goals (try simp only [LN] at hc)
  ·exact (hdep _ (by omega)).1
  ·exact ⟨hp1 _ (by omega),(hdep _ (by omega)).2⟩
  ·omega
  ·omega
  ·omega
  ·omega
  ·exact jj (by omega) (by omega)
  ·omega
  ·by_cases e:q=i.2.2
   ·subst e
    subst hx
    exact ⟨Ym _ (by omega) _ _,Ym _ (by omega) _ _⟩
   ·have:=hi.2.2.2 q (by omega)
    rw [← this.1,← this.2]
    exact ⟨Yj _ e _ _,Yj _ e _ _⟩
  ·omega
  ·refine ⟨⟨fun _=>⟨by omega,by omega⟩,fun _=>by omega⟩,fun _=>⟨fun h6=>?_,fun _=>⟨?_,fun x _ _=>⟨?_,?_⟩⟩⟩⟩
   ·simp only [LN] at h6
    have h01:b01 (b.1.getD 0 default):=by
     rw [(hb.2.2 0 (by omega)).1]
     rcases hp2 with h | h | h
     ·omega
     ·exact (zje h.2.2 fu m (hdep 0 (by omega)).1 (hdep 0 (by omega)).2).1 rfl
     ·omega
    have h01:=h01 h6.2
    have hw:w64 (2 - (b.1.getD 0 default).n)=2 - (b.1.getD 0 default).n:=jj (by omega) (by omega)
    rw [hw]
    refine ⟨⟨by omega,by omega⟩,fun _=>⟨⟨by omega,by omega⟩,by omega,⟨by omega,by omega⟩,by omega⟩⟩
   ·omega
   ·omega
   ·intro q hq
    rw [hb.2.1] at hq
    rw [(hb.2.2 q hq).2]
    obtain ⟨j,hj⟩:=hp1 q hq
    have:=(zje hj fu m (hdep q hq).1 (hdep q hq).2).2
    have h3:(3:Nat) ^ (t.args.getD q default).depth≤3 ^ 8:=Nat.pow_le_pow_right (by omega) (hdep q hq).2
    have:(3:Nat) ^ 8=6561:=by decide
    omega
theorem HO (fu:Nat) (rp:Machine→jm→Prop) (rf:∀ (m:Machine) (t:jm),rp m t→FnA Tryz.prog 142 [av [slD jq.cells m.cells_],av t.cells] [] (.tup [av ((jf fu m t).1).cells,lv jC ((jf fu m t).2)]) []) (m:Machine) (t:jm):(qf (jf fu) rp rf m t).val=jf (fu+1) m t:=by kernel_rfl
theorem HP (fu:Nat):∀ (m:Machine) (t:jm),t.depth≤fu→t.Right→FnA Tryz.prog 142 [av [slD jq.cells m.cells_],av t.cells] [] (.tup [av ((jf fu m t).1).cells,lv jC ((jf fu m t).2)]) []:=by
 induction fu with
 | zero=>intro m t hm h0; exact absurd hm (by have:=jm.depth_pos t; omega)
 | succ fu ih =>
  intro m t hm h0
  have h:FnA Tryz.prog 142 [av [slD jq.cells m.cells_],av t.cells] [] (.tup [av (((qf (jf fu) (fun m t=>t.depth≤fu∧(t.Right)) (fun m t h=>ih m t h.1 h.2) m t).val).1).cells,lv jC (((qf (jf fu) (fun m t=>t.depth≤fu∧(t.Right)) (fun m t h=>ih m t h.1 h.2) m t).val).2)]) []:=FnA.sk tok mixed (fun x=>.tup [av x.1.cells,lv jC x.2]) (fun _=>[]) Tryz.func142 rfl (by kernel_rfl) 3000 (qf (jf fu) (fun m t=>t.depth≤fu∧(t.Right)) (fun m t h=>ih m t h.1 h.2) m t) (by kernel_rfl) (FR fu _ m t hm h0)
  rw [HO] at h
  exact h
def QL (m:Machine) (t:jm):jq × (List Int):=jf (t.depth) m t
theorem FN (m:Machine) (t:jm) (ht:t.Right):FnA Tryz.prog 142 [av [slD jq.cells m.cells_],av t.cells] [] (.tup [av ((QL m t).1).cells,lv jC ((QL m t).2)]) []:=HP _ m t (Nat.le_refl _) ht
def Uc (m:Machine) (t:jm):Ctr (jq × (List Int)):=⟨Tryz.prog,142,[av [slD jq.cells m.cells_],av t.cells],fun x=>.tup [av x.1.cells,lv jC x.2],false,QL m t,(t.Right),fun h=>FN m t h,fun _=>True,trivial⟩
def VB (t:jm) (cells:List jq):Sk (jq) :=
 .r 1 ((VH t).c) fun x1 =>
 .br (x1.2 != 0)
 (.fin ({ known:=false,n:=0 }:jq))
 (.r 4 ((Uc ({ cells_:=cells }:Machine) t).c) fun x2 =>
 .fin x2.1)
def zpk (t:jm) (cells:List jq):jq:=(VB t cells).val
theorem zk7 (t:jm) (cells:List jq):(VB t cells).obs (fun _=>True):=by
 refine Sk.obs_of _ ?_
 unfold VB
 simp only [Sk.obq,Sk.isLoop,reduceCtorEq,ON,kk,VH,Uc,maxLen]
 intro x _ h hc
 simp only [LN] at hc
 exact ⟨⟨_,(h hc).1⟩,(h hc).2⟩
def zdr (t:jm) (cells:List jq):Ctr (jq):=kk tok mixed Tryz.func113 [av t.cells,lv jq.cells cells] (fun x=>av x.cells) true (VB t cells) (zpk t cells) (fun (_:True)=>zk7 t cells)
def JL (o:qv) (ask:Int) (cells:List jq):Sk (jq × Int) :=
 .r 1 ((zbf o ask).c) fun x1 =>
 .br (x1.2 != 0)
 (.fin (({ known:=false,n:=0 }:jq),x1.2))
 (.r 4 ((zdr x1.1 cells).c) fun x2 =>
 .r 5 ((yq ask).c) fun x3 =>
 .br ((x3.1 == 0)&&x2.known)
 (.fin (({ known:=x2.known,n:=qO (ki x2.n 0) 20000 }:jq),0))
 (.fin (x2,0)))
def zkn (o:qv) (ask:Int) (cells:List jq):jq × Int:=(JL o ask cells).val
theorem zdD (o:qv) (ask:Int) (cells:List jq):(JL o ask cells).obs (fun _=>True):=by
 unfold JL
 try simp only [yq,zbf,zdr]
 exact okE
def Hu (o:qv) (ask:Int) (cells:List jq):Ctr (jq × Int):=kk tok mixed Tryz.func77 [av o.cells,iv ask,lv jq.cells cells] (fun x=>.tup [av x.1.cells,iv x.2]) true (JL o ask cells) (zkn o ask cells) (fun (_:True)=>zdD o ask cells)
def WA (r:jg) (forum:Int) (question:Int) (c_:ke):Sk (Said) :=
 .r 1 ((zhi r forum question c_).c) fun x1 =>
 .br (x1.1.order != (-1))
 (.r 3 (.andl (.p (ixP x1.1.order r.orders.length)) ((Hu (r.orders.getD x1.1.order.toNat default) question x1.2).c)) fun x2 =>
 .fin ({ cell:=x2.1,order:=x1.1.order,path:=x1.1.path,err:=x2.2 }:Said))
 (.fin x1.1)
def zrf (r:jg) (forum:Int) (question:Int) (c_:ke):Said:=(WA r forum question c_).val
theorem zn5 (r:jg) (forum:Int) (question:Int) (c_:ke) (hf:c_.file.Small) (hb:r.ByOK) (hr:r.Small):(WA r forum question c_).obs (fun _=>True):=by
 simp only [jh.Small,jg.Small,jg.ByOK] at hf
 simp only [jh.Small,jg.Small,jg.ByOK] at hb
 simp only [jh.Small,jg.Small,jg.ByOK] at hr
 unfold WA
 try simp only [zhi,Hu,jh.Small,jg.Small,jg.ByOK]
 exact okD
def qN (r:jg) (forum:Int) (question:Int) (c_:ke):Ctr (Said):=kk tok mixed Tryz.func51 [av r.cells,iv forum,iv question,av c_.cells] (fun x=>av x.cells) false (WA r forum question c_) (zrf r forum question c_) (fun (h:(c_.file.Small)∧(r.ByOK)∧(r.Small))=>zn5 r forum question c_ h.1 h.2.1 h.2.2)
def UY (r:jg) (forum:Int) (question:Int) (f:jh) (day:Int):Sk (Said) :=
 .r 2 (((qN r forum question ({ file:={ f with facts:=[] },sign:=0,holder:=(-1),defence:=(-1),due:=(-1),day:=day }:ke)).nilc 3 18 _ rfl ⟨_,rfl⟩).c) fun x1 =>
 .fin x1
def zqq (r:jg) (forum:Int) (question:Int) (f:jh) (day:Int):Said:=(UY r forum question f day).val
theorem zmL (r:jg) (forum:Int) (question:Int) (f:jh) (day:Int) (hf:f.Small) (h_r_ByOK:r.ByOK) (h_r_Small:r.Small):(UY r forum question f day).obs (fun _=>True):=by
 simp only [jh.Small,jg.Small,jg.ByOK] at hf
 simp only [jh.Small,jg.Small,jg.ByOK] at h_r_ByOK
 simp only [jh.Small,jg.Small,jg.ByOK] at h_r_Small
 unfold UY
 try simp only [qN,jh.Small,jg.Small,jg.ByOK]
 exact okD
def Kl (r:jg) (forum:Int) (question:Int) (f:jh) (day:Int):Ctr (Said):=kk tok mixed Tryz.func73 [av r.cells,iv forum,iv question,av f.cells,iv day] (fun x=>av x.cells) false (UY r forum question f day) (zqq r forum question f day) (fun (h:(f.Small)∧(r.ByOK)∧(r.Small))=>zmL r forum question f day h.1 h.2.1 h.2.2)
def Zf (s:Said):Sk (Int) :=
 .br ((s.err != 0)||(!s.cell.known))
 (.fin (-1))
 (.fin s.cell.n)
def znk (s:Said):Int:=(Zf s).val
theorem ziV (s:Said):(Zf s).obs (fun _=>True):=by
 unfold Zf
 exact okE
def Qa (s:Said):Ctr (Int):=kk tok mixed Tryz.func72 [av s.cells] (fun x=>iv x) true (Zf s) (znk s) (fun (_:True)=>ziV s)
def Zc (x_:List Int):Sk (Int) :=
 .bind false (fun _=>True)
 (.br (decide (((x_.length:Nat):Int) < 1))
 (.dead default)
 (.fin (.inr ())))
 (fun (_:Unit)=>⟨[],[]⟩) fun _ =>
 .r 3 (.p (ixP (0:Int) x_.length)) fun _ =>
 .bind true (fun _=>True)
 (.loop (default:Sum (Int) (Int)) (fun i3=>(1:Int)≤i3.2∧i3.2≤(x_.length:Int)) (fun i3=>((x_.length:Int) - i3.2).toNat) ((x_.getD 0 default,1):Int × Int)
 (fun (i3:Int × Int)=>⟨[(3,iv i3.1),(4,iv i3.2)],[]⟩) fun i3 =>
 .br (decide (i3.2 < ((x_.length:Nat):Int)))
 (.r 7 (.p (ixP i3.2 x_.length)) fun _ =>
 .fin (.inr (qO i3.1 (x_.getD i3.2.toNat default),w64 (i3.2+1))))
 (.fin (.inl (.inr i3.1))))
 (fun (b2:Int)=>⟨[(3,iv b2)],[]⟩) fun b2 =>
 .fin b2
def znE (x_:List Int):Int:=(Zc x_).val
theorem zit (x_:List Int) (hx:x_.length≠0) (hl:x_.length≤1000000000):(Zc x_).obs (fun _=>True):=by
 unfold Zc
 exact okD
def zar (x_:List Int):Ctr (Int):=kk tok mixed Tryz.func107 [lv jC x_] (fun x=>iv x) true (Zc x_) (znE x_) (fun (h:(x_.length≠0)∧(x_.length≤1000000000))=>zit x_ h.1 h.2)
def Qi (f:jh):Sk (Int) :=
 .bind true (fun b1=>b1.length≤0+f.signs.length)
 (.loop (default:Sum (Int) ((List Int))) (fun i2=>i2.2≤f.signs.length∧i2.1.length≤0+i2.2) (fun i2=>f.signs.length - i2.2) (([],0):(List Int) × Nat)
 (fun (i2:(List Int) × Nat)=>⟨[(3,ow 100002 i2.1),(16,iv (i2.2:Int))],[(100002,jz 3 1 jC i2.1)]⟩) fun i2 =>
 .bnd 14 0 f.signs.length <|
 .br (decide ((i2.2:Int) < ((f.signs.length:Nat):Int)))
 (.r 5 (.p (ixP (i2.2:Int) f.signs.length)) fun _ =>
 .br ((f.bill.tenor.kind == 1)&&(((f.signs.getD i2.2 default).kind) == 1))
 (.r 7 (.andl (.o [.nrm (qk kA [(f.signs.getD i2.2 default).day])]) (.andl (.o [.nrm (gy kA i2.1 [(f.signs.getD i2.2 default).day])]) (.andl (.t (kA.ones [(f.signs.getD i2.2 default).day])) (.p (szP i2.1.length [(f.signs.getD i2.2 default).day].length 8))))) fun _ =>
 .r 8 .z fun _ =>
 .wi 16 (w64 ((i2.2:Int)+1)) ((i2.2+1:Nat):Int) <|
 .fin (.inr (i2.1++[(f.signs.getD i2.2 default).day],i2.2+1)))
 (.r 8 .z fun _ =>
 .wi 16 (w64 ((i2.2:Int)+1)) ((i2.2+1:Nat):Int) <|
 .fin (.inr (i2.1,i2.2+1))))
 (.fin (.inl (.inr i2.1))))
 (fun (b1:(List Int))=>⟨[(3,ow 100001 b1)],[(100001,jz 3 1 jC b1)]⟩) fun b1 =>
 .bind true (fun b3=>b3.length≤b1.length+f.acts.length)
 (.loop (default:Sum (Int) ((List Int))) (fun i4=>i4.2≤f.acts.length∧i4.1.length≤b1.length+i4.2) (fun i4=>f.acts.length - i4.2) ((b1,0):(List Int) × Nat)
 (fun (i4:(List Int) × Nat)=>⟨[(3,ow 100005 i4.1),(36,iv (i4.2:Int))],[(100005,jz 3 1 jC i4.1)]⟩) fun i4 =>
 .bnd 34 0 f.acts.length <|
 .br (decide ((i4.2:Int) < ((f.acts.length:Nat):Int)))
 (.r 11 (.p (ixP (i4.2:Int) f.acts.length)) fun _ =>
 .br ((f.bill.tenor.kind == 0)&&(((f.acts.getD i4.2 default).kind) == 2))
 (.fin (.inl (.inl ((f.acts.getD i4.2 default).day))))
 (.br ((f.bill.tenor.kind == 1)&&(((f.acts.getD i4.2 default).kind) == 1))
 (.r 15 (.andl (.o [.nrm (qk kA [(f.acts.getD i4.2 default).day])]) (.andl (.o [.nrm (gy kA i4.1 [(f.acts.getD i4.2 default).day])]) (.andl (.t (kA.ones [(f.acts.getD i4.2 default).day])) (.p (szP i4.1.length [(f.acts.getD i4.2 default).day].length 8))))) fun _ =>
 .r 16 .z fun _ =>
 .wi 36 (w64 ((i4.2:Int)+1)) ((i4.2+1:Nat):Int) <|
 .fin (.inr (i4.1++[(f.acts.getD i4.2 default).day],i4.2+1)))
 (.r 16 .z fun _ =>
 .wi 36 (w64 ((i4.2:Int)+1)) ((i4.2+1:Nat):Int) <|
 .fin (.inr (i4.1,i4.2+1)))))
 (.fin (.inl (.inr i4.1))))
 (fun (b3:(List Int))=>⟨[(3,ow 100004 b3)],[(100004,jz 3 1 jC b3)]⟩) fun b3 =>
 .br (((b3.length:Nat):Int) == 0)
 (.fin (-1))
 (.r 19 ((zar b3).c) fun x5 =>
 .fin x5)
def zmI (f:jh):Int:=(Qi f).val
theorem zeW (f:jh) (hf:f.Small):(Qi f).obs (fun _=>True):=by
 simp only [jh.Small,jg.Small] at hf
 unfold Qi
 try simp only [zar,jh.Small,jg.Small]
 exact okD
def Zn (f:jh):Ctr (Int):=kk tok mixed Tryz.func75 [av f.cells] (fun x=>iv x) true (Qi f) (zmI f) (fun (h:(f.Small))=>zeW f h)
def JV (r:jg) (city:Int):Sk (Bool) :=
 .fin ((decide (city≥0))&&(decide (city < ((r.cities.length:Nat):Int))))
def zak (r:jg) (city:Int):Bool:=(JV r city).val
theorem Xq (r:jg) (city:Int):zak r city=((decide (city≥0))&&(decide (city < ((r.cities.length:Nat):Int)))):=rfl
theorem zeg (r:jg) (city:Int):(JV r city).obs (fun _=>True):=by
 unfold JV
 exact okE
def KQ (r:jg) (city:Int):Ctr (Bool):=kk tok mixed Tryz.func102 [av r.cells,iv city] (fun x=>bv x) true (JV r city) (zak r city) (fun (_:True)=>zeg r city)
def KK (n:Int):Sk (Bool) :=
 .fin ((decide (n≥0))&&(decide (n≤100000)))
def zdi (n:Int):Bool:=(KK n).val
theorem Fa (n:Int):zdi n=((decide (n≥0))&&(decide (n≤100000))):=rfl
theorem zfY (n:Int):(KK n).obs (fun _=>True):=by
 unfold KK
 exact okE
def JE (n:Int):Ctr (Bool):=kk tok mixed Tryz.func103 [iv n] (fun x=>bv x) true (KK n) (zdi n) (fun (_:True)=>zfY n)
def JM (t:yw):Sk (Bool) :=
 .fin ((t.kind == 0)||(t.kind == 1))
def zaO (t:yw):Bool:=(JM t).val
theorem Xo (t:yw):zaO t=((t.kind == 0)||(t.kind == 1)):=rfl
theorem zeF (t:yw):(JM t).obs (fun _=>True):=by
 unfold JM
 exact okE
def Ui (t:yw):Ctr (Bool):=kk tok mixed Tryz.func104 [av t.cells] (fun x=>bv x) true (JM t) (zaO t) (fun (_:True)=>zeF t)
def vY (day:Int):Sk (Bool) :=
 .fin ((decide ((0:Int)≤day))&&(decide (day≤100000)))
def qF (day:Int):Bool:=(vY day).val
theorem Qf (day:Int):qF day=((decide ((0:Int)≤day))&&(decide (day≤100000))):=rfl
theorem zbg (day:Int):(vY day).obs (fun _=>True):=by
 unfold vY
 exact okE
def qY (day:Int):Ctr (Bool):=kk tok mixed Tryz.func165 [iv day] (fun x=>bv x) true (vY day) (qF day) (fun (_:True)=>zbg day)
theorem zbx (day:Int):FnA Tryz.prog 165 [iv day] [] (bv (qF day)) []:=(qY day).pf trivial
def gp (day:Int):Sk (Int × Int × Int) :=
 .r 2 (.andl (.p ((146097:Int)≠0)) (.p ((146097:Int)≠0))) fun _ =>
 .r 3 (.andl (.p ((1460:Int)≠0)) (.andl (.p ((36524:Int)≠0)) (.andl (.p ((146096:Int)≠0)) (.p ((365:Int)≠0))))) fun _ =>
 .r 4 (.andl (.p ((4:Int)≠0)) (.p ((100:Int)≠0))) fun _ =>
 .r 5 (.p ((153:Int)≠0)) fun _ =>
 .r 6 (.p ((5:Int)≠0)) fun _ =>
 .bind false (fun _=>True)
 (.br (decide ((w64 ((w64 ((w64 ((w64 ((5:Int) * (w64 (((w64 (day+730425)).tmod 146097) - (w64 ((w64 ((w64 ((365:Int) * (w64 ((w64 ((w64 ((w64 (((w64 (day+730425)).tmod 146097) - (w64 (((w64 (day+730425)).tmod 146097).tdiv 1460))))+(w64 (((w64 (day+730425)).tmod 146097).tdiv 36524)))) - (w64 (((w64 (day+730425)).tmod 146097).tdiv 146096)))).tdiv 365))))+(w64 ((w64 ((w64 ((w64 ((w64 (((w64 (day+730425)).tmod 146097) - (w64 (((w64 (day+730425)).tmod 146097).tdiv 1460))))+(w64 (((w64 (day+730425)).tmod 146097).tdiv 36524)))) - (w64 (((w64 (day+730425)).tmod 146097).tdiv 146096)))).tdiv 365)).tdiv 4)))) - (w64 ((w64 ((w64 ((w64 ((w64 (((w64 (day+730425)).tmod 146097) - (w64 (((w64 (day+730425)).tmod 146097).tdiv 1460))))+(w64 (((w64 (day+730425)).tmod 146097).tdiv 36524)))) - (w64 (((w64 (day+730425)).tmod 146097).tdiv 146096)))).tdiv 365)).tdiv 100))))))))+2)).tdiv 153))+3)) > 12))
 (.fin (.inr (w64 ((w64 ((w64 ((w64 ((w64 ((5:Int) * (w64 (((w64 (day+730425)).tmod 146097) - (w64 ((w64 ((w64 ((365:Int) * (w64 ((w64 ((w64 ((w64 (((w64 (day+730425)).tmod 146097) - (w64 (((w64 (day+730425)).tmod 146097).tdiv 1460))))+(w64 (((w64 (day+730425)).tmod 146097).tdiv 36524)))) - (w64 (((w64 (day+730425)).tmod 146097).tdiv 146096)))).tdiv 365))))+(w64 ((w64 ((w64 ((w64 ((w64 (((w64 (day+730425)).tmod 146097) - (w64 (((w64 (day+730425)).tmod 146097).tdiv 1460))))+(w64 (((w64 (day+730425)).tmod 146097).tdiv 36524)))) - (w64 (((w64 (day+730425)).tmod 146097).tdiv 146096)))).tdiv 365)).tdiv 4)))) - (w64 ((w64 ((w64 ((w64 ((w64 (((w64 (day+730425)).tmod 146097) - (w64 (((w64 (day+730425)).tmod 146097).tdiv 1460))))+(w64 (((w64 (day+730425)).tmod 146097).tdiv 36524)))) - (w64 (((w64 (day+730425)).tmod 146097).tdiv 146096)))).tdiv 365)).tdiv 100))))))))+2)).tdiv 153))+3)) - 12))))
 (.fin (.inr (w64 ((w64 ((w64 ((w64 ((5:Int) * (w64 (((w64 (day+730425)).tmod 146097) - (w64 ((w64 ((w64 ((365:Int) * (w64 ((w64 ((w64 ((w64 (((w64 (day+730425)).tmod 146097) - (w64 (((w64 (day+730425)).tmod 146097).tdiv 1460))))+(w64 (((w64 (day+730425)).tmod 146097).tdiv 36524)))) - (w64 (((w64 (day+730425)).tmod 146097).tdiv 146096)))).tdiv 365))))+(w64 ((w64 ((w64 ((w64 ((w64 (((w64 (day+730425)).tmod 146097) - (w64 (((w64 (day+730425)).tmod 146097).tdiv 1460))))+(w64 (((w64 (day+730425)).tmod 146097).tdiv 36524)))) - (w64 (((w64 (day+730425)).tmod 146097).tdiv 146096)))).tdiv 365)).tdiv 4)))) - (w64 ((w64 ((w64 ((w64 ((w64 (((w64 (day+730425)).tmod 146097) - (w64 (((w64 (day+730425)).tmod 146097).tdiv 1460))))+(w64 (((w64 (day+730425)).tmod 146097).tdiv 36524)))) - (w64 (((w64 (day+730425)).tmod 146097).tdiv 146096)))).tdiv 365)).tdiv 100))))))))+2)).tdiv 153))+3)))))
 (fun (b1:Int)=>⟨[(3,iv b1)],[]⟩) fun b1 =>
 .br (decide (b1 < 3))
 (.fin (w64 ((w64 ((w64 ((w64 ((w64 ((w64 (((w64 (day+730425)).tmod 146097) - (w64 (((w64 (day+730425)).tmod 146097).tdiv 1460))))+(w64 (((w64 (day+730425)).tmod 146097).tdiv 36524)))) - (w64 (((w64 (day+730425)).tmod 146097).tdiv 146096)))).tdiv 365))+(w64 ((400:Int) * (w64 ((w64 (day+730425)).tdiv 146097))))))+1),b1,w64 ((w64 ((w64 (((w64 (day+730425)).tmod 146097) - (w64 ((w64 ((w64 ((365:Int) * (w64 ((w64 ((w64 ((w64 (((w64 (day+730425)).tmod 146097) - (w64 (((w64 (day+730425)).tmod 146097).tdiv 1460))))+(w64 (((w64 (day+730425)).tmod 146097).tdiv 36524)))) - (w64 (((w64 (day+730425)).tmod 146097).tdiv 146096)))).tdiv 365))))+(w64 ((w64 ((w64 ((w64 ((w64 (((w64 (day+730425)).tmod 146097) - (w64 (((w64 (day+730425)).tmod 146097).tdiv 1460))))+(w64 (((w64 (day+730425)).tmod 146097).tdiv 36524)))) - (w64 (((w64 (day+730425)).tmod 146097).tdiv 146096)))).tdiv 365)).tdiv 4)))) - (w64 ((w64 ((w64 ((w64 ((w64 (((w64 (day+730425)).tmod 146097) - (w64 (((w64 (day+730425)).tmod 146097).tdiv 1460))))+(w64 (((w64 (day+730425)).tmod 146097).tdiv 36524)))) - (w64 (((w64 (day+730425)).tmod 146097).tdiv 146096)))).tdiv 365)).tdiv 100)))))) - (w64 ((w64 ((w64 ((153:Int) * (w64 ((w64 ((w64 ((5:Int) * (w64 (((w64 (day+730425)).tmod 146097) - (w64 ((w64 ((w64 ((365:Int) * (w64 ((w64 ((w64 ((w64 (((w64 (day+730425)).tmod 146097) - (w64 (((w64 (day+730425)).tmod 146097).tdiv 1460))))+(w64 (((w64 (day+730425)).tmod 146097).tdiv 36524)))) - (w64 (((w64 (day+730425)).tmod 146097).tdiv 146096)))).tdiv 365))))+(w64 ((w64 ((w64 ((w64 ((w64 (((w64 (day+730425)).tmod 146097) - (w64 (((w64 (day+730425)).tmod 146097).tdiv 1460))))+(w64 (((w64 (day+730425)).tmod 146097).tdiv 36524)))) - (w64 (((w64 (day+730425)).tmod 146097).tdiv 146096)))).tdiv 365)).tdiv 4)))) - (w64 ((w64 ((w64 ((w64 ((w64 (((w64 (day+730425)).tmod 146097) - (w64 (((w64 (day+730425)).tmod 146097).tdiv 1460))))+(w64 (((w64 (day+730425)).tmod 146097).tdiv 36524)))) - (w64 (((w64 (day+730425)).tmod 146097).tdiv 146096)))).tdiv 365)).tdiv 100))))))))+2)).tdiv 153))))+2)).tdiv 5))))+1)))
 (.fin (w64 ((w64 ((w64 ((w64 ((w64 (((w64 (day+730425)).tmod 146097) - (w64 (((w64 (day+730425)).tmod 146097).tdiv 1460))))+(w64 (((w64 (day+730425)).tmod 146097).tdiv 36524)))) - (w64 (((w64 (day+730425)).tmod 146097).tdiv 146096)))).tdiv 365))+(w64 ((400:Int) * (w64 ((w64 (day+730425)).tdiv 146097))))),b1,w64 ((w64 ((w64 (((w64 (day+730425)).tmod 146097) - (w64 ((w64 ((w64 ((365:Int) * (w64 ((w64 ((w64 ((w64 (((w64 (day+730425)).tmod 146097) - (w64 (((w64 (day+730425)).tmod 146097).tdiv 1460))))+(w64 (((w64 (day+730425)).tmod 146097).tdiv 36524)))) - (w64 (((w64 (day+730425)).tmod 146097).tdiv 146096)))).tdiv 365))))+(w64 ((w64 ((w64 ((w64 ((w64 (((w64 (day+730425)).tmod 146097) - (w64 (((w64 (day+730425)).tmod 146097).tdiv 1460))))+(w64 (((w64 (day+730425)).tmod 146097).tdiv 36524)))) - (w64 (((w64 (day+730425)).tmod 146097).tdiv 146096)))).tdiv 365)).tdiv 4)))) - (w64 ((w64 ((w64 ((w64 ((w64 (((w64 (day+730425)).tmod 146097) - (w64 (((w64 (day+730425)).tmod 146097).tdiv 1460))))+(w64 (((w64 (day+730425)).tmod 146097).tdiv 36524)))) - (w64 (((w64 (day+730425)).tmod 146097).tdiv 146096)))).tdiv 365)).tdiv 100)))))) - (w64 ((w64 ((w64 ((153:Int) * (w64 ((w64 ((w64 ((5:Int) * (w64 (((w64 (day+730425)).tmod 146097) - (w64 ((w64 ((w64 ((365:Int) * (w64 ((w64 ((w64 ((w64 (((w64 (day+730425)).tmod 146097) - (w64 (((w64 (day+730425)).tmod 146097).tdiv 1460))))+(w64 (((w64 (day+730425)).tmod 146097).tdiv 36524)))) - (w64 (((w64 (day+730425)).tmod 146097).tdiv 146096)))).tdiv 365))))+(w64 ((w64 ((w64 ((w64 ((w64 (((w64 (day+730425)).tmod 146097) - (w64 (((w64 (day+730425)).tmod 146097).tdiv 1460))))+(w64 (((w64 (day+730425)).tmod 146097).tdiv 36524)))) - (w64 (((w64 (day+730425)).tmod 146097).tdiv 146096)))).tdiv 365)).tdiv 4)))) - (w64 ((w64 ((w64 ((w64 ((w64 (((w64 (day+730425)).tmod 146097) - (w64 (((w64 (day+730425)).tmod 146097).tdiv 1460))))+(w64 (((w64 (day+730425)).tmod 146097).tdiv 36524)))) - (w64 (((w64 (day+730425)).tmod 146097).tdiv 146096)))).tdiv 365)).tdiv 100))))))))+2)).tdiv 153))))+2)).tdiv 5))))+1)))
def zeZ (day:Int):Int × Int × Int:=(gp day).val
theorem zan (day:Int):(gp day).obs (fun _=>True):=by
 unfold gp
 exact okD
def gV (day:Int):Ctr (Int × Int × Int):=kk tok mixed Tryz.func198 [iv day] (fun x=>.tup [iv x.1,iv x.2.1,iv x.2.2]) true (gp day) (zeZ day) (fun (_:True)=>zan day)
def yj (year:Int) (month:Int) (dom:Int):Sk (Int) :=
 .br (decide (month < 3))
 (.r 3 (.andl (.p ((4:Int)≠0)) (.andl (.p ((100:Int)≠0)) (.andl (.p ((400:Int)≠0)) (.p ((5:Int)≠0))))) fun _ =>
 .fin (w64 ((w64 ((w64 ((w64 ((w64 ((w64 ((w64 ((w64 ((365:Int) * (w64 (year - 1))))+(w64 ((w64 (year - 1)).tdiv 4)))) - (w64 ((w64 (year - 1)).tdiv 100))))+(w64 ((w64 (year - 1)).tdiv 400))))+(w64 ((w64 ((w64 ((153:Int) * (w64 ((w64 (month+12)) - 3))))+2)).tdiv 5))))+dom)) - 1)) - 730425)))
 (.r 3 (.andl (.p ((4:Int)≠0)) (.andl (.p ((100:Int)≠0)) (.andl (.p ((400:Int)≠0)) (.p ((5:Int)≠0))))) fun _ =>
 .fin (w64 ((w64 ((w64 ((w64 ((w64 ((w64 ((w64 ((w64 ((365:Int) * year))+(w64 (year.tdiv 4)))) - (w64 (year.tdiv 100))))+(w64 (year.tdiv 400))))+(w64 ((w64 ((w64 ((153:Int) * (w64 (month - 3))))+2)).tdiv 5))))+dom)) - 1)) - 730425)))
def zdK (year:Int) (month:Int) (dom:Int):Int:=(yj year month dom).val
theorem Bq (year:Int) (month:Int) (dom:Int):(yj year month dom).obs (fun _=>True):=by
 unfold yj
 exact okD
def vP (year:Int) (month:Int) (dom:Int):Ctr (Int):=kk tok mixed Tryz.func229 [iv year,iv month,iv dom] (fun x=>iv x) true (yj year month dom) (zdK year month dom) (fun (_:True)=>Bq year month dom)
def yg (year:Int) (month:Int):Sk (Int) :=
 .br (month == 12)
 (.fin 31)
 (.r 3 (.dep ((vP year (w64 (month+1)) 1).c) fun _=>(vP year month 1).c) fun p3 =>
 .fin (w64 (p3.1 - p3.2)))
def zd1 (year:Int) (month:Int):Int:=(yg year month).val
theorem BK (year:Int) (month:Int):(yg year month).obs (fun _=>True):=by
 unfold yg
 try simp only [vP]
 exact okE
def gb (year:Int) (month:Int):Ctr (Int):=kk tok mixed Tryz.func200 [iv year,iv month] (fun x=>iv x) true (yg year month) (zd1 year month) (fun (_:True)=>BK year month)
def Ke (year:Int) (month:Int) (dom:Int):Sk (Int × Int) :=
 .r 1 (.wh (((((decide (year < 2000))||(decide (year > 2300)))||(decide (month < 1)))||(decide (month > 12)))||(decide (dom < 1))) false ((gb year month).c)) fun x1 =>
 .br ((((((decide (year < 2000))||(decide (year > 2300)))||(decide (month < 1)))||(decide (month > 12)))||(decide (dom < 1)))||(decide (dom > x1)))
 (.fin (0,3))
 (.r 3 ((vP year month dom).c) fun x2 =>
 .r 4 ((qY x2).c) fun x3 =>
 .br (!x3)
 (.fin (0,3))
 (.fin (x2,0)))
def zlb (year:Int) (month:Int) (dom:Int):Int × Int:=(Ke year month dom).val
theorem zdy (year:Int) (month:Int) (dom:Int):(Ke year month dom).obs (fun _=>True):=by
 unfold Ke
 try simp only [gb,vP,qY,Qf]
 exact okG
def Ha (year:Int) (month:Int) (dom:Int):Ctr (Int × Int):=kk tok mixed Tryz.func199 [iv year,iv month,iv dom] (fun x=>.tup [iv x.1,iv x.2]) true (Ke year month dom) (zlb year month dom) (fun (_:True)=>zdy year month dom)
def vm (day:Int) (n:Int):Sk (Int × Int) :=
 .r 1 ((qY day).c) fun x1 =>
 .br (((!x1)||(decide (n < (-5000))))||(decide (n > 5000)))
 (.fin (0,3))
 (.r 3 ((gV day).c) fun x2 =>
 .r 5 (.andl (.p ((12:Int)≠0)) (.p ((12:Int)≠0))) fun _ =>
 .r 6 (.dep ((gb (w64 ((w64 ((w64 ((w64 ((w64 ((12:Int) * x2.1))+x2.2.1)) - 1))+n)).tdiv 12)) (w64 (((w64 ((w64 ((w64 ((w64 ((12:Int) * x2.1))+x2.2.1)) - 1))+n)).tmod 12)+1))).c) fun x3=>(Ha (w64 ((w64 ((w64 ((w64 ((w64 ((12:Int) * x2.1))+x2.2.1)) - 1))+n)).tdiv 12)) (w64 (((w64 ((w64 ((w64 ((w64 ((12:Int) * x2.1))+x2.2.1)) - 1))+n)).tmod 12)+1)) (qO x2.2.2 x3)).c) fun p5 =>
 .fin (p5.2.1,p5.2.2))
def BW (day:Int) (n:Int):Int × Int:=(vm day n).val
theorem Xx (day:Int) (n:Int):(vm day n).obs (fun _=>True):=by
 unfold vm
 try simp only [Ha,gV,gb,qY,Qf]
 exact okG
def Zx (day:Int) (n:Int):Ctr (Int × Int):=kk tok mixed Tryz.func164 [iv day,iv n] (fun x=>.tup [iv x.1,iv x.2]) true (vm day n) (BW day n) (fun (_:True)=>Xx day n)
def KL (day:Int) (t:yw):Sk (Int × Int) :=
 .br ((decide (t.n < 0))||(decide (t.n > 20000)))
 (.fin (0,3))
 (.br (t.unit == 1)
 (.r 4 ((Zx day t.n).c) fun x1 =>
 .fin (x1.1,x1.2))
 (.fin (w64 (day+t.n),0)))
def zmf (day:Int) (t:yw):Int × Int:=(KL day t).val
theorem zgU (day:Int) (t:yw):(KL day t).obs (fun _=>True):=by
 unfold KL
 try simp only [Zx]
 exact okE
def YT (day:Int) (t:yw):Ctr (Int × Int):=kk tok mixed Tryz.func132 [iv day,av t.cells] (fun x=>.tup [iv x.1,iv x.2]) true (KL day t) (zmf day t) (fun (_:True)=>zgU day t)
def Zr (r:jg) (b:ua) (seen:Int):Sk (Int × Int) :=
 .br (b.tenor.kind == 0)
 (.fin (seen,0))
 (.br (b.tenor.kind == 1)
 (.r 5 ((YT seen b.tenor).c) fun x1 =>
 .fin (x1.1,x1.2))
 (.br (b.tenor.kind == 2)
 (.r 7 ((YT b.day b.tenor).c) fun x2 =>
 .fin (x2.1,x2.2))
 (.br (b.tenor.kind == 4)
 (.r 9 ((gG r b.city b.pay).c) fun x3 =>
 .fin (w64 (b.day+x3.1),x3.2))
 (.fin (b.tenor.n,0)))))
def znl (r:jg) (b:ua) (seen:Int):Int × Int:=(Zr r b seen).val
theorem ziR (r:jg) (b:ua) (seen:Int):(Zr r b seen).obs (fun _=>True):=by
 unfold Zr
 try simp only [gG,YT]
 exact okE
def WW (r:jg) (b:ua) (seen:Int):Ctr (Int × Int):=kk tok mixed Tryz.func105 [av r.cells,av b.cells,iv seen] (fun x=>.tup [iv x.1,iv x.2]) true (Zr r b seen) (znl r b seen) (fun (_:True)=>ziR r b seen)
def yB (r:jg) (order:Int) (day:Int):Sk (Int) :=
 .bind true (fun b1=>day≤b1∧b1≤100001)
 (.loop (default:Sum (Int) (Int)) (fun i2=>day≤i2.1∧i2.1≤100001) (fun i2=>2 * (100001 - i2.1).toNat+(if i2.2 then 1 else 0)) ((day,true):Int × Bool)
 (fun (i2:Int × Bool)=>⟨[(2,iv i2.1),(7,bv i2.2)],[]⟩) fun i2 =>
 .br i2.2
 (.bind true (fun b3=>i2.1≤b3.1∧b3.1≤100001∧(b3.2.1=true→i2.1 < b3.1)∧(b3.2.1=false→b3.1=i2.1))
 (.bind true (fun b4=>i2.1≤b4.1∧b4.1≤100001∧(b4.2.1=true→i2.1 < b4.1)∧(b4.2.1=false→b4.1=i2.1))
 (.loop (default:Sum (Sum (Sum (Sum (Int) (Int)) (Int × Bool)) (Int × Bool × (List Halt) × Int × Int × Bool)) (Int × Bool × Int × Bool)) (fun i5=>i5.2.2≤r.halts.length∧i2.1≤i5.1∧i5.1≤100001∧(i5.2.1=true→i2.1 < i5.1)∧(i5.2.1=false→i5.1=i2.1)) (fun i5=>r.halts.length - i5.2.2) ((i2.1,false,0):Int × Bool × Nat)
 (fun (i5:Int × Bool × Nat)=>⟨[(2,iv i5.1),(7,bv i5.2.1),(14,iv (i5.2.2:Int))],[]⟩) fun i5 =>
 .bnd 12 0 r.halts.length <|
 .br (decide ((i5.2.2:Int) < ((r.halts.length:Nat):Int)))
 (.r 6 (.p (ixP (i5.2.2:Int) r.halts.length)) fun _ =>
 .br (((((r.halts.getD i5.2.2 default).order) == order)&&(decide (((r.halts.getD i5.2.2 default).from_)≤i5.1)))&&(decide (i5.1≤((r.halts.getD i5.2.2 default).to_))))
 (.r 9 .z fun _ =>
 .wi 14 (w64 ((i5.2.2:Int)+1)) ((i5.2.2+1:Nat):Int) <|
 .fin (.inr (w64 (((r.halts.getD i5.2.2 default).to_)+1),true,i5.2.2+1)))
 (.r 9 .z fun _ =>
 .wi 14 (w64 ((i5.2.2:Int)+1)) ((i5.2.2+1:Nat):Int) <|
 .fin (.inr (i5.1,i5.2.1,i5.2.2+1))))
 (.fin (.inl (.inr (i5.1,i5.2.1,(i5.2.2:Int),decide ((i5.2.2:Int) < ((r.halts.length:Nat):Int)))))))
 (fun (b4:Int × Bool × Int × Bool)=>⟨[(2,iv b4.1),(7,bv b4.2.1),(14,iv b4.2.2.1),(15,bv b4.2.2.2)],[]⟩) fun b4 =>
 .fin (.inr (b4.1,b4.2.1,r.halts,((r.halts.length:Nat):Int),b4.2.2.1,b4.2.2.2)))
 (fun (b3:Int × Bool × (List Halt) × Int × Int × Bool)=>⟨[(2,iv b3.1),(7,bv b3.2.1),(12,lv Halt.cells b3.2.2.1),(13,iv b3.2.2.2.1),(14,iv b3.2.2.2.2.1),(15,bv b3.2.2.2.2.2)],[]⟩) fun b3 =>
 .fin (.inr (b3.1,b3.2.1)))
 (.fin (.inl (.inr i2.1))))
 (fun (b1:Int)=>⟨[(2,iv b1)],[]⟩) fun b1 =>
 .fin b1
def ze5 (r:jg) (order:Int) (day:Int):Int:=(yB r order day).val
theorem zgh (r:jg) (order:Int) (day:Int) (hP:r.HaltOK∧0≤day∧day≤100001):(yB r order day).pst (fun (x:Int)=>day≤x∧x≤100001):=by
 refine Sk.pst_of _ ?_
 unfold yB
 simp only [Sk.pstq,Sk.isLoop,reduceCtorEq,ON,kk,jg.HaltOK,maxLen]
 obtain ⟨hh,hd⟩:=hP
 refine ⟨⟨by omega,fun i hi=>⟨fun hch=>⟨⟨⟨⟨by omega,⟨by omega,by omega⟩⟩,fun j hj=>⟨fun hc _=>⟨fun ht _=>⟨⟨?_,?_⟩,?_⟩,fun ht _=>⟨⟨?_,hj.2⟩,?_⟩⟩,fun hc=>hj.2⟩⟩,fun b hb=>hb⟩,fun b _ hb=>⟨?_,?_⟩⟩,fun hch=>hi⟩⟩,fun b hb=>hb⟩
 all_goals (try simp only [LN] at hc)
 all_goals (try simp only [LN] at ht)
 ·omega
 ·have h2:=hh j.2.2 (by omega)
  rw [jj (by omega) (by omega)]
  omega
 ·omega
 ·omega
 ·omega
 ·omega
 ·rw [if_pos hch]
  cases hb2:b.2.1 with
  | true=>have:=hb.2.2.1 hb2; simp only [if_true]; omega
  | false=>have:=hb.2.2.2 hb2; simp only [Bool.false_eq_true,if_false]; omega
theorem zdO (r:jg) (order:Int) (day:Int):(fun (x:Int)=>(r.HaltOK∧0≤day∧day≤100001)→(day≤x∧x≤100001)) (ze5 r order day):=fun hP=>Sk.pval _ (zgh r order day hP)
theorem zhD (r:jg) (order:Int) (day:Int) (hh:r.HaltOK) (hd:0≤day∧day≤100001):(yB r order day).obs (fun _=>True):=by
 simp only [jg.HaltOK] at hh
 refine Sk.obs_of _ ?_
 unfold yB
 simp only [Sk.obq,Sk.isLoop,reduceCtorEq,ON,kk,jg.HaltOK,maxLen]
 refine ⟨⟨by omega,by omega⟩,fun i hi=>⟨fun hch=>⟨⟨⟨⟨by omega,by omega,by omega⟩,fun j hj hl=>⟨fun hc=>⟨⟨by omega,of_decide_eq_true hc⟩,fun _=>⟨fun ht _=>⟨?_,⟨?_,?_⟩,?_⟩,fun ht _=>⟨?_,⟨?_,hj.2⟩,?_⟩⟩⟩,fun hc=>hj.2⟩⟩,fun b hb=>hb⟩,fun b _ hb=>⟨?_,?_⟩⟩,fun hch=>hi⟩⟩
 all_goals (try simp only [LN] at hc)
 all_goals (try simp only [LN] at ht)
 ·exact jj (by omega) (by omega)
 ·omega
 ·have h2:=hh j.2.2 (by omega)
  rw [jj (by omega) (by omega)]
  omega
 ·omega
 ·exact jj (by omega) (by omega)
 ·omega
 ·omega
 ·omega
 ·rw [if_pos hch]
  cases hb2:b.2.1 with
  | true=>have:=hb.2.2.1 hb2; simp only [if_true]; omega
  | false=>have:=hb.2.2.2 hb2; simp only [Bool.false_eq_true,if_false]; omega
def Wu (r:jg) (order:Int) (day:Int):Ctr (Int):=kk tok mixed Tryz.func134 [av r.cells,iv order,iv day] (fun x=>iv x) true (yB r order day) (ze5 r order day) (fun (h:(r.HaltOK)∧(0≤day∧day≤100001))=>zhD r order day h.1 h.2) (fun (x:Int)=>(r.HaltOK∧0≤day∧day≤100001)→(day≤x∧x≤100001)) (zdO r order day)
def Jv (c_:zk) (day:Int):Sk (Bool) :=
 .r 1 ((gV day).c) fun x1 =>
 .r 2 (.andl (.p ((7:Int)≠0)) (.dep ((jr c_.rest ((w64 (day+5)).tmod 7)).c) fun x2=>.dep (.wh (!x2) true ((jr c_.feasts (w64 ((w64 ((100:Int) * x1.2.1))+x1.2.2))).c)) fun x3=>.wh ((!x2)&&(!x3)) true ((jr c_.shut day).c))) fun p5 =>
 .fin (((!p5.1)&&(!p5.2.1))&&(!p5.2.2))
def zh (c_:zk) (day:Int):Bool:=(Jv c_ day).val
theorem zb8 (c_:zk) (day:Int):(Jv c_ day).obs (fun _=>True):=by
 unfold Jv
 try simp only [gV,jr]
 exact okD
def zev (c_:zk) (day:Int):Ctr (Bool):=kk tok mixed Tryz.func202 [av c_.cells,iv day] (fun x=>bv x) true (Jv c_ day) (zh c_ day) (fun (_:True)=>zb8 c_ day)
theorem zcM (c_:zk) (day:Int):FnA Tryz.prog 202 [av c_.cells,iv day] [] (bv (zh c_ day)) []:=(zev c_ day).pf trivial
end
end Go.Proofs.YtilbddpghnnmhaaGreatDoor
