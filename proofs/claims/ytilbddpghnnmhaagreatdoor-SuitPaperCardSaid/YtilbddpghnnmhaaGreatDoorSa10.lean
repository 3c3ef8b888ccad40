/- Functions, as sketches. -/
import Derived.Test.YtilbddpghnnmhaaGreatDoorSa8
import Derived.Test.YtilbddpghnnmhaaGreatDoorAvYl
namespace Go.Proofs.YtilbddpghnnmhaaGreatDoor
noncomputable section
open Go Go.Av
set_option linter.unusedSimpArgs false
set_option linter.unusedVariables false
set_option maxHeartbeats 1000000
set_option maxRecDepth 100000
def KY (before:Int) (flags:Int):Sk (Int) :=
 .br (((qg .i64 flags 2) != 0)||(before != 0))
 (.fin 1)
 (.br ((qg .i64 flags 4) != 0)
 (.fin 2)
 (.fin 0))
def HU (before:Int) (flags:Int):Int:=(KY before flags).val
theorem zhc (before:Int) (flags:Int):(KY before flags).obs (fun _=>True):=by
  unfold KY
  exact okE

def QZ (before:Int) (flags:Int):Ctr (Int):=kk tok mixed Tryz.func183 [iv before,iv flags] (fun x=>iv x) true (KY before flags) (HU before flags) (fun (_:True)=>zhc before flags)
theorem zmt (f:jh) (day part:Int):(jO f day part).length≤f.signs.length:=by
  unfold jO
  rw [List.length_map]
  exact Nat.le_trans (List.length_filter_le _ _) (by simp)
theorem zfx {f:jh} {day part:Int} {i:Nat} {y:Int × qt} (h:(jO f day part)[i]? = some y):i < f.signs.length∧0≤y.1∧y.1 < f.signs.length∧y.2=f.signs.getD y.1.toNat default∧y.2.kind=2∧y.2.part=part∧y.2.day≤day∧km (qH f day) y.1 false=false:=by
  have h1:=(List.getElem?_eq_some_iff.1 h).1
  have h2:=List.mem_of_getElem? h
  have h3:=zmt f day part
  unfold jO at h2
  obtain ⟨q,hq,rfl⟩:=List.mem_map.1 h2
  rw [List.mem_filter,List.mem_range] at hq
  obtain ⟨hq1,hq2⟩:=hq
  unfold zaR at hq2
  simp only [Bool.and_eq_true,beq_iff_eq,decide_eq_true_eq,Bool.not_eq_true'] at hq2
  exact ⟨by omega,by omega,by omega,rfl,hq2.1.1.1,hq2.1.1.2,hq2.1.2,hq2.2⟩
def zW (f:jh) (part:Int) (day:Int):Sk (GI) :=
 .r 2 ((uq f day).c) fun x1 =>
 .r 3 ((vN f part day).c) fun _ =>
 .rf (zi f day part) (fun ki3 i3=>i3.1.length≤ki3∧i3.2.2.2.2.length≤ki3∧∀ y,y∈i3.1→0≤y∧y < (f.signs.length:Int)∧(f.signs.getD y.toNat default).day≤day) (fun e5=>e5.1.length≤f.signs.length∧∀ y,y∈e5.1→0≤y∧y < (f.signs.length:Int)∧(f.signs.getD y.toNat default).day≤day) 0 (([],f.bill.payee,f.bill.payee == (-1),0,[]):(List Int) × Int × Bool × Int × (List Int))
 (fun (i3:(List Int) × Int × Bool × Int × (List Int))=>[(100000,jz 3 1 jC i3.1),(100001,jz 3 1 jC i3.2.2.2.2),(7,.box ([ow 100000 i3.1]++[iv i3.2.1,iv (-1),bv i3.2.2.1,iv i3.2.2.2.1,ow 100001 i3.2.2.2.2]))]) (fun (e5:(List Int) × Int × Int × Bool × Int × (List Int))=>[(100002,jz 3 1 jC e5.1),(100003,jz 3 1 jC e5.2.2.2.2.2),(7,.box ([ow 100002 e5.1]++[iv e5.2.1,iv e5.2.2.1,bv e5.2.2.2.1,iv e5.2.2.2.2.1,ow 100003 e5.2.2.2.2.2]))])
 (fun i3 y4 =>
 .br ((!i3.2.2.1)&&(y4.2.who != i3.2.1))
 (.fin (.inl (i3.1,i3.2.1,y4.1,i3.2.2.1,i3.2.2.2.1,i3.2.2.2.2)))
 (.r 8 (.andl (.o [.nrm (qk kA [y4.1])]) (.andl (.o [.nrm (gy kA i3.1 [y4.1])]) (.andl (.t (kA.ones [y4.1])) (.p (szP i3.1.length [y4.1].length 8))))) fun _ =>
 .r 9 ((QZ i3.2.2.2.1 y4.2.flags).c) fun x6 =>
 .br (x1.2&&(decide (y4.2.day > x1.1)))
 (.r 11 (.andl (.o [.nrm (qk kA [y4.1])]) (.andl (.o [.nrm (gy kA i3.2.2.2.2 [y4.1])]) (.andl (.t (kA.ones [y4.1])) (.p (szP i3.2.2.2.2.length [y4.1].length 8))))) fun _ =>
 .fin (.inr (i3.1++[y4.1],y4.2.to_,y4.2.to_ == (-1),x6,i3.2.2.2.2++[y4.1])))
 (.fin (.inr (i3.1++[y4.1],y4.2.to_,y4.2.to_ == (-1),x6,i3.2.2.2.2))))) fun r=>match r with
 | .inl e5=>(.fin ({ signs:=e5.1,holder:=e5.2.1,broken:=e5.2.2.1,bearer:=e5.2.2.2.1,agent:=e5.2.2.2.2.1,late:=e5.2.2.2.2.2 }:GI))
 | .inr j7=>(.fin ({ signs:=j7.1,holder:=j7.2.1,broken:=(-1),bearer:=j7.2.2.1,agent:=j7.2.2.2.1,late:=j7.2.2.2.2 }:GI))
def ZQ (f:jh) (part:Int) (day:Int):GI:=(zW f part day).val
theorem zd6 (f:jh) (part:Int) (day:Int):(zW f part day).pst (fun (x:GI)=>x.signs.length≤f.signs.length∧∀ y,y∈x.signs→0≤y∧y < (f.signs.length:Int)∧(f.signs.getD y.toNat default).day≤day):=by
  refine Sk.pst_of _ ?_
  unfold zW
  simp only [Sk.pstq,Sk.isLoop,reduceCtorEq,ON,kk,uq,vN,QZ,zi,Sum.forall,Qu,forall_eq,maxLen]
  refine fun _=>⟨⟨by simp,by simp,fun y h=>by cases h⟩,fun i s y hs hy=>?_,fun a ha=>ha,fun b hb=>⟨Nat.le_trans hb.1 (zmt _ _ _),hb.2.2⟩⟩
  have hm:=zfx hy
  have hnew:∀ z,z∈s.1++[y.1]→0≤z∧z < (f.signs.length:Int)∧(f.signs.getD z.toNat default).day≤day:=fun z hz=>by
    rcases List.mem_append.1 hz with h | h
    · exact hs.2.2 z h
    · simp only [List.mem_singleton] at h
      subst h
      exact ⟨hm.2.1,hm.2.2.1,by rw [← hm.2.2.2.1]; exact hm.2.2.2.2.2.2.1⟩
  have hl1:(s.1++[y.1]).length=s.1.length+1:=by simp
  have hl2:(s.2.2.2.2++[y.1]).length=s.2.2.2.2.length+1:=by simp
  have hl3:[y.1].length=1:=rfl
  rw [hl1,hl2]
  exact ⟨fun _=>⟨by omega,hs.2.2⟩,fun _ _=>⟨fun _ _=>⟨by omega,by omega,hnew⟩,fun _=>⟨by omega,by omega,hnew⟩⟩⟩

theorem zcq (f:jh) (part:Int) (day:Int):(fun (x:GI)=>x.signs.length≤f.signs.length∧∀ y,y∈x.signs→0≤y∧y < (f.signs.length:Int)∧(f.signs.getD y.toNat default).day≤day) (ZQ f part day):=have h:=Sk.pval _ (zd6 f part day); h
theorem zeY (f:jh) (part:Int) (day:Int) (hf:f.Small):(zW f part day).obs (fun _=>True):=by
  refine Sk.obs_of _ ?_
  unfold zW
  simp only [Sk.obq,Sk.isLoop,reduceCtorEq,ON,kk,Sk.pstq,uq,vN,QZ,zi,Sum.forall,Qu,forall_eq,maxLen]
  refine fun _=>⟨⟨by simp,by simp,fun y h=>by cases h⟩,fun i s y hs hy=>?_⟩
  have hm:=zfx hy
  have hnew:∀ z,z∈s.1++[y.1]→0≤z∧z < (f.signs.length:Int)∧(f.signs.getD z.toNat default).day≤day:=fun z hz=>by
    rcases List.mem_append.1 hz with h | h
    · exact hs.2.2 z h
    · simp only [List.mem_singleton] at h
      subst h
      exact ⟨hm.2.1,hm.2.2.1,by rw [← hm.2.2.2.1]; exact hm.2.2.2.2.2.2.1⟩
  have hl1:(s.1++[y.1]).length=s.1.length+1:=by simp
  have hl2:(s.2.2.2.2++[y.1]).length=s.2.2.2.2.length+1:=by simp
  have hl3:[y.1].length=1:=rfl
  rw [hl1,hl2,hl3]
  have hf1:=hf.1
  exact ⟨⟨fun _=>⟨by omega,hs.2.2⟩,fun _ _=>⟨fun _ _=>⟨by omega,by omega,hnew⟩,fun _=>⟨by omega,by omega,hnew⟩⟩⟩,fun _=>⟨by omega,hs.2.2⟩,fun _=>⟨⟨by omega,by omega⟩,fun _=>⟨fun _=>⟨⟨by omega,by omega⟩,fun _=>⟨by omega,by omega,hnew⟩⟩,fun _=>⟨by omega,by omega,hnew⟩⟩⟩⟩

def YB (f:jh) (part:Int) (day:Int):Ctr (GI):=kk tok mixed Tryz.func146 [av f.cells,iv part,iv day] (fun x=>av x.cells) false (zW f part day) (ZQ f part day) (fun (h:(f.Small))=>zeY f part day h) (fun (x:GI)=>x.signs.length≤f.signs.length∧∀ y,y∈x.signs→0≤y∧y < (f.signs.length:Int)∧(f.signs.getD y.toNat default).day≤day) (zcq f part day)
def zq (v:kS) (part:Int):Sk ((List Int)) :=
 .r 1 ((YB v.all part v.day).c) fun x1 =>
 .fin x1.signs
def jp (v:kS) (part:Int):(List Int):=(zq v part).val
theorem Bw (v:kS) (part:Int):(zq v part).pst (fun (x:(List Int))=>x.length≤v.all.signs.length∧∀ y,y∈x→0≤y∧y < (v.all.signs.length:Int)∧(v.all.signs.getD y.toNat default).day≤v.day):=by
  unfold zq
  try simp only [YB]
  exact okP

theorem us (v:kS) (part:Int):(fun (x:(List Int))=>x.length≤v.all.signs.length∧∀ y,y∈x→0≤y∧y < (v.all.signs.length:Int)∧(v.all.signs.getD y.toNat default).day≤v.day) (jp v part):=have h:=Sk.pval _ (Bw v part); h
theorem zbs (v:kS) (part:Int) (h_v_all_Small:v.all.Small):(zq v part).obs (fun _=>True):=by
  unfold zq
  try simp only [YB]
  exact okD

def QE (v:kS) (part:Int):Ctr ((List Int)):=kk tok mixed Tryz.func116 [av v.cells,iv part] (fun x=>lv jC x) false (zq v part) (jp v part) (fun (h:(v.all.Small))=>zbs v part h) (fun (x:(List Int))=>x.length≤v.all.signs.length∧∀ y,y∈x→0≤y∧y < (v.all.signs.length:Int)∧(v.all.signs.getD y.toNat default).day≤v.day) (us v part)
def ur (c_:qc) (links:List Int):Sk (Unit) :=
 .fin ()
def Wc (c_:qc) (links:List Int):Unit:=(ur c_ links).val
theorem FQ (c_:qc) (links:List Int):Wc c_ links=():=rfl
theorem FJ (c_:qc) (links:List Int):(ur c_ links).obs (fun _=>True):=by
  unfold ur
  exact okE

def UM (c_:qc) (links:List Int):Ctr (Unit):=kk tok mixed Tryz.func117 [av c_.cells,lv jC links] (fun x=>.fn 147 [.ref c_.cells,.ref [slD jC links]]) false (ur c_ links) (Wc c_ links) (fun (_:True)=>FJ c_ links)
structure yu where
  firm:Int
  sign:Int
  state:Int
  deriving Inhabited
def yu.cells (c:yu):List D:=[dI c.firm,dI c.sign,dI c.state]
def yu.E:Enc yu:=⟨yu.cells,3,fun _=>rfl,fun _=>rfl⟩
def uo (x_:vS) (v:Int) (v':Int):Sk (Bool) :=
 .fin ((x_.kind == v)&&(x_.at_ == v'))
def kf (x_:vS) (v:Int) (v':Int):Bool:=(uo x_ v v').val
theorem Vp (x_:vS) (v:Int) (v':Int):kf x_ v v'=((x_.kind == v)&&(x_.at_ == v')):=rfl
theorem FB (x_:vS) (v:Int) (v':Int):(uo x_ v v').obs (fun _=>True):=by
  unfold uo
  exact okE

def Km (x_:vS) (v:Int) (v':Int):Ctr (Bool):=kk tok mixed Tryz.func218 [av x_.cells,.ref [dI v],.ref [dI v']] (fun x=>bv x) true (uo x_ v v') (kf x_ v v') (fun (_:True)=>FB x_ v v')
def kP (s:List vS) (v:Int) (v':Int):Sk (Int) :=
 .bind true (fun b1=>∀ q,q < s.length→kf (s.getD q default) v v'=false)
 (.loop (default:Sum (Int) (Unit)) (fun i2=>∀ q,q < i2→kf (s.getD q default) v v'=false) (fun i2=>s.length - i2) (0:Nat)
 (fun (i2:Nat)=>⟨[(8,iv ((i2:Nat):Int))],[]⟩) fun i2 =>
 .bnd 0 0 s.length <|
 .br (decide (((i2:Nat):Int) < ((s.length:Nat):Int)))
 (.r 4 (.andl (.p (ixP ((i2:Nat):Int) s.length)) ((Km (s.getD i2 default) v v').c)) fun x3 =>
 .br x3
 (.fin (.inl (.inl ((i2:Nat):Int))))
 (.r 6 .z fun _ =>
 .wi 8 (w64 (((i2:Nat):Int)+1)) ((i2+1:Nat):Int) <|
 .fin (.inr (i2+1))))
 (.fin (.inl (.inr ()))))
 (fun (_:Unit)=>⟨[],[]⟩) fun _ =>
 .fin (-1)
def Zv (s:List vS) (v:Int) (v':Int):Int:=(kP s v v').val
theorem Yy (s:List vS) (v:Int) (v':Int):(kP s v v').pst (fun (x:Int)=>(x = -1∧∀ q,q < s.length→kf (s.getD q default) v v'=false)∨(0≤x∧x < s.length∧kf (s.getD x.toNat default) v v'=true∧∀ q,(q:Nat) < x.toNat→kf (s.getD q default) v v'=false)):=by
  unfold kP
  try simp only [Km,Vp]
  exact okQ

theorem UW (s:List vS) (v:Int) (v':Int):(fun (x:Int)=>(x = -1∧∀ q,q < s.length→kf (s.getD q default) v v'=false)∨(0≤x∧x < s.length∧kf (s.getD x.toNat default) v v'=true∧∀ q,(q:Nat) < x.toNat→kf (s.getD q default) v v'=false)) (Zv s v v'):=have h:=Sk.pval _ (Yy s v v'); h
theorem Gp (s:List vS) (v:Int) (v':Int):(kP s v v').obs (fun _=>True):=by
  unfold kP
  try simp only [Km,Vp]
  exact okG

def KJ (s:List vS) (v:Int) (v':Int):Ctr (Int):=kk tok mixed Tryz.func217 [lv vS.cells s,.fn 218 [.ref [dI v],.ref [dI v']]] (fun x=>iv x) true (kP s v v') (Zv s v v') (fun (_:True)=>Gp s v v') (fun (x:Int)=>(x = -1∧∀ q,q < s.length→kf (s.getD q default) v v'=false)∨(0≤x∧x < s.length∧kf (s.getD x.toNat default) v v'=true∧∀ q,(q:Nat) < x.toNat→kf (s.getD q default) v v'=false)) (UW s v v')
def Jt (v:kS) (kind:Int) (sign:Int):Sk (Int) :=
 .r 1 ((KJ v.now.facts kind sign).c) fun x1 =>
 .br (decide (x1 < 0))
 (.fin 2)
 (.r 4 (.p (ixP x1 v.now.facts.length)) fun _ =>
 .br (((v.now.facts.getD x1.toNat default).n) == 0)
 (.fin 0)
 (.fin 1))
def ziF (v:kS) (kind:Int) (sign:Int):Int:=(Jt v kind sign).val
theorem zca (v:kS) (kind:Int) (sign:Int):(Jt v kind sign).obs (fun _=>True):=by
  unfold Jt
  try simp only [KJ]
  exact okD

def ZY (v:kS) (kind:Int) (sign:Int):Ctr (Int):=kk tok mixed Tryz.func184 [av v.cells,iv kind,iv sign] (fun x=>iv x) true (Jt v kind sign) (ziF v kind sign) (fun (_:True)=>zca v kind sign)
def Yx (a:Int) (b:Int):Sk (Int) :=
 .br ((a == 0)||(b == 0))
 (.fin 0)
 (.br ((a == 2)||(b == 2))
 (.fin 2)
 (.fin 1))
def ZF (a:Int) (b:Int):Int:=(Yx a b).val
theorem zm2 (a:Int) (b:Int):(Yx a b).obs (fun _=>True):=by
  unfold Yx
  exact okE

def QI (a:Int) (b:Int):Ctr (Int):=kk tok mixed Tryz.func151 [iv a,iv b] (fun x=>iv x) true (Yx a b) (ZF a b) (fun (_:True)=>zm2 a b)
def Ze (a:Int) (b:Int):Sk (Int) :=
 .br ((a == 1)||(b == 1))
 (.fin 1)
 (.br ((a == 2)||(b == 2))
 (.fin 2)
 (.fin 0))
def znc (a:Int) (b:Int):Int:=(Ze a b).val
theorem zhX (a:Int) (b:Int):(Ze a b).obs (fun _=>True):=by
  unfold Ze
  exact okE

def za0 (a:Int) (b:Int):Ctr (Int):=kk tok mixed Tryz.func185 [iv a,iv b] (fun x=>iv x) true (Ze a b) (znc a b) (fun (_:True)=>zhX a b)
def ul (c_:qc) (link:Int) (last:Int):Sk (Int) :=
 .r 2 (.dep ((ZY c_.view 0 link).c) fun x1=>.dep ((ZY c_.view 2 link).c) fun x2=>(QI x1 x2).c) fun p8 =>
 .r 3 (.dep ((qN c_.r c_.forum 3 ({ file:=c_.view.now,sign:=link,holder:=last,defence:=(-1),due:=c_.due,day:=c_.view.day }:ke)).c) fun x4=>.dep ((qK x4).c) fun x5=>(za0 p8.2.2 x5).c) fun p7 =>
 .fin p7.2.2
def kr (c_:qc) (link:Int) (last:Int):Int:=(ul c_ link last).val
theorem FO (c_:qc) (link:Int) (last:Int) (h_c__view_now_Small:c_.view.now.Small) (h_c__r_ByOK:c_.r.ByOK) (h_c__r_Small:c_.r.Small):(ul c_ link last).obs (fun _=>True):=by
  unfold ul
  try simp only [qN,qK,QI,za0,ZY]
  exact okD

def VX (c_:qc) (link:Int) (last:Int):Ctr (Int):=kk tok mixed Tryz.func148 [av c_.cells,iv link,iv last] (fun x=>iv x) true (ul c_ link last) (kr c_ link last) (fun (h:(c_.view.now.Small)∧(c_.r.ByOK)∧(c_.r.Small))=>FO c_ link last h.1 h.2.1 h.2.2)
end
end Go.Proofs.YtilbddpghnnmhaaGreatDoor
namespace Go.Proofs.YtilbddpghnnmhaaGreatDoor
noncomputable section
open Go Go.Av
set_option linter.unusedSimpArgs false
set_option linter.unusedVariables false
set_option maxHeartbeats 1000000
set_option maxRecDepth 100000
/-- the owners along the links: the last one's answer stands for all -/
def Je (c:qc) (last:Int):List Int→yu→List yu
  | [],o=>[o]
  | l :: r,o=>bif kr c l last == 0 then [o] else bif kr c l last == 2 then { o with state:=2 } :: Je c last r { firm:=(c.view.now.signs.getD l.toNat default).to_,sign:=l,state:=2 } else Je c last r { o with firm:=(c.view.now.signs.getD l.toNat default).to_,sign:=l }
def Vz (links:List Int):Int:=links.getD (w64 (((links.length:Nat):Int) - 1)).toNat default
def jJ (c:qc) (links:List Int):List yu:=Je c (Vz links) links { firm:=c.view.now.bill.payee,sign:=-1,state:=1 }
def zfg (y:yu):List AV:=[av y.cells]
def ownB:Code:=Tryz.f147.body.getD .skip
def zsW:Code:=cB (cA (cB ownB))
def znu:Code:=cA (cA zsW)
def Hw:Code:=cB (cB ownB)
def zsQ:Code:=cA (cA (cB (cB znu)))
def zr6:Code:=cB (cB (cB znu))
def zrJ:Code:=cB (cB (cB zsQ))
def zlK:Code:=cB zrJ
def zrN:Code:=cA (cB (cA zrJ))
def zpJ:Code:=cA (cB zrN)
def zsR:Code:=cB (cB zrN)
def WL:Array Oper:=opsOf zpJ
def Hs:Array Oper:=opsOf Hw
def zlj:List Item:=[.inBlock 1,.code zr6,.inLoop znu,.inBlock 0,.code Hw]
def ziB (c:qc) (links:List Int) (i:Nat) (o:yu) (sl:List (Nat × AV)):St:=⟨sl++[(1,.ref c.cells),(2,.ref [slD jC links]),(4,.ptr 4 0),(14,lv jC links),(15,iv ((links.length:Nat):Int)),(16,iv ((i:Nat):Int))],[(4,.box (o.cells.map .d))]⟩
def zqg (c:qc) (links:List Int) (i:Nat) (s:Int):yu:={ firm:=(c.view.now.signs.getD (links.getD i default).toNat default).to_,sign:=links.getD i default,state:=s }
/-- a round up to the yield,or to the turn -/
def zc1 (c:qc) (links:List Int) (i:Nat):Sk (Option Bool) :=
  .bnd 14 0 links.length <|
  .br (decide (((i:Nat):Int) < ((links.length:Nat):Int)))
    (.r 3 (.p (ixP ((i:Nat):Int) links.length)) fun _ =>
      .r 4 (.andl (.p (ixP (w64 (((links.length:Nat):Int) - 1)) links.length)) ((VX c (links.getD i default) (Vz links)).c)) fun x =>
      .br (x == 0) (.fin none) (.br (x == 2) (.r 7 .z fun _=>.fin (some true)) (.fin (some false))))
    (.fin none)
/-- the turn to the next link -/
def zrF (c:qc) (links:List Int) (i:Nat):Sk Unit :=
  .bnd 14 0 links.length <| .r 9 (.p (ixP (links.getD i default) c.view.now.signs.length)) fun _=>.r 10 .z fun _=>.wi 16 (w64 (((i:Nat):Int)+1)) ((i+1:Nat):Int) <| .fin ()
/-- what is asked: the links are numbers of signatures -/
def znV (c:qc) (links:List Int):Prop:=links.length≤1000000∧(∀ i,i < links.length→0≤links.getD i default∧links.getD i default < c.view.now.signs.length)∧∀ i,i < links.length→(VX c (links.getD i default) (Vz links)).pre
def zrP (c:qc) (links:List Int) (i:Nat) (o:yu):Option Bool→zqt
  | none=>.go [.code Hw] ⟨[(4,.ptr 4 0)],[(4,.box (o.cells.map .d))]⟩
  | some true=>.go (.code zpJ :: .code zsR :: .code zlK :: zlj) (ziB c links i { o with state:=2 } [(6,iv (links.getD i default))])
  | some false=>.go (.code zlK :: zlj) (ziB c links i o [(6,iv (links.getD i default))])
theorem GT (c:qc) (links:List Int) (hp:znV c links):ItA Tryz.prog 147 [.ref c.cells,.ref [slD jC links]] ((jJ c links).map zfg):=by
  refine ItA.intro (T:=TT) Tryz.func147 rfl (by kernel_rfl) (Nat.le_of_ble_eq_true (by kernel_rfl)) (fun X=>?_)
  have hr8:zpJ=.region 8 WL false:=by kernel_rfl
  have hr11:Hw=.region 11 Hs false:=by kernel_rfl
  have hg8:List.range WL.size=[0,1,2,3]:=by kernel_rfl
  have hg11:List.range Hs.size=[0,1,2]:=by kernel_rfl
  have hys:∀ k o pre r,jJ c links=pre++o :: r→pre.length=k→((jJ c links).map zfg)[k]? = some (zfg o):=fun k o pre r h hk=>by
    rw [h]; subst hk; simp
  have fin:∀ k o pre,jJ c links=pre++[o]→pre.length=k→G (X.g TT Tryz.f147 (X.H k)) [.code Hw] ⟨[(4,.ptr 4 0)],[(4,.box (o.cells.map .d))]⟩:=by
    intro k o pre h hk
    rw [hr11]
    refine G.yr ?_
    rw [hg11]
    refine YW.mvC (o:=Hs.getD 0 default) (d:=50) (u:=0) (by kernel_rfl) (by kernel_rfl) (by kernel_rfl) (by simp) (by kernel_rfl) ?_
    refine YW.opC tok mixed (o:=Hs.getD 1 default) ⟨[(51,av o.cells),(4,.ptr 4 0)],[(4,.box (o.cells.map .d))]⟩ (by kernel_rfl) (by kernel_rfl) (by kernel_rfl) ?_
    refine YW.ylC (o:=Hs.getD 2 default) (d:=52) (u:=50) (n:=k) (ts:=[51]) (c:={ callee:=.value (.tmp 50),args:=#[.tmp 51],argTypes:=#[211] }) (by kernel_rfl) (by kernel_rfl) (by kernel_rfl) rfl (by simp) (by kernel_rfl) (hys k o pre [] h hk) rfl (by kernel_rfl) (by kernel_rfl) ?_ ?_
    · refine YW.nil (T:=TT) (fn:=Tryz.f147) (by simp) (ItX.ret Tryz.func147 (by kernel_rfl) (fun C h'=>.inl ?_)).1
      have:((jJ c links).map zfg).length=k+1:=by rw [h]; simp [hk]
      rw [this]
      exact h'
    · exact YW.nil (T:=TT) (fn:=Tryz.f147) (by simp) (ItX.ret Tryz.func147 (by kernel_rfl) (fun C h'=>.inr h')).1
  have key:∀ d i,i+d=links.length→∀ k o pre,jJ c links=pre++Je c (Vz links) (links.drop i) o→pre.length=k→G (X.g TT Tryz.f147 (X.H k)) [.code znu,.inLoop znu,.inBlock 0,.code Hw] (ziB c links i o []):=by
    intro d
    induction d with
    | zero =>
      intro i hi k o pre h hk
      refine ItX.sk tok mixed Tryz.func147 _ (zc1 c links i) (zrP c links i o) 100 (by kernel_rfl) ?_ ?_
      · refine Sk.obs_of _ ?_
        simp only [zc1,Sk.obq]
        refine fun _=>⟨fun hd=>?_,fun _=>trivial⟩
        simp at hd
        omega
      · intro a ha
        have:(zc1 c links i).val=none:=by
          have e:decide (((i:Nat):Int) < ((links.length:Nat):Int))=false:=decide_eq_false (by omega)
          simp only [zc1,Sk.val,e,cond_false]
        rw [this] at ha
        subst ha
        refine fin k o pre ?_ hk
        rw [h,List.drop_of_length_le (by omega)]
        rfl
    | succ d ih =>
      intro i hi k o pre h hk
      have hlt:i < links.length:=by omega
      have hdrop:links.drop i=links.getD i default :: links.drop (i+1):=by
        rw [List.drop_eq_getElem_cons hlt]
        simp [List.getD,hlt]
      have next:∀ k' o' pre' st,LeS st (ziB c links i o' [(6,iv (links.getD i default))])→jJ c links=pre'++Je c (Vz links) (links.drop (i+1)) (zqg c links i o'.state)→pre'.length=k'→G (X.g TT Tryz.f147 (X.H k')) (.code zlK :: zlj) st:=by
        intro k' o' pre' st hst h' hk'
        refine .le hst ?_
        refine ItX.sk tok mixed Tryz.func147 _ (zrF c links i) (fun _=>.go [.inLoop znu,.inBlock 0,.code Hw] (ziB c links (i+1) (zqg c links i o'.state) [])) 100 (by kernel_rfl) ?_ (fun _ _=>.inLoop (ih (i+1) (by omega) k' _ pre' h' hk'))
        refine Sk.obs_of _ ?_
        simp only [zrF,Sk.obq,Cal.z,Cal.p,ixP,maxLen]
        have q1:=hp.2.1 i hlt
        have q2:=hp.1
        refine fun _=>⟨by omega,fun _ _ _=>⟨trivial,fun _ _ _=>⟨?_,trivial⟩⟩⟩
        refine (jj ?_ ?_).trans ?_ <;> omega
      refine ItX.sk tok mixed Tryz.func147 _ (zc1 c links i) (zrP c links i o) 100 (by kernel_rfl) ?_ ?_
      · refine Sk.obs_of _ ?_
        have q2:=hp.1
        have q3:=hp.2.2 i hlt
        have e:w64 (((links.length:Nat):Int) - 1)=((links.length:Nat):Int) - 1:=jj (by omega) (by omega)
        simp only [zc1,Sk.obq,Cal.p,Cal.z,Cal.andl,Ctr.c,kk,ixP,maxLen,e,implies_true,true_and,and_true,and_self]
        exact fun _ _=>⟨by omega,fun _ _ _=>⟨by omega,q3⟩⟩
      · intro a ha
        have hv:(zc1 c links i).val=bif kr c (links.getD i default) (Vz links) == 0 then none else bif kr c (links.getD i default) (Vz links) == 2 then some true else some false:=by
          have e:decide (((i:Nat):Int) < ((links.length:Nat):Int))=true:=decide_eq_true (by omega)
          simp only [zc1,Sk.val,e,cond_true]
          rfl
        rw [hv] at ha
        rw [hdrop] at h
        simp only [Je] at h
        cases h0:kr c (links.getD i default) (Vz links) == 0 with
        | true =>
          rw [h0,cond_true] at ha h
          subst ha
          exact fin k o pre h hk
        | false =>
          rw [h0,cond_false] at ha h
          cases h2:kr c (links.getD i default) (Vz links) == 2 with
          | true =>
            rw [h2,cond_true] at ha h
            subst ha
            show G _ _ _
            rw [hr8]
            refine G.yr ?_
            rw [hg8]
            refine YW.mvC (o:=WL.getD 0 default) (d:=34) (u:=0) (by kernel_rfl) (by kernel_rfl) (by kernel_rfl) (by simp) (by kernel_rfl) ?_
            refine YW.opC tok mixed (o:=WL.getD 1 default) (ziB c links i { o with state:=2 } [(35,av ({ o with state:=2 }:yu).cells),(6,iv (links.getD i default))]) (by kernel_rfl) (by kernel_rfl) (by kernel_rfl) ?_
            refine YW.ylC (o:=WL.getD 2 default) (d:=36) (u:=34) (n:=k) (ts:=[35]) (c:={ callee:=.value (.tmp 34),args:=#[.tmp 35],argTypes:=#[211] }) (by kernel_rfl) (by kernel_rfl) (by kernel_rfl) rfl (by simp) (by kernel_rfl) (hys k _ pre _ h hk) rfl (by kernel_rfl) (by kernel_rfl) ?_ ?_
            · refine YW.opC tok mixed (o:=WL.getD 3 default) (ziB c links i { o with state:=2 } [(37,bv false),(6,iv (links.getD i default))]) (by kernel_rfl) (by kernel_rfl) (by kernel_rfl) ?_
              refine YW.nil (T:=TT) (fn:=Tryz.f147) (by simp) ?_
              refine ItX.sk tok mixed Tryz.func147 _ (.brf (.fin ()):Sk Unit) (fun _=>.go (.code zlK :: zlj) (ziB c links i { o with state:=2 } [(6,iv (links.getD i default))])) 100 (by kernel_rfl) trivial (fun _ _=>next (k+1) { o with state:=2 } (pre++[{ o with state:=2 }]) _ (fun _ _ _ h=>h) (by rw [h]; simp [zqg]) (by simp [hk]))
            · refine YW.opC tok mixed (o:=WL.getD 3 default) (ziB c links i { o with state:=2 } [(37,bv true),(6,iv (links.getD i default))]) (by kernel_rfl) (by kernel_rfl) (by kernel_rfl) ?_
              refine YW.nil (T:=TT) (fn:=Tryz.f147) (by simp) ?_
              refine ItX.sk tok mixed Tryz.func147 _ (.brt (.fin ()):Sk Unit) (fun _=>.go (.code .ret :: .code zlK :: zlj) ⟨[],[]⟩) 100 (by kernel_rfl) trivial (fun _ _=>(ItX.ret Tryz.func147 (by kernel_rfl) (fun C h=>.inr h)).2 _)
          | false =>
            rw [h2,cond_false] at ha h
            subst ha
            exact next k o pre _ (fun _ _ _ h=>h) h hk
  refine ItX.sk tok mixed Tryz.func147 _ (.r 0 .z fun _=>.r 1 .z fun _=>.fin ():Sk Unit) (fun _=>.go [.code (.loop znu),.inBlock 0,.code Hw] (ziB c links 0 { firm:=c.view.now.bill.payee,sign:=-1,state:=1 } [])) 100 (by kernel_rfl) ?_ (fun _ _=>.loopIn (key links.length 0 (by omega) 0 _ [] rfl rfl))
  refine Sk.obs_of _ ?_
  simp [Sk.obq,Cal.z]
def uY (c:qc) (links:List Int):ItC yu:=⟨Tryz.prog,147,[.ref c.cells,.ref [slD jC links]],jJ c links,zfg,znV c links,fun h=>GT c links h⟩
end
end Go.Proofs.YtilbddpghnnmhaaGreatDoor

