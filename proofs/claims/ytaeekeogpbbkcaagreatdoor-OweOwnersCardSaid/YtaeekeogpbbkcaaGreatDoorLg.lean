/- A function by hand. -/
import Derived.Test.YtaeekeogpbbkcaaGreatDoorLf
import Derived.Test.YtaeekeogpbbkcaaGreatDoorLd
set_option linter.unusedSimpArgs false
set_option linter.unusedVariables false
set_option maxHeartbeats 1000000
set_option maxRecDepth 100000
namespace Go.Proofs.YtaeekeogpbbkcaaGreatDoor
noncomputable section
open Go Go.Av
def oH (f:aw) (day part:Int) (i:Nat):Bool :=
 ((((f.af.getD i default).kind == 2)&&((f.af.getD i default).part == part))&&decide ((f.af.getD i default).day≤day))&&!(Ht (ee f day) ((i:Nat):Int) false)
def bo (f:aw) (day part:Int):List (Int × Sign):=((List.range f.af.length).filter (oH f day part)).map fun i=>(((i:Nat):Int),f.af.getD i default)
def L9 (y:Int × Sign):List AV:=[iv y.1,av y.2.cells]
def aiG:Code:=Tryz.f146.body.getD .skip
def WW:Code:=cA (cA (cB (cB aiG)))
def Uw:Code:=cA (cB (cB WW))
def WX:Array Oper:=opsOf (cA (cB (cA Uw)))
def abz (f:aw) (day part:Int) (m:List (Int × Bool)) (i:Nat):List (Nat × AV):=[(2,.ref [dI day]),(3,.ref [dI part]),(5,pmM dB m),(12,lv Sign.cells f.af),(13,iv ((f.af.length:Nat):Int)),(14,iv ((i:Nat):Int))]
def vW (f:aw) (day part:Int) (i:Nat):Nat:=((List.range i).filter (oH f day part)).length
def ac4:List Item:=[.code (cB (cB (cA Uw))),.inBlock 1,.code (cB (cB (cB WW))),.inLoop WW,.inBlock 0]
theorem WY (f:aw) (day part:Int) {i:Nat} (hi:i < f.af.length) (h:oH f day part i=true):((bo f day part).map L9)[vW f day part i]? = some (L9 (((i:Nat):Int),f.af.getD i default)):=by
 have e:List.range f.af.length=List.range i++i :: (List.range' (i+1) (f.af.length - i - 1)):=by
  rw [List.range_eq_range',List.range_eq_range']
  have h1:=List.range'_append (s:=0) (m:=i) (n:=f.af.length - i) (step:=1)
  have h2:f.af.length - i=(f.af.length - i - 1)+1:=by omega
  rw [show f.af.length=i+(f.af.length - i) by omega,← h1,h2,List.range'_succ]
  simp
 unfold bo vW
 rw [e,List.filter_append,List.filter_cons_of_pos h]
 simp
theorem Ux (f:aw) (day part:Int) (i:Nat):vW f day part (i+1)=bif oH f day part i then vW f day part i+1 else vW f day part i:=by
 unfold vW
 rw [List.range_succ,List.filter_append]
 cases h:oH f day part i <;> simp [h]
def Gn (q:Nat):Oper:=WX.getD q default
def WZ (f:aw) (day part:Int) (i:Nat) (sl:List (Nat × AV)):St:=⟨sl++[(6,iv ((i:Nat):Int)),(7,.ptr 7 0)]++abz f day part (ee f day) i,[(7,.box ((f.af.getD i default).cells.map .d))]⟩
def IZ (f:aw) (i:Nat):Sk Bool :=
 .Eb 12 0 f.af.length <| .br (decide (((i:Nat):Int) < ((f.af.length:Nat):Int))) (.r 3 (.p (bM ((i:Nat):Int) f.af.length)) fun _=>.fin true) (.fin false)
def adP (f:aw) (i:Nat):Sk Unit :=
 .Eb 12 0 f.af.length <| .PM <| .r 5 .z fun _=>.wi 14 (aK (((i:Nat):Int)+1)) ((i+1:Nat):Int) <| .fin ()
def abA (f:aw) (day part:Int) (i:Nat):bH Unit :=
 .wh ((((f.af.getD i default).kind == 2)&&((f.af.getD i default).part == part))&&decide ((f.af.getD i default).day≤day)) true (.aj (.t (T3 dB (ee f day))) (.o [.cast 37 (getM dB (ee f day) ((i:Nat):Int) false)]))
theorem wN (f:aw) (day part:Int):Zp Tryz.prog 146 [.ref f.cells,.ref [dI day],.ref [dI part]] ((bo f day part).map L9):=by
 refine Zp.intro (T:=TT) Tryz.func146 rfl (by kernel_rfl) (Nat.le_of_ble_eq_true (by kernel_rfl)) (fun X=>?_)
 have hr4:cA (cB (cA Uw))=.region 4 WX false:=by kernel_rfl
 have hrg:List.range' 22 (WX.size - 22)=[22,23,24,25,26,27]:=by kernel_rfl
 have key:∀ d i,i+d=f.af.length→G (X.g TT Tryz.f146 (X.H (vW f day part i))) [.code WW,.inLoop WW,.inBlock 0] ⟨abz f day part (ee f day) i,[]⟩:=by
  intro d
  induction d with
  | zero =>
   intro i hi
   refine uH.sk tok mixed Tryz.func146 _ (IZ f i) (fun b=>bif b then .go (.code (cA (cB (cA Uw))) :: ac4) (WZ f day part i []) else .go [] ⟨[],[]⟩) 100 (by kernel_rfl) ?_ ?_
   ·refine Sk.aO _ ?_
    simp only [IZ,Sk.gx,bH.p,bM,implies_true,and_true]
    intro h hd
    simp at hd
    omega
   ·intro a ha
    have:(IZ f i).val=false:=by simp only [IZ,Sk.val]; simp; omega
    rw [this] at ha
    subst ha
    refine (uH.ret Tryz.func146 (by kernel_rfl) (fun C h=>.inl ?_)).1
    have e:vW f day part i=((bo f day part).map L9).length:=by
     have:i=f.af.length:=by omega
     subst this
     simp [vW,bo]
    rw [← e]
    exact h
  | succ d ih =>
   intro i hi
   have gJ:i < f.af.length:=by omega
   refine uH.sk tok mixed Tryz.func146 _ (IZ f i) (fun b=>bif b then .go (.code (cA (cB (cA Uw))) :: ac4) (WZ f day part i []) else .go [] ⟨[],[]⟩) 100 (by kernel_rfl) ?_ ?_
   ·refine Sk.aO _ ?_
    simp only [IZ,Sk.gx,bH.p,bM,implies_true,and_true]
    intro _ _
    omega
   ·intro a ha
    have:(IZ f i).val=true:=by simp only [IZ,Sk.val]; simp; omega
    rw [this] at ha
    subst ha
    show G _ _ _
    rw [hr4]
    -- behind Pv yield
    have next:∀ st,Nr st ⟨(46,bv false) :: abz f day part (ee f day) i,[]⟩→G (X.g TT Tryz.f146 (X.H (vW f day part (i+1)))) ac4 st:=by
     intro st oh
     refine .le oh ?_
     refine uH.sk tok mixed Tryz.func146 _ (adP f i) (fun _=>.go [.inLoop WW,.inBlock 0] ⟨abz f day part (ee f day) (i+1),[]⟩) 100 (by kernel_rfl) ?_ (fun _ _=>.inLoop (ih (i+1) (by omega)))
     refine Sk.aO _ ?_
     simp only [adP,Sk.gx,bH.z,maxLen,implies_true,and_true]
     intro h
     refine ⟨trivial,fun _ _ _=>?_⟩
     refine (aq ?_ ?_).trans ?_ <;> omega
    refine G.yr ?_
    refine YW.aiB tok mixed (abA f day part i) 22 (fun _=>WZ f day part i [(40,bv (oH f day part i))]) (by kernel_rfl) (Nat.le_of_ble_eq_true (by kernel_rfl)) (fun _=>by kernel_rfl) ?_ ?_
    ·simp [abA,bH.wh,bH.aj,bH.t,bH.o]
    rw [hrg]
    refine YW.aiC (s:=40) (b:=oH f day part i) rfl (Nat.le_of_ble_eq_true (by kernel_rfl)) ?_
    have Fv:=Ux f day part i
    cases he:oH f day part i with
    | true =>
     rw [he,cond_true] at Fv
     refine YW.mvC (o:=Gn 22) (d:=41) (u:=0) (by kernel_rfl) (by kernel_rfl) (by kernel_rfl) (by simp) (by kernel_rfl) ?_
     refine YW.opC tok mixed (o:=Gn 23) (WZ f day part i [(42,iv ((i:Nat):Int))]) (by kernel_rfl) (by kernel_rfl) (by kernel_rfl) ?_
     refine YW.opC tok mixed (o:=Gn 24) (WZ f day part i [(43,av (f.af.getD i default).cells),(42,iv ((i:Nat):Int))]) (by kernel_rfl) (by kernel_rfl) (by kernel_rfl) ?_
     refine YW.ylC (o:=Gn 25) (d:=44) (u:=41) (n:=vW f day part i) (ts:=[42,43]) (c:={ callee:=.value (.tmp 41),args:=#[.tmp 42,.tmp 43],argTypes:=#[3,94] }) (by kernel_rfl) (by kernel_rfl) (by kernel_rfl) rfl (by simp) (by kernel_rfl) (WY f day part gJ he) rfl (by kernel_rfl) (by kernel_rfl) ?_ ?_
     ·refine YW.opC tok mixed (o:=Gn 26) (WZ f day part i [(45,bv false)]) (by kernel_rfl) (by kernel_rfl) (by kernel_rfl) ?_
      refine YW.abi (o:=Gn 27) (d:=46) (x:=.tmp 45) (y:=.const (.bool false)) false (by kernel_rfl) (by kernel_rfl) (by kernel_rfl) (by kernel_rfl) (by kernel_rfl) ?_
      refine YW.nil (T:=TT) (fn:=Tryz.f146) (by simp) ?_
      rw [← Fv]
      exact next _ (Yr (by kernel_rfl))
     ·refine YW.opC tok mixed (o:=Gn 26) (WZ f day part i [(45,bv true)]) (by kernel_rfl) (by kernel_rfl) (by kernel_rfl) ?_
      refine YW.abi (o:=Gn 27) (d:=46) (x:=.tmp 45) (y:=.const (.bool false)) true (by kernel_rfl) (by kernel_rfl) (by kernel_rfl) (by kernel_rfl) (by kernel_rfl) ?_
      refine YW.nil (T:=TT) (fn:=Tryz.f146) (by simp) ?_
      refine uH.sk tok mixed Tryz.func146 _ (.PL (.fin ()):Sk Unit) (fun _=>.go (.code .ret :: ac4.tail) ⟨[],[]⟩) 100 (by kernel_rfl) trivial (fun _ _=>(uH.ret Tryz.func146 (by kernel_rfl) (fun C h=>.inr h)).2 _)
    | false =>
     rw [he,cond_false] at Fv
     refine YW.T7 (o:=Gn 22) (d:=41) (by kernel_rfl) (by kernel_rfl) (by kernel_rfl) ?_
     refine YW.T7 (o:=Gn 23) (d:=42) (by kernel_rfl) (by kernel_rfl) (by kernel_rfl) ?_
     refine YW.T7 (o:=Gn 24) (d:=43) (by kernel_rfl) (by kernel_rfl) (by kernel_rfl) ?_
     refine YW.T7 (o:=Gn 25) (d:=44) (by kernel_rfl) (by kernel_rfl) (by kernel_rfl) ?_
     refine YW.T7 (o:=Gn 26) (d:=45) (by kernel_rfl) (by kernel_rfl) (by kernel_rfl) ?_
     refine YW.abi (o:=Gn 27) (d:=46) (x:=.tmp 45) (y:=.const (.bool false)) false (by kernel_rfl) (by kernel_rfl) (by kernel_rfl) (by kernel_rfl) (by kernel_rfl) ?_
     refine YW.nil (T:=TT) (fn:=Tryz.f146) (by simp) ?_
     rw [← Fv]
     exact next _ (Yr (by kernel_rfl))
 refine uH.sk tok mixed Tryz.func146 _ (.r 0 ((qN f day).c) fun m=>.r 1 .z fun _=>.fin m:Sk (List (Int × Bool))) (fun m=>.go [.code (.loop WW),.inBlock 0] ⟨abz f day part m 0,[]⟩) 100 (by kernel_rfl) ?_ (fun m hm=>?_)
 ·refine Sk.aO _ ?_
  simp [Sk.gx,bH.z,fD.c,kk,kp,qN]
 ·have hm:m=ee f day:=hm
  subst hm
  exact .abj (key f.af.length 0 (by omega))
def gz (f:aw) (day part:Int):ItC (Int × Sign):=⟨Tryz.prog,146,[.ref f.cells,.ref [dI day],.ref [dI part]],bo f day part,L9,True,fun _=>wN f day part⟩
def qO (before:Int) (flags:Int):Sk (Int) :=
 .br (((dh .i64 flags 2) != 0)||(before != 0))
 (.fin 1)
 (.br ((dh .i64 flags 4) != 0)
 (.fin 2)
 (.fin 0))
def Cp before flags:=(qO before flags).val
theorem Ma (before:Int) (flags:Int):(qO before flags).bq (fun _=>True):=by
  unfold qO
  exact mP

def sK before flags:=kk tok mixed Tryz.func101 [iv before,iv flags] (fun x=>iv x) true (qO before flags) (Cp before flags) (u0 (Ma before flags))
theorem Mb (f:aw) (day part:Int):(bo f day part).length≤f.af.length:=by
  unfold bo
  rw [List.length_map]
  exact Nat.le_trans (List.length_filter_le _ _) (by simp)
theorem Gp {f:aw} {day part:Int} {i:Nat} {y:Int × Sign} (h:(bo f day part)[i]? = some y):i < f.af.length∧0≤y.1∧y.1 < f.af.length∧y.2=f.af.getD y.1.toNat default∧y.2.kind=2∧y.2.part=part∧y.2.day≤day∧Ht (ee f day) y.1 false=false:=by
  have h1:=(List.getElem?_eq_some_iff.1 h).1
  have h2:=List.mem_of_getElem? h
  have h3:=Mb f day part
  unfold bo at h2
  obtain ⟨q,hq,rfl⟩:=List.mem_map.1 h2
  rw [List.mem_filter,List.mem_range] at hq
  obtain ⟨hq1,hq2⟩:=hq
  unfold oH at hq2
  simp only [Bool.and_eq_true,beq_iff_eq,decide_eq_true_eq,Bool.not_eq_true'] at hq2
  exact ⟨by omega,by omega,by omega,rfl,hq2.1.1.1,hq2.1.1.2,hq2.1.2,hq2.2⟩
def kH (f:aw) (part:Int) (day:Int):Sk (Bk) :=
 .r 2 ((ke f day).c) fun x1 =>
 .r 3 ((jI f part day).c) fun _ =>
 .rf (gz f day part) (fun ki3 i3=>i3.1.length≤ki3∧i3.2.2.2.2.length≤ki3∧∀ y,y∈i3.1→0≤y∧y < (f.af.length:Int)∧(f.af.getD y.toNat default).day≤day) (fun e5=>e5.1.length≤f.af.length∧∀ y,y∈e5.1→0≤y∧y < (f.af.length:Int)∧(f.af.getD y.toNat default).day≤day) 0 (([],f.aM.fY,f.aM.fY == (-1),0,[]):(List Int) × Int × Bool × Int × (List Int))
 (fun (i3:(List Int) × Int × Bool × Int × (List Int))=>[(100000,cp 3 1 bJ i3.1),(100001,cp 3 1 bJ i3.2.2.2.2),(7,.box ([ow 100000 i3.1]++[iv i3.2.1,iv (-1),bv i3.2.2.1,iv i3.2.2.2.1,ow 100001 i3.2.2.2.2]))]) (fun (e5:(List Int) × Int × Int × Bool × Int × (List Int))=>[(100002,cp 3 1 bJ e5.1),(100003,cp 3 1 bJ e5.2.2.2.2.2),(7,.box ([ow 100002 e5.1]++[iv e5.2.1,iv e5.2.2.1,bv e5.2.2.2.1,iv e5.2.2.2.2.1,ow 100003 e5.2.2.2.2.2]))])
 (fun i3 y4 =>
 .br ((!i3.2.2.1)&&(y4.2.ja != i3.2.1))
 (.fin (.inl (i3.1,i3.2.1,y4.1,i3.2.2.1,i3.2.2.2.1,i3.2.2.2.2)))
 (.r 8 (.aj (.o [.cU (dG cN [y4.1])]) (.aj (.o [.cU (kx cN i3.1 [y4.1])]) (.aj (.t (cN.k6 [y4.1])) (.p (uG i3.1.length [y4.1].length 8))))) fun _ =>
 .r 9 ((sK i3.2.2.2.1 y4.2.flags).c) fun x6 =>
 .br (x1.2&&(decide (y4.2.day > x1.1)))
 (.r 11 (.aj (.o [.cU (dG cN [y4.1])]) (.aj (.o [.cU (kx cN i3.2.2.2.2 [y4.1])]) (.aj (.t (cN.k6 [y4.1])) (.p (uG i3.2.2.2.2.length [y4.1].length 8))))) fun _ =>
 .fin (.inr (i3.1++[y4.1],y4.2.cr,y4.2.cr == (-1),x6,i3.2.2.2.2++[y4.1])))
 (.fin (.inr (i3.1++[y4.1],y4.2.cr,y4.2.cr == (-1),x6,i3.2.2.2.2))))) fun r=>match r with
 | .inl e5=>(.fin ({ af:=e5.1,cL:=e5.2.1,broken:=e5.2.2.1,Ru:=e5.2.2.2.1,YD:=e5.2.2.2.2.1,late:=e5.2.2.2.2.2 }:Bk))
 | .inr j7=>(.fin ({ af:=j7.1,cL:=j7.2.1,broken:=(-1),Ru:=j7.2.2.1,YD:=j7.2.2.2.1,late:=j7.2.2.2.2 }:Bk))
def jJ f part day:=(kH f part day).val
theorem Bl (f:aw) (part:Int) (day:Int):(kH f part day).dq (fun (x:Bk)=>x.af.length≤f.af.length∧∀ y,y∈x.af→0≤y∧y < (f.af.length:Int)∧(f.af.getD y.toNat default).day≤day):=by
  refine Sk.bh _ ?_
  unfold kH
  simp only [Sk.cK,Sk.aD,reduceCtorEq,ON,kk,kp,ke,jI,sK,gz,Sum.forall,rF,forall_eq,maxLen]
  refine fun _=>⟨⟨by simp,by simp,fun y h=>by cases h⟩,fun i s y hs hy=>?_,fun a ha=>ha,fun b hb=>⟨Nat.le_trans hb.1 (Mb _ _ _),hb.2.2⟩⟩
  have hm:=Gp hy
  have Fz:∀ z,z∈s.1++[y.1]→0≤z∧z < (f.af.length:Int)∧(f.af.getD z.toNat default).day≤day:=fun z hz=>by
    rcases List.mem_append.1 hz with h | h
    · exact hs.2.2 z h
    · simp only [List.mem_singleton] at h
      subst h
      exact ⟨hm.2.1,hm.2.2.1,by rw [← hm.2.2.2.1]; exact hm.2.2.2.2.2.2.1⟩
  have hl1:(s.1++[y.1]).length=s.1.length+1:=by simp
  have hl2:(s.2.2.2.2++[y.1]).length=s.2.2.2.2.length+1:=by simp
  have hl3:[y.1].length=1:=rfl
  rw [hl1,hl2]
  exact ⟨fun _=>⟨by omega,hs.2.2⟩,fun _ _=>⟨fun _ _=>⟨by omega,by omega,Fz⟩,fun _=>⟨by omega,by omega,Fz⟩⟩⟩

theorem HT (f:aw) (part:Int) (day:Int):(fun (x:Bk)=>x.af.length≤f.af.length∧∀ y,y∈x.af→0≤y∧y < (f.af.length:Int)∧(f.af.getD y.toNat default).day≤day) (jJ f part day):=have h:=Sk.dc _ (Bl f part day); h
theorem Mc (f:aw) (part:Int) (day:Int) (hf:f.Small):(kH f part day).bq (fun _=>True):=by
  refine Sk.aO _ ?_
  unfold kH
  simp only [Sk.gx,Sk.aD,reduceCtorEq,ON,kk,kp,Sk.cK,ke,jI,sK,gz,Sum.forall,rF,forall_eq,maxLen]
  refine fun _=>⟨⟨by simp,by simp,fun y h=>by cases h⟩,fun i s y hs hy=>?_⟩
  have hm:=Gp hy
  have Fz:∀ z,z∈s.1++[y.1]→0≤z∧z < (f.af.length:Int)∧(f.af.getD z.toNat default).day≤day:=fun z hz=>by
    rcases List.mem_append.1 hz with h | h
    · exact hs.2.2 z h
    · simp only [List.mem_singleton] at h
      subst h
      exact ⟨hm.2.1,hm.2.2.1,by rw [← hm.2.2.2.1]; exact hm.2.2.2.2.2.2.1⟩
  have hl1:(s.1++[y.1]).length=s.1.length+1:=by simp
  have hl2:(s.2.2.2.2++[y.1]).length=s.2.2.2.2.length+1:=by simp
  have hl3:[y.1].length=1:=rfl
  rw [hl1,hl2,hl3]
  have hf1:=hf.1
  exact ⟨⟨fun _=>⟨by omega,hs.2.2⟩,fun _ _=>⟨fun _ _=>⟨by omega,by omega,Fz⟩,fun _=>⟨by omega,by omega,Fz⟩⟩⟩,fun _=>⟨by omega,hs.2.2⟩,fun _=>⟨⟨by omega,by omega⟩,fun _=>⟨fun _=>⟨⟨by omega,by omega⟩,fun _=>⟨by omega,by omega,Fz⟩⟩,fun _=>⟨by omega,by omega,Fz⟩⟩⟩⟩

def yj f part day:=kp tok mixed Tryz.func53 [av f.cells,iv part,iv day] (fun x=>av x.cells) false (jJ f part day) (Mc f part day) (Bl f part day)
def jK (v:View) (part:Int):Sk ((List Int)) :=
 .r 1 ((yj v.all part v.day).c) fun x1 =>
 .fin x1.af
def aQ v part:=(jK v part).val
theorem vX (v:View) (part:Int):(jK v part).dq (fun (x:(List Int))=>x.length≤v.all.af.length∧∀ y,y∈x→0≤y∧y < (v.all.af.length:Int)∧(v.all.af.getD y.toNat default).day≤v.day):=by
  unfold jK
  try simp only [yj]
  exact Ly

theorem uw (v:View) (part:Int):(fun (x:(List Int))=>x.length≤v.all.af.length∧∀ y,y∈x→0≤y∧y < (v.all.af.length:Int)∧(v.all.af.getD y.toNat default).day≤v.day) (aQ v part):=have h:=Sk.dc _ (vX v part); h
theorem Gq (v:View) (part:Int) (acr:v.all.Small):(jK v part).bq (fun _=>True):=by
  unfold jK
  try simp only [yj]
  exact mH

def gp v part:=kp tok mixed Tryz.func24 [av v.cells,iv part] (fun x=>lv bJ x) false (aQ v part) (Gq v part) (vX v part)
def kf (c_:gG) (aI:List Int):Sk (Unit) :=
 .fin ()
def zh c_ aI:=(kf c_ aI).val
theorem ux (c_:gG) (aI:List Int):zh c_ aI=():=rfl
theorem DX (c_:gG) (aI:List Int):(kf c_ aI).bq (fun _=>True):=by
  unfold kf
  exact mP

def lq c_ aI:=kk tok mixed Tryz.func23 [av c_.cells,lv bJ aI] (fun x=>.fn 51 [.ref c_.cells,.ref [mN bJ aI]]) false (kf c_ aI) (zh c_ aI) (u0 (DX c_ aI))
structure bI where
  qj:Int
  sign:Int
  state:Int
  deriving Inhabited
def bI.cells (c:bI):List D:=[dI c.qj,dI c.sign,dI c.state]
def bI.E:Lt bI:=⟨bI.cells,3,fun _=>rfl,fun _=>rfl⟩
def kg (x_:Fact) (v:Int) (v':Int):Sk (Bool) :=
 .fin ((x_.kind == v)&&(x_.at_ == v'))
def cM x_ v v':=(kg x_ v v').val
theorem uy (x_:Fact) (v:Int) (v':Int):cM x_ v v'=((x_.kind == v)&&(x_.at_ == v')):=rfl
theorem DY (x_:Fact) (v:Int) (v':Int):(kg x_ v v').bq (fun _=>True):=by
  unfold kg
  exact mP

def pO x_ v v':=kk tok mixed Tryz.func145 [av x_.cells,.ref [dI v],.ref [dI v']] (fun x=>bv x) true (kg x_ v v') (cM x_ v v') (u0 (DY x_ v v'))
def fp (s:List Fact) (v:Int) (v':Int):Sk (Int) :=
 .bind true (fun b1=>∀ q,q < s.length→cM (s.getD q default) v v'=false)
 (.loop (default:Sum (Int) (Unit)) (fun i2=>∀ q,q < i2→cM (s.getD q default) v v'=false) (fun i2=>s.length - i2) (0:Nat)
 (fun (i2:Nat)=>⟨[(8,iv ((i2:Nat):Int))],[]⟩) fun i2 =>
 .lt 0 0 i2 s.length
 (.r 4 (.aj (.p (bM ((i2:Nat):Int) s.length)) ((pO (s.getD i2 default) v v').c)) fun x3 =>
 .br x3
 (.fin (.inl (.inl ((i2:Nat):Int))))
 (.nx 6 8 i2 (i2+1)))
 (.fin (.inl (.inr ()))))
 (fun (_:Unit)=>⟨[],[]⟩) fun _ =>
 .fin (-1)
def jL s v v':=(fp s v v').val
theorem oI (s:List Fact) (v:Int) (v':Int):(fp s v v').dq (fun (x:Int)=>(x = -1∧∀ q,q < s.length→cM (s.getD q default) v v'=false)∨(0≤x∧x < s.length∧cM (s.getD x.toNat default) v v'=true∧∀ q,(q:Nat) < x.toNat→cM (s.getD q default) v v'=false)):=by
  unfold fp
  try simp only [pO,uy]
  exact Yp

theorem wO (s:List Fact) (v:Int) (v':Int):(fun (x:Int)=>(x = -1∧∀ q,q < s.length→cM (s.getD q default) v v'=false)∨(0≤x∧x < s.length∧cM (s.getD x.toNat default) v v'=true∧∀ q,(q:Nat) < x.toNat→cM (s.getD q default) v v'=false)) (jL s v v'):=have h:=Sk.dc _ (oI s v v'); h
theorem zi (s:List Fact) (v:Int) (v':Int):(fp s v v').bq (fun _=>True):=by
  unfold fp
  try simp only [pO,uy]
  exact xV

def qP s v v':=kp tok mixed Tryz.func144 [lv Fact.cells s,.fn 145 [.ref [dI v],.ref [dI v']]] (fun x=>iv x) true (jL s v v') (u0 (zi s v v')) (oI s v v')
def nJ (v:View) (kind:Int) (sign:Int):Sk (Int) :=
 .r 1 ((qP v.now.facts kind sign).c) fun x1 =>
 .br (decide (x1 < 0))
 (.fin 2)
 (.r 4 (.p (bM x1 v.now.facts.length)) fun _ =>
 .br (((v.now.facts.getD x1.toNat default).n) == 0)
 (.fin 0)
 (.fin 1))
def oJ v kind sign:=(nJ v kind sign).val
theorem HU (v:View) (kind:Int) (sign:Int):(nJ v kind sign).bq (fun _=>True):=by
  unfold nJ
  try simp only [qP]
  exact mH

def ue v kind sign:=kk tok mixed Tryz.func97 [av v.cells,iv kind,iv sign] (fun x=>iv x) true (nJ v kind sign) (oJ v kind sign) (u0 (HU v kind sign))
def xt (a:Int) (b:Int):Sk (Int) :=
 .br ((a == 0)||(b == 0))
 (.fin 0)
 (.br ((a == 2)||(b == 2))
 (.fin 2)
 (.fin 1))
def Cq a b:=(xt a b).val
theorem Uy (a:Int) (b:Int):(xt a b).bq (fun _=>True):=by
  unfold xt
  exact mP

def vY a b:=kk tok mixed Tryz.func71 [iv a,iv b] (fun x=>iv x) true (xt a b) (Cq a b) (u0 (Uy a b))
def sL (a:Int) (b:Int):Sk (Int) :=
 .br ((a == 1)||(b == 1))
 (.fin 1)
 (.br ((a == 2)||(b == 2))
 (.fin 2)
 (.fin 0))
def Ak a b:=(sL a b).val
theorem NX (a:Int) (b:Int):(sL a b).bq (fun _=>True):=by
  unfold sL
  exact mP

def Gr a b:=kk tok mixed Tryz.func98 [iv a,iv b] (fun x=>iv x) true (sL a b) (Ak a b) (u0 (NX a b))
def kh (c_:gG) (link:Int) (last:Int):Sk (Int) :=
 .r 2 (.dep ((ue c_.view 0 link).c) fun x1=>.dep ((ue c_.view 2 link).c) fun x2=>(vY x1 x2).c) fun p8 =>
 .r 3 (.dep ((jo c_.r c_.ai 3 ({ file:=c_.view.now,sign:=link,cL:=last,gy:=(-1),due:=c_.due,day:=c_.view.day }:cG)).c) fun x4=>.dep ((gN x4).c) fun x5=>(Gr p8.2.2 x5).c) fun p7 =>
 .fin p7.2.2
def bU c_ link last:=(kh c_ link last).val
theorem DZ (c_:gG) (link:Int) (last:Int) (VY:c_.view.now.Small) (Uz:c_.r.cx) (Rv:c_.r.Small):(kh c_ link last).bq (fun _=>True):=by
  unfold kh
  try simp only [jo,gN,vY,Gr,ue]
  exact mH

def vZ c_ link last:=kk tok mixed Tryz.func52 [av c_.cells,iv link,iv last] (fun x=>iv x) true (kh c_ link last) (bU c_ link last) (u3 (DZ c_ link last))
def nK (c:gG) (last:Int):List Int→bI→List bI
 | [],o=>[o]
 | l :: r,o=>bif bU c l last == 0 then [o] else bif bU c l last == 2 then { o with state:=2 } :: nK c last r { qj:=(c.view.now.af.getD l.toNat default).cr,sign:=l,state:=2 } else nK c last r { o with qj:=(c.view.now.af.getD l.toNat default).cr,sign:=l }
def ki (aI:List Int):Int:=aI.getD (aK (((aI.length:Nat):Int) - 1)).toNat default
def bC (c:gG) (aI:List Int):List bI:=nK c (ki aI) aI { qj:=c.view.now.aM.fY,sign:=-1,state:=1 }
def Md (y:bI):List AV:=[av y.cells]
def TQ:Code:=Tryz.f51.body.getD .skip
def agH:Code:=cB (cA (cB TQ))
def W6:Code:=cA (cA agH)
def Cr:Code:=cB (cB TQ)
def agI:Code:=cA (cA (cB (cB W6)))
def aeV:Code:=cB (cB (cB W6))
def adQ:Code:=cB (cB (cB agI))
def UA:Code:=cB adQ
def adR:Code:=cA (cB (cA adQ))
def abB:Code:=cA (cB adR)
def agJ:Code:=cB (cB adR)
def Al:Array Oper:=opsOf abB
def Cs:Array Oper:=opsOf Cr
def UB:List Item:=[.inBlock 1,.code aeV,.inLoop W6,.inBlock 0,.code Cr]
def NY (c:gG) (aI:List Int) (i:Nat) (o:bI) (sl:List (Nat × AV)):St:=⟨sl++[(1,.ref c.cells),(2,.ref [mN bJ aI]),(4,.ptr 4 0),(14,lv bJ aI),(15,iv ((aI.length:Nat):Int)),(16,iv ((i:Nat):Int))],[(4,.box (o.cells.map .d))]⟩
def abC (c:gG) (aI:List Int) (i:Nat) (s:Int):bI:={ qj:=(c.view.now.af.getD (aI.getD i default).toNat default).cr,sign:=aI.getD i default,state:=s }
def I0 (c:gG) (aI:List Int) (i:Nat):Sk (Option Bool) :=
 .Eb 14 0 aI.length <|
 .br (decide (((i:Nat):Int) < ((aI.length:Nat):Int)))
  (.r 3 (.p (bM ((i:Nat):Int) aI.length)) fun _ =>
   .r 4 (.aj (.p (bM (aK (((aI.length:Nat):Int) - 1)) aI.length)) ((vZ c (aI.getD i default) (ki aI)).c)) fun x =>
   .br (x == 0) (.fin none) (.br (x == 2) (.r 7 .z fun _=>.fin (some true)) (.fin (some false))))
  (.fin none)
def adS (c:gG) (aI:List Int) (i:Nat):Sk Unit :=
 .Eb 14 0 aI.length <| .r 9 (.p (bM (aI.getD i default) c.view.now.af.length)) fun _=>.r 10 .z fun _=>.wi 16 (aK (((i:Nat):Int)+1)) ((i+1:Nat):Int) <| .fin ()
def Me (c:gG) (aI:List Int):Prop:=aI.length≤1000000∧(∀ i,i < aI.length→0≤aI.getD i default∧aI.getD i default < c.view.now.af.length)∧∀ i,i < aI.length→(vZ c (aI.getD i default) (ki aI)).pre
def adT (c:gG) (aI:List Int) (i:Nat) (o:bI):Option Bool→abb
 | none=>.go [.code Cr] ⟨[(4,.ptr 4 0)],[(4,.box (o.cells.map .d))]⟩
 | some true=>.go (.code abB :: .code agJ :: .code UA :: UB) (NY c aI i { o with state:=2 } [(6,iv (aI.getD i default))])
 | some false=>.go (.code UA :: UB) (NY c aI i o [(6,iv (aI.getD i default))])
theorem zk (c:gG) (aI:List Int) (hp:Me c aI):Zp Tryz.prog 51 [.ref c.cells,.ref [mN bJ aI]] ((bC c aI).map Md):=by
 refine Zp.intro (T:=TT) Tryz.func51 rfl (by kernel_rfl) (Nat.le_of_ble_eq_true (by kernel_rfl)) (fun X=>?_)
 have hr8:abB=.region 8 Al false:=by kernel_rfl
 have aiH:Cr=.region 11 Cs false:=by kernel_rfl
 have hg8:List.range Al.size=[0,1,2,3]:=by kernel_rfl
 have aiI:List.range Cs.size=[0,1,2]:=by kernel_rfl
 have hys:∀ k o pre r,bC c aI=pre++o :: r→pre.length=k→((bC c aI).map Md)[k]? = some (Md o):=fun k o pre r h hk=>by
  rw [h]; subst hk; simp
 have fin:∀ k o pre,bC c aI=pre++[o]→pre.length=k→G (X.g TT Tryz.f51 (X.H k)) [.code Cr] ⟨[(4,.ptr 4 0)],[(4,.box (o.cells.map .d))]⟩:=by
  intro k o pre h hk
  rw [aiH]
  refine G.yr ?_
  rw [aiI]
  refine YW.mvC (o:=Cs.getD 0 default) (d:=50) (u:=0) (by kernel_rfl) (by kernel_rfl) (by kernel_rfl) (by simp) (by kernel_rfl) ?_
  refine YW.opC tok mixed (o:=Cs.getD 1 default) ⟨[(51,av o.cells),(4,.ptr 4 0)],[(4,.box (o.cells.map .d))]⟩ (by kernel_rfl) (by kernel_rfl) (by kernel_rfl) ?_
  refine YW.ylC (o:=Cs.getD 2 default) (d:=52) (u:=50) (n:=k) (ts:=[51]) (c:={ callee:=.value (.tmp 50),args:=#[.tmp 51],argTypes:=#[74] }) (by kernel_rfl) (by kernel_rfl) (by kernel_rfl) rfl (by simp) (by kernel_rfl) (hys k o pre [] h hk) rfl (by kernel_rfl) (by kernel_rfl) ?_ ?_
  ·refine YW.nil (T:=TT) (fn:=Tryz.f51) (by simp) (uH.ret Tryz.func51 (by kernel_rfl) (fun C h'=>.inl ?_)).1
   have:((bC c aI).map Md).length=k+1:=by rw [h]; simp [hk]
   rw [this]
   exact h'
  ·exact YW.nil (T:=TT) (fn:=Tryz.f51) (by simp) (uH.ret Tryz.func51 (by kernel_rfl) (fun C h'=>.inr h')).1
 have key:∀ d i,i+d=aI.length→∀ k o pre,bC c aI=pre++nK c (ki aI) (aI.drop i) o→pre.length=k→G (X.g TT Tryz.f51 (X.H k)) [.code W6,.inLoop W6,.inBlock 0,.code Cr] (NY c aI i o []):=by
  intro d
  induction d with
  | zero =>
   intro i hi k o pre h hk
   refine uH.sk tok mixed Tryz.func51 _ (I0 c aI i) (adT c aI i o) 100 (by kernel_rfl) ?_ ?_
   ·refine Sk.aO _ ?_
    simp only [I0,Sk.gx]
    refine fun _=>⟨fun hd=>?_,fun _=>trivial⟩
    simp at hd
    omega
   ·intro a ha
    have:(I0 c aI i).val=none:=by
     have e:decide (((i:Nat):Int) < ((aI.length:Nat):Int))=false:=decide_eq_false (by omega)
     simp only [I0,Sk.val,e,cond_false]
    rw [this] at ha
    subst ha
    refine fin k o pre ?_ hk
    rw [h,List.drop_of_length_le (by omega)]
    rfl
  | succ d ih =>
   intro i hi k o pre h hk
   have gJ:i < aI.length:=by omega
   have X7:aI.drop i=aI.getD i default :: aI.drop (i+1):=by
    rw [List.drop_eq_getElem_cons gJ]
    simp [List.getD,gJ]
   have next:∀ k' o' ac5 st,Nr st (NY c aI i o' [(6,iv (aI.getD i default))])→bC c aI=ac5++nK c (ki aI) (aI.drop (i+1)) (abC c aI i o'.state)→ac5.length=k'→G (X.g TT Tryz.f51 (X.H k')) (.code UA :: UB) st:=by
    intro k' o' ac5 st oh h' gE
    refine .le oh ?_
    refine uH.sk tok mixed Tryz.func51 _ (adS c aI i) (fun _=>.go [.inLoop W6,.inBlock 0,.code Cr] (NY c aI (i+1) (abC c aI i o'.state) [])) 100 (by kernel_rfl) ?_ (fun _ _=>.inLoop (ih (i+1) (by omega) k' _ ac5 h' gE))
    refine Sk.aO _ ?_
    simp only [adS,Sk.gx,bH.z,bH.p,bM,maxLen]
    have q1:=hp.2.1 i gJ
    have q2:=hp.1
    refine fun _=>⟨by omega,fun _ _ _=>⟨trivial,fun _ _ _=>⟨?_,trivial⟩⟩⟩
    refine (aq ?_ ?_).trans ?_ <;> omega
   refine uH.sk tok mixed Tryz.func51 _ (I0 c aI i) (adT c aI i o) 100 (by kernel_rfl) ?_ ?_
   ·refine Sk.aO _ ?_
    have q2:=hp.1
    have q3:=hp.2.2 i gJ
    have e:aK (((aI.length:Nat):Int) - 1)=((aI.length:Nat):Int) - 1:=aq (by omega) (by omega)
    simp only [I0,Sk.gx,bH.p,bH.z,bH.aj,fD.c,kk,kp,bM,maxLen,e,implies_true,true_and,and_true,and_self]
    exact fun _ _=>⟨by omega,fun _ _ _=>⟨by omega,q3⟩⟩
   ·intro a ha
    have hv:(I0 c aI i).val=bif bU c (aI.getD i default) (ki aI) == 0 then none else bif bU c (aI.getD i default) (ki aI) == 2 then some true else some false:=by
     have e:decide (((i:Nat):Int) < ((aI.length:Nat):Int))=true:=decide_eq_true (by omega)
     simp only [I0,Sk.val,e,cond_true]
     rfl
    rw [hv] at ha
    rw [X7] at h
    simp only [nK] at h
    cases h0:bU c (aI.getD i default) (ki aI) == 0 with
    | true =>
     rw [h0,cond_true] at ha h
     subst ha
     exact fin k o pre h hk
    | false =>
     rw [h0,cond_false] at ha h
     cases h2:bU c (aI.getD i default) (ki aI) == 2 with
     | true =>
      rw [h2,cond_true] at ha h
      subst ha
      show G _ _ _
      rw [hr8]
      refine G.yr ?_
      rw [hg8]
      refine YW.mvC (o:=Al.getD 0 default) (d:=34) (u:=0) (by kernel_rfl) (by kernel_rfl) (by kernel_rfl) (by simp) (by kernel_rfl) ?_
      refine YW.opC tok mixed (o:=Al.getD 1 default) (NY c aI i { o with state:=2 } [(35,av ({ o with state:=2 }:bI).cells),(6,iv (aI.getD i default))]) (by kernel_rfl) (by kernel_rfl) (by kernel_rfl) ?_
      refine YW.ylC (o:=Al.getD 2 default) (d:=36) (u:=34) (n:=k) (ts:=[35]) (c:={ callee:=.value (.tmp 34),args:=#[.tmp 35],argTypes:=#[74] }) (by kernel_rfl) (by kernel_rfl) (by kernel_rfl) rfl (by simp) (by kernel_rfl) (hys k _ pre _ h hk) rfl (by kernel_rfl) (by kernel_rfl) ?_ ?_
      ·refine YW.opC tok mixed (o:=Al.getD 3 default) (NY c aI i { o with state:=2 } [(37,bv false),(6,iv (aI.getD i default))]) (by kernel_rfl) (by kernel_rfl) (by kernel_rfl) ?_
       refine YW.nil (T:=TT) (fn:=Tryz.f51) (by simp) ?_
       refine uH.sk tok mixed Tryz.func51 _ (.PM (.fin ()):Sk Unit) (fun _=>.go (.code UA :: UB) (NY c aI i { o with state:=2 } [(6,iv (aI.getD i default))])) 100 (by kernel_rfl) trivial (fun _ _=>next (k+1) { o with state:=2 } (pre++[{ o with state:=2 }]) _ (fun _ _ _ h=>h) (by rw [h]; simp [abC]) (by simp [hk]))
      ·refine YW.opC tok mixed (o:=Al.getD 3 default) (NY c aI i { o with state:=2 } [(37,bv true),(6,iv (aI.getD i default))]) (by kernel_rfl) (by kernel_rfl) (by kernel_rfl) ?_
       refine YW.nil (T:=TT) (fn:=Tryz.f51) (by simp) ?_
       refine uH.sk tok mixed Tryz.func51 _ (.PL (.fin ()):Sk Unit) (fun _=>.go (.code .ret :: .code UA :: UB) ⟨[],[]⟩) 100 (by kernel_rfl) trivial (fun _ _=>(uH.ret Tryz.func51 (by kernel_rfl) (fun C h=>.inr h)).2 _)
     | false =>
      rw [h2,cond_false] at ha h
      subst ha
      exact next k o pre _ (fun _ _ _ h=>h) h hk
 refine uH.sk tok mixed Tryz.func51 _ (.r 0 .z fun _=>.r 1 .z fun _=>.fin ():Sk Unit) (fun _=>.go [.code (.loop W6),.inBlock 0,.code Cr] (NY c aI 0 { qj:=c.view.now.aM.fY,sign:=-1,state:=1 } [])) 100 (by kernel_rfl) ?_ (fun _ _=>.abj (key aI.length 0 (by omega) 0 _ [] rfl rfl))
 refine Sk.aO _ ?_
 simp [Sk.gx,bH.z]
def ef (c:gG) (aI:List Int):ItC bI:=⟨Tryz.prog,51,[.ref c.cells,.ref [mN bJ aI]],bC c aI,Md,Me c aI,fun h=>zk c aI h⟩
def nL (v:View) (sign:Int):Sk (Int):=let az:=((v.now.af.getD sign.toNat default).part);
 .r 1 (.p (bM sign v.now.af.length)) fun _ =>
 .r 2 (.wh (sign == 0) false ((aP v.lead az).c)) fun x1 =>
 .br ((sign == 0)||(!x1))
 (.r 3 (.p (bM (0:Int) v.lead.length)) fun _ =>
 .fin (v.lead.getD 0 default))
 (.fin az)
def NZ v sign:=(nL v sign).val
theorem HV (v:View) (sign:Int) (hs:0≤sign∧sign < v.now.af.length) (hl:v.lead.length≠0):(nL v sign).bq (fun _=>True):=by
 unfold nL
 try simp only [aP]
 exact mH
def uf v sign:=kk tok mixed Tryz.func69 [av v.cells,iv sign] (fun x=>iv x) true (nL v sign) (NZ v sign) (u2 (HV v sign))
def iW (v:View) (part:Int) (ka:Int) (aI:List Int):Sk ((List Int)) :=
 .r 2 (.wh (ka != (-1)) true ((aP aI ka).c)) fun x1 =>
 .br ((ka != (-1))&&(!x1))
 (.fin [])
 (.bind true (fun b2=>b2.length≤v.now.af.length∧∀ y,y∈b2→0≤y∧y < (v.now.af.length:Int))
 (.loop (default:Sum ((List Int)) ((List Int))) (fun i3=>i3.2≤v.now.af.length∧i3.1.length≤i3.2∧∀ y,y∈i3.1→0≤y∧y < (v.now.af.length:Int)) (fun i3=>v.now.af.length - i3.2) (([],0):(List Int) × Nat)
 (fun (i3:(List Int) × Nat)=>⟨[(9,ow 100002 i3.1),(25,iv (i3.2:Int))],[(100002,cp 3 1 bJ i3.1)]⟩) fun i3=>let aV:=(i3.2:Int); let az:=(v.now.af.getD i3.2 default);
 .lt 23 0 i3.2 v.now.af.length
 (.r 6 (.p (bM aV v.now.af.length)) fun _ =>
 .r 7 ((uf v aV).c) fun x4 =>
 .br (x4 != part)
 (.nx 18 25 i3.2 (i3.1,i3.2+1))
 (.bt
 (.bind false (fun _=>True)
 (.br ((az.kind) == 0)
 (.fin (.inr ((az.kind) == 0)))
 (.fin (.inr ((az.kind) == 1))))
 (fun (b6:Bool)=>⟨[(41,bv b6)],[]⟩) fun b6 =>
 .br b6
 (.fin (.inr (true,b6,(az.kind) == 0)))
 (.br ((az.kind) == 2)
 (.r 15 (.wh ((decide (aV≤ka))&&((dh .i64 (az.flags) 2) == 0)) true ((aP aI aV).c)) fun x7 =>
 .fin (.inr (((decide (aV≤ka))&&((dh .i64 (az.flags) 2) == 0))&&x7,b6,(az.kind) == 0)))
 (.r 10 ((aP i3.1 (az.for_)).c) fun x8 =>
 .fin (.inr (x8,b6,(az.kind) == 0)))))
 (fun (b5:Bool × Bool × Bool)=>⟨[(12,bv b5.1),(41,bv b5.2.1),(42,bv b5.2.2)],[]⟩) fun b5 =>
 .br b5.1
 (.r 17 (.aj (.o [.cU (dG cN [aV])]) (.aj (.o [.cU (kx cN i3.1 [aV])]) (.aj (.t (cN.k6 [aV])) (.p (uG i3.1.length [aV].length 8))))) fun _ =>
 .r 18 .z fun _ =>
 .wi 25 (aK (aV+1)) ((i3.2+1:Nat):Int) <|
 .fin (.inr (i3.1++[aV],i3.2+1)))
 (.nx 18 25 i3.2 (i3.1,i3.2+1))))
 (.fin (.inl (.inr i3.1))))
 (fun (b2:(List Int))=>⟨[(9,ow 100001 b2)],[(100001,cp 3 1 bJ b2)]⟩) fun b2 =>
 .fin b2)
def cH v part ka aI:=(iW v part ka aI).val
theorem uz (v:View) (part:Int) (ka:Int) (aI:List Int):(iW v part ka aI).dq (fun (x:(List Int))=>x.length≤v.now.af.length∧∀ y,y∈x→0≤y∧y < (v.now.af.length:Int)):=by
 unfold iW
 try simp only [uf,aP]
 exact Ly
theorem tC (v:View) (part:Int) (ka:Int) (aI:List Int):(fun (x:(List Int))=>x.length≤v.now.af.length∧∀ y,y∈x→0≤y∧y < (v.now.af.length:Int)) (cH v part ka aI):=have h:=Sk.dc _ (uz v part ka aI); h
theorem EV (v:View) (part:Int) (ka:Int) (aI:List Int) (hl:v.lead.length≠0) (hn:v.now.af.length≤1000000):(iW v part ka aI).bq (fun _=>True):=by
 unfold iW
 try simp only [uf,aP]
 exact mH
def jM v part ka aI:=kp tok mixed Tryz.func32 [av v.cells,iv part,iv ka,lv bJ aI] (fun x=>lv bJ x) false (cH v part ka aI) (u2 (EV v part ka aI)) (uz v part ka aI)
def zl (rv:View→Int→Int) (rp:View→Int→Prop) (rf:∀ (v:View) (sign:Int),rp v sign→jl Tryz.prog 70 [av v.cells,iv sign] [] (iv (rv v sign)) []) (v:View) (sign:Int):fD (Int):=⟨Tryz.prog,70,[av v.cells,iv sign],fun x=>iv x,true,rv v sign,rp v sign,rf v sign,fun _=>True,trivial⟩
def iK (rv:View→Int→Int) (rp:View→Int→Prop) (rf:∀ (v:View) (sign:Int),rp v sign→jl Tryz.prog 70 [av v.cells,iv sign] [] (iv (rv v sign)) []) (v:View) (sign:Int):Sk (Int):=let az:=(v.now.af.getD sign.toNat default);
 .r 1 (.p (bM sign v.now.af.length)) fun _ =>
 .br (((az.kind) == 3)||((az.kind) == 4))
 (.r 3 ((zl rv rp rf v (az.for_)).c) fun x1 =>
 .fin x1)
 (.fin sign)
def cI:Nat→View→Int→Int
 | 0,_,_=>default
 | fu+1,v,sign=>(iK (cI fu) (fun _ _=>False) (fun _ _=>fun h=>h.elim) v sign).val
theorem uA (v:View) (h:v.pI):∀ (fu:Nat) (sign:Int),0≤sign→sign < (v.now.af.length:Int)→sign.toNat < fu→0≤cI fu v sign∧cI fu v sign≤sign
 | 0,_,_,_,h3=>absurd h3 (by omega)
 | fu+1,s,h1,h2,h3=>by
  have e:cI (fu+1) v s=bif (((v.now.af.getD s.toNat default).kind) == 3)||(((v.now.af.getD s.toNat default).kind) == 4) then cI fu v ((v.now.af.getD s.toNat default).for_) else s:=by kernel_rfl
  rw [e]
  cases hk:(((v.now.af.getD s.toNat default).kind) == 3)||(((v.now.af.getD s.toNat default).kind) == 4) with
  | false=>exact ⟨h1,Int.le_refl _⟩
  | true =>
   rw [cond_true]
   have:=h s.toNat (by omega) (by simpa using hk)
   have:=uA v h fu _ this.1 (by omega) (by omega)
   omega
theorem HW (fu:Nat) (rf:∀ (v:View) (sign:Int),(sign.toNat+1)≤fu∧(v.pI)∧(0≤sign∧sign < v.now.af.length)→jl Tryz.prog 70 [av v.cells,iv sign] [] (iv (cI fu v sign)) []) (v:View) (sign:Int) (hm:(sign.toNat+1)≤fu+1) (hv:v.pI) (hs:0≤sign∧sign < v.now.af.length):(iK (cI fu) (fun v sign=>(sign.toNat+1)≤fu∧(v.pI)∧(0≤sign∧sign < v.now.af.length)) rf v sign).bq (fun _=>True):=by
 refine Sk.aO _ ?_
 unfold iK
 simp only [Sk.gx,Sk.aD,reduceCtorEq,ON,kk,kp,zl,maxLen]
 refine ⟨hs,fun _ hk=>?_⟩
 have:=hv sign.toNat (by omega) (by simpa using hk)
 exact ⟨by omega,hv,by omega,by omega⟩
theorem Gs (fu:Nat) (rp:View→Int→Prop) (rf:∀ (v:View) (sign:Int),rp v sign→jl Tryz.prog 70 [av v.cells,iv sign] [] (iv (cI fu v sign)) []) (v:View) (sign:Int):(iK (cI fu) rp rf v sign).val=cI (fu+1) v sign:=by kernel_rfl
theorem Gt (fu:Nat):∀ (v:View) (sign:Int),(sign.toNat+1)≤fu→v.pI→(0≤sign∧sign < v.now.af.length)→jl Tryz.prog 70 [av v.cells,iv sign] [] (iv (cI fu v sign)) []:=by
 induction fu with
 | zero=>intro v sign hm h0 h1; exact absurd hm (by omega)
 | succ fu ih =>
  intro v sign hm h0 h1
  have h:jl Tryz.prog 70 [av v.cells,iv sign] [] (iv ((iK (cI fu) (fun v sign=>(sign.toNat+1)≤fu∧(v.pI)∧(0≤sign∧sign < v.now.af.length)) (fun v sign h=>ih v sign h.1 h.2.1 h.2.2) v sign).val)) []:=jl.sk tok mixed (fun x=>iv x) (fun _=>[]) Tryz.func70 rfl (by kernel_rfl) 3000 (iK (cI fu) (fun v sign=>(sign.toNat+1)≤fu∧(v.pI)∧(0≤sign∧sign < v.now.af.length)) (fun v sign h=>ih v sign h.1 h.2.1 h.2.2) v sign) (by kernel_rfl) (HW fu _ v sign hm h0 h1)
  rw [Gs] at h
  exact h
def yk (v:View) (sign:Int):Int:=cI ((sign.toNat+1)) v sign
theorem HX (v:View) (sign:Int) (hv:v.pI) (hs:0≤sign∧sign < v.now.af.length):jl Tryz.prog 70 [av v.cells,iv sign] [] (iv (yk v sign)) []:=Gt _ v sign (Nat.le_refl _) hv hs
theorem EW (v:View) (sign:Int):(fun (x:Int)=>v.pI→0≤sign∧sign < (v.now.af.length:Int)→0≤x∧x≤sign) (yk v sign):=by
 exact fun h hs=>uA v h _ sign hs.1 hs.2 (by omega)
def Bm (v:View) (sign:Int):fD (Int):=⟨Tryz.prog,70,[av v.cells,iv sign],fun x=>iv x,true,yk v sign,(v.pI)∧(0≤sign∧sign < v.now.af.length),fun h=>HX v sign h.1 h.2,fun (x:Int)=>v.pI→0≤sign∧sign < (v.now.af.length:Int)→0≤x∧x≤sign,EW v sign⟩
def jc (a:cT):Sk (Bool) :=
 .fin ((a.kind == 1)||(a.kind == 3))
def dP a:=(jc a).val
theorem rG (a:cT):dP a=((a.kind == 1)||(a.kind == 3)):=rfl
theorem BB (a:cT):(jc a).bq (fun _=>True):=by
 unfold jc
 exact mP
def nc a:=kk tok mixed Tryz.func73 [av a.cells] (fun x=>bv x) true (jc a) (dP a) (u0 (BB a))
def fI (s:List cT):Sk (Int) :=
 .bind true (fun b1=>∀ q,q < s.length→dP (s.getD q default)=false)
 (.loop (default:Sum (Int) (Unit)) (fun i2=>∀ q,q < i2→dP (s.getD q default)=false) (fun i2=>s.length - i2) (0:Nat)
 (fun (i2:Nat)=>⟨[(8,iv (i2:Int))],[]⟩) fun i2 =>
 .lt 0 0 i2 s.length
 (.r 4 (.aj (.p (bM (i2:Int) s.length)) ((nc (s.getD i2 default)).c)) fun x3 =>
 .br x3
 (.fin (.inl (.inl (i2:Int))))
 (.nx 6 8 i2 (i2+1)))
 (.fin (.inl (.inr ()))))
 (fun (_:Unit)=>⟨[],[]⟩) fun _ =>
 .fin (-1)
def D0 s:=(fI s).val
theorem zm (s:List cT):(fI s).dq (fun (x:Int)=>(x = -1∧∀ q,q < s.length→dP (s.getD q default)=false)∨(0≤x∧x < s.length∧dP (s.getD x.toNat default)=true∧∀ q,(q:Nat) < x.toNat→dP (s.getD q default)=false)):=by
 unfold fI
 try simp only [nc,rG]
 exact Yp
theorem Am (s:List cT):(fI s).bq (fun _=>True):=by
 unfold fI
 try simp only [nc,rG]
 exact xV
def l8 s:=kp tok mixed Tryz.func116 [lv cT.cells s,.fn 73 []] (fun x=>iv x) true (D0 s) (u0 (Am s)) (zm s)
def eC (s:List cT):Sk (Bool) :=
 .r 1 ((l8 s).c) fun x1 =>
 .fin (decide (x1≥0))
def Ao s:=(eC s).val
theorem v7 (s:List cT):(eC s).dq (fun (x:Bool)=>(x=true↔∃ q,q < s.length∧dP (s.getD q default)=true)):=by
 unfold eC
 try simp only [l8]
 exact Ly
theorem wP (s:List cT):(eC s).bq (fun _=>True):=by
 unfold eC
 try simp only [l8]
 exact mP
def oK s:=kp tok mixed Tryz.func72 [lv cT.cells s,.fn 73 []] (fun x=>bv x) true (Ao s) (u0 (wP s)) (v7 s)
structure Kept where
 shown:Int
 Dr:Int
 HZ:Int
 all:Int
 deriving Inhabited
def Kept.cells (c:Kept):List D:=[dI c.shown,dI c.Dr,dI c.HZ,dI c.all]
structure fR where
 r:ah
 ai:Int
 f:aw
 sign:Int
 day:Int
 due:Int
 deriving Inhabited
def fR.cells (c:fR):List D:=c.r.cells++[dI c.ai]++c.f.cells++[dI c.sign,dI c.day,dI c.due]
def fR.P2 (v:fR):Prop:=0≤v.f.aM.rD∧v.f.aM.rD < v.r.aB.length
def jN (r:ah) (ai:Int) (f:aw) (sign:Int) (day:Int):Sk (fR) :=
 .r 1 (.dep ((c9 f day).c) fun _=>(dx r ai f day).c) fun p3 =>
 .fin ({ r:=r,ai:=ai,f:=p3.1,sign:=sign,day:=day,due:=p3.2 }:fR)
def Mf r ai f sign day:=(jN r ai f sign day).val
theorem EX (r:ah) (ai:Int) (f:aw) (sign:Int) (day:Int):(jN r ai f sign day).dq (fun (x:fR)=>x.r=r∧x.f=au f day∧x.sign=sign):=by
 unfold jN
 try simp only [dx,c9,aw.Small,ah.Small,ah.cx]
 exact Ly
theorem Gu (r:ah) (ai:Int) (f:aw) (sign:Int) (day:Int) (bn:f.Small) (bV:r.cx) (aZ:r.Small):(jN r ai f sign day).bq (fun _=>True):=by
 simp only [aw.Small,ah.Small,ah.cx] at bn
 simp only [aw.Small,ah.Small,ah.cx] at bV
 simp only [aw.Small,ah.Small,ah.cx] at aZ
 unfold jN
 try simp only [dx,c9,aw.Small,ah.Small,ah.cx]
 exact mH
def zn r ai f sign day:=kp tok mixed Tryz.func117 [av r.cells,iv ai,av f.cells,iv sign,iv day] (fun x=>av x.cells) false (Mf r ai f sign day) (u3 (Gu r ai f sign day)) (EX r ai f sign day)
def gQ (v:fR) (kind:Int) (from_:Int):Sk (Int) :=
 .bt
 (.loop (default:Sum (Int) (Unit)) (fun i2=>i2≤v.f.aU.length) (fun i2=>v.f.aU.length - i2) (0:Nat)
 (fun (i2:Nat)=>⟨[(13,iv (i2:Int))],[]⟩) fun i2=>let az:=(v.f.aU.getD i2 default);
 .lt 11 0 i2 v.f.aU.length
 (.r 3 (.p (bM (i2:Int) v.f.aU.length)) fun _ =>
 .br ((((az.kind) == kind)&&((az.cr) == v.f.aM.zY))&&(decide ((az.day)≥from_)))
 (.fin (.inl (.inl (az.day))))
 (.nx 6 13 i2 (i2+1)))
 (.fin (.inl (.inr ()))))
 (fun (_:Unit)=>⟨[],[]⟩) fun _ =>
 .fin (-1)
def Ct v kind from_:=(gQ v kind from_).val
theorem zo (v:fR) (kind:Int) (from_:Int):(gQ v kind from_).bq (fun _=>True):=by
 unfold gQ
 exact mH
def fJ v kind from_:=kk tok mixed Tryz.func160 [av v.cells,iv kind,iv from_] (fun x=>iv x) true (gQ v kind from_) (Ct v kind from_) (u0 (zo v kind from_))
structure Bn where
 known:Bool
 last:Int
 deriving Inhabited
def Bn.cells (c:Bn):List D:=[dB c.known,dI c.last]
def im (v:fR):Sk (Bn):=let az:=({ known:=true,last:=9223372036854775807 }:Bn);
 .r 1 ((pM v.r v.ai 7 v.f v.day).c) fun x1 =>
 .br (x1.err != 0)
 (.fin az)
 (.br (!x1.cell.known)
 (.fin ({ known:=false,last:=0 }:Bn))
 (.br (decide ((aK (v.f.aM.day+x1.cell.n)) > 100000))
 (.fin az)
 (.fin ({ known:=true,last:=aK (v.f.aM.day+x1.cell.n) }:Bn))))
def D1 v:=(im v).val
theorem Ap (v:fR) (iC:v.f.Small) (nb:v.r.cx) (kX:v.r.Small):(im v).bq (fun _=>True):=by
 unfold im
 try simp only [pM]
 exact mH
def rH v:=kk tok mixed Tryz.func161 [av v.cells] (fun x=>av x.cells) true (im v) (D1 v) (u3 (Ap v))
def gA (v:fR) (on:Int) (t:Bn):Sk (Int) :=
 .br (!t.known)
 (.fin 2)
 (.br ((on != (-1))&&(decide (on≤t.last)))
 (.fin 1)
 (.br ((on != (-1))||(decide (v.day > t.last)))
 (.fin 0)
 (.fin 2)))
def BC v on t:=(gA v on t).val
theorem ym (v:fR) (on:Int) (t:Bn):(gA v on t).bq (fun _=>True):=by
 unfold gA
 exact mP
def gR v on t:=kk tok mixed Tryz.func159 [av v.cells,iv on,av t.cells] (fun x=>iv x) true (gA v on t) (BC v on t) (u0 (ym v on t))
def fT (v:fR):Sk (Int) :=
 .r 1 ((fJ v 1 0).c) fun x1 =>
 .br (decide (x1 > v.due))
 (.fin (-1))
 (.fin x1)
def Aq v:=(fT v).val
theorem wQ (v:fR):(fT v).bq (fun _=>True):=by
 unfold fT
 try simp only [fJ]
 exact mP
def gB v:=kk tok mixed Tryz.func162 [av v.cells] (fun x=>iv x) true (fT v) (Aq v) (u0 (wQ v))
def nM (l:List Int):Sk (Int) :=
 .r 1 ((aP l 0).c) fun x1 =>
 .br x1
 (.fin 0)
 (.r 3 ((aP l 2).c) fun x2 =>
 .br x2
 (.fin 2)
 (.fin 1))
def N0 l:=(nM l).val
theorem H0 (l:List Int):(nM l).bq (fun _=>True):=by
 unfold nM
 try simp only [aP]
 exact mP
def lJ l:=kk tok mixed Tryz.func123 [lv bJ l] (fun x=>iv x) true (nM l) (N0 l) (u0 (H0 l))
def gS (v:fR) (aF:Int):Sk (l7) :=
 .r 1 ((jo v.r v.ai aF ({ file:=v.f,sign:=v.sign,cL:=v.sign,gy:=(-1),due:=v.due,day:=v.day }:cG)).c) fun x1 =>
 .fin x1
def Cu v aF:=(gS v aF).val
theorem zp (v:fR) (aF:Int) (iC:v.f.Small) (nb:v.r.cx) (kX:v.r.Small):(gS v aF).bq (fun _=>True):=by
 unfold gS
 try simp only [jo]
 exact mH
def cu v aF:=kk tok mixed Tryz.func120 [av v.cells,iv aF] (fun x=>av x.cells) false (gS v aF) (Cu v aF) (u3 (zp v aF))
def nN (c_:eB) (day:Int) (n:Int):Sk (Int × Int) :=
 .r 1 ((dX day).c) fun x1 =>
 .br (((!x1)||(decide (n < 0)))||(decide (n > 20000)))
 (.fin (0,3))
 (.bt
 (.loop (default:Sum (Int × Int) (Int)) (fun i3=>0≤i3.2∧i3.2≤n∧0≤i3.1∧i3.1≤100000) (fun i3=>(n - i3.2).toNat) ((day,0):Int × Int)
 (fun (i3:Int × Int)=>⟨[(1,iv i3.1),(22,iv i3.2)],[]⟩) fun i3 =>
 .br (decide (i3.2 < n))
 (.r 5 ((lG c_ (aK (i3.1+1))).c) fun x4 =>
 .br (x4.2 != 0)
 (.fin (.inl (.inl (0,x4.2))))
 (.fin (.inr (x4.1,aK (i3.2+1)))))
 (.fin (.inl (.inr i3.1))))
 (fun (b2:Int)=>⟨[(1,iv b2)],[]⟩) fun b2 =>
 .fin (b2,0))
def N1 c_ day n:=(nN c_ day n).val
theorem H2 (c_:eB) (day:Int) (n:Int):(nN c_ day n).bq (fun _=>True):=by
 unfold nN
 try simp only [lG,dX,qI]
 exact xV
def Bo c_ day n:=kk tok mixed Tryz.func217 [av c_.cells,iv day,iv n] (fun x=>.fb [iv x.1,iv x.2]) true (nN c_ day n) (N1 c_ day n) (u0 (H2 c_ day n))
def iq (v:fR) (said:l7) (from_:Int):Sk (Bn):=let az:=({ known:=true,last:=9223372036854775807 }:Bn);
 .br (said.err != 0)
 (.fin az)
 (.br (!said.cell.known)
 (.fin ({ known:=false,last:=0 }:Bn))
 (.r 5 (.aj (.p (bM v.f.aM.rD v.r.aB.length)) ((Bo (v.r.aB.getD v.f.aM.rD.toNat default) from_ said.cell.n).c)) fun x1 =>
 .br (x1.2 != 0)
 (.fin az)
 (.fin ({ known:=true,last:=x1.1 }:Bn))))
def D3 v said from_:=(iq v said from_).val
theorem Ar (v:fR) (said:l7) (from_:Int) (hp:v.P2):(iq v said from_).bq (fun _=>True):=by
 unfold iq
 try simp only [Bo]
 exact mH
def da v said from_:=kk tok mixed Tryz.func163 [av v.cells,av said.cells,iv from_] (fun x=>av x.cells) true (iq v said from_) (D3 v said from_) (Ar v said from_)
def fw (v:fR):Sk (Int):=let az:=((rH v).c);
 .br (v.f.aM.aC.kind == 0)
 (.r 3 (.dep ((fJ v 2 0).c) fun x1=>.dep az fun x2=>(gR v x1 x2).c) fun p4 =>
 .fin p4.2.2)
 (.bind false (fun _=>True)
 (.br (v.f.aM.aC.kind == 1)
 (.r 6 (.dep ((sH v.f).c) fun x6=>.dep az fun x7=>(gR v x6 x7).c) fun p9 =>
 .fin (.inr p9.2.2))
 (.fin (.inr 1)))
 (fun (b5:Int)=>⟨[(4,iv b5)],[]⟩) fun b5 =>
 .r 7 ((gB v).c) fun Ju =>
 .br (Ju != (-1))
 (.fin b5)
 (.br (v.due == (-1))
 (.r 10 (.aj (.o [.cU (dG cN [b5,2])]) ((lJ [b5,2]).c)) fun VX =>
 .fin VX)
 (.r 11 (.dep ((fJ v 2 v.due).c) fun ZI=>.dep ((cu v 10).c) fun Gv=>.dep ((da v Gv v.due).c) fun x14=>.dep ((gR v ZI x14).c) fun x15=>.aj (.o [.cU (dG cN [b5,x15])]) ((lJ [b5,x15]).c)) fun p17 =>
 .fin p17.2.2.2.2)))
def yn v:=(fw v).val
theorem uP (v:fR) (iC:v.f.Small) (nb:v.r.cx) (kX:v.r.Small) (P3:v.P2):(fw v).bq (fun _=>True):=by
 refine Sk.aO _ ?_
 unfold fw
 simp (maxSteps:=2000000) only [Sk.gx,Sk.aD,reduceCtorEq,ON,kk,kp,lJ,cu,da,fJ,gB,rH,gR,sH,maxLen]
 all_goals (repeat' first | assumption | (apply And.intro) | (intro h))
 all_goals first | trivial | assumption | omega | ((try simp only [LN] at *) <;> first | omega | (refine (aq ?_ ?_).trans ?_ <;> omega) | (simp (disch:=omega) only [aq] at *; omega) | (grind) | (simp_all; done) | (simp_all; omega))
def nd v:=kk tok mixed Tryz.func118 [av v.cells] (fun x=>iv x) true (fw v) (yn v) (u4 (uP v))
def fx (v:fR):Sk (Int) :=
 .r 1 ((gB v).c) fun x1 =>
 .br (x1 != (-1))
 (.fin x1)
 (.fin v.due)
def yo v:=(fx v).val
theorem uQ (v:fR):(fx v).bq (fun _=>True):=by
 unfold fx
 try simp only [gB]
 exact mP
def fK v:=kk tok mixed Tryz.func164 [av v.cells] (fun x=>iv x) true (fx v) (yo v) (u0 (uQ v))
def fy (v:fR):Sk (Int) :=
 .r 1 ((fK v).c) fun x1 =>
 .r 2 (.dep ((cu v 10).c) fun x2=>(da v x2 x1).c) fun SP =>
 .br (!SP.2.known)
 (.fin 2)
 (.bind false (fun _=>True)
 (.br (decide (v.day≤SP.2.last))
 (.fin (.inr 2))
 (.fin (.inr 0)))
 (fun (b4:Int)=>⟨[(5,iv b4)],[]⟩) fun b4 =>
 .bt
 (.loop (default:Sum (Int) (Int)) (fun i6=>i6.2≤v.f.aU.length) (fun i6=>v.f.aU.length - i6.2) ((b4,0):Int × Nat)
 (fun (i6:Int × Nat)=>⟨[(5,iv i6.1),(28,iv (i6.2:Int))],[]⟩) fun i6=>let az:=(v.f.aU.getD i6.2 default);
 .lt 26 0 i6.2 v.f.aU.length
 (.r 10 (.p (bM (i6.2:Int) v.f.aU.length)) fun _ =>
 .br (((((az.kind) != 4)||((az.cr) != v.f.aM.zY))||(decide ((az.day) < x1)))||(decide ((az.day) > SP.2.last)))
 (.nx 19 28 i6.2 (i6.1,i6.2+1))
 (.bind false (fun _=>True)
 (.br ((az.form) == 1)
 (.r 14 (.dep ((cu v 9).c) fun x8=>(gN x8).c) fun p10 =>
 .fin (.inr p10.2))
 (.fin (.inr 1)))
 (fun (b7:Int)=>⟨[(8,iv b7)],[]⟩) fun b7 =>
 .br (b7 == 1)
 (.fin (.inl (.inl 1)))
 (.br (b7 == 2)
 (.nx 19 28 i6.2 (2,i6.2+1))
 (.nx 19 28 i6.2 (i6.1,i6.2+1)))))
 (.fin (.inl (.inr i6.1))))
 (fun (b5:Int)=>⟨[(5,iv b5)],[]⟩) fun b5 =>
 .fin b5)
def yp v:=(fy v).val
theorem uR (v:fR) (iC:v.f.Small) (nb:v.r.cx) (kX:v.r.Small) (P3:v.P2):(fy v).bq (fun _=>True):=by
 unfold fy
 try simp only [gN,cu,da,fK]
 exact mH
def nf v:=kk tok mixed Tryz.func121 [av v.cells] (fun x=>iv x) true (fy v) (yp v) (u4 (uR v))
def kj (said:l7) (answer:Int):Sk (Int) :=
 .r 1 ((gN said).c) fun x1 =>
 .br ((x1 == 0)||(answer == 1))
 (.fin 1)
 (.br (x1 == 2)
 (.fin 2)
 (.fin answer))
def H3 said answer:=(kj said answer).val
theorem D4 (said:l7) (answer:Int):(kj said answer).bq (fun _=>True):=by
 unfold kj
 try simp only [gN]
 exact mP
def pP said answer:=kk tok mixed Tryz.func119 [av said.cells,iv answer] (fun x=>iv x) true (kj said answer) (H3 said answer) (u0 (D4 said answer))
def fL (v:fR):Sk (Int) :=
 .r 1 ((fK v).c) fun x1 =>
 .r 2 ((cu v 12).c) fun x2 =>
 .r 3 ((da v x2 x1).c) fun x3 =>
 .br (!x3.known)
 (.fin 2)
 (.bt
 (.loop (default:Sum (Int) (Int)) (fun i5=>i5.2.2≤v.f.aU.length∧i5.2.1.length≤i5.2.2) (fun i5=>v.f.aU.length - i5.2.2) ((x3.last,[],0):Int × (List cT) × Nat)
 (fun (i5:Int × (List cT) × Nat)=>⟨[(6,iv i5.1),(7,ow 100005 i5.2.1),(30,iv (i5.2.2:Int))],[(100005,cp 126 9 cT.cells i5.2.1)]⟩) fun i5=>let az:=(v.f.aU.getD i5.2.2 default); let aV:=(i5.1,i5.2.1,v.f.aU.getD i5.2.2 default,az.kind,(az.kind) != 5);
 .lt 28 0 i5.2.2 v.f.aU.length
 (.bind true (fun b6=>b6.2.1.length≤i5.2.1.length+1)
 (.r 10 (.p (bM (i5.2.2:Int) v.f.aU.length)) fun _ =>
 .br ((az.kind) != 5)
 (.fin (.inr aV))
 (.bt
 (.loop (default:Sum (Sum (Sum (Sum (Int) (Int)) (Int × (List cT) × Nat)) (Int × (List cT) × cT × Int × Bool)) (Bool × Int × Bool)) (fun i8=>i8.2≤i5.2.1.length) (fun i8=>i5.2.1.length - i8.2) (((decide ((az.day)≥x1))&&(decide ((az.day)≤x3.last)),0):Bool × Nat)
 (fun (i8:Bool × Nat)=>⟨[(10,bv i8.1),(50,iv (i8.2:Int))],[]⟩) fun i8=>let eG:=(i5.2.1.getD i8.2 default); let cF:=(i8.2:Int);
 .lt 7 0 i8.2 i5.2.1.length
 (.r 15 (.aj (.p (bM cF i5.2.1.length)) (.p (i8.2 < i5.2.1.length))) fun _ =>
 .r 16 (.wh i8.1 false (.wh ((eG.cr) == (az.ja)) true ((da v x2 (eG.day)).c))) fun x9 =>
 .r 17 .z fun _ =>
 .wi 50 (aK (cF+1)) ((i8.2+1:Nat):Int) <|
 .fin (.inr (i8.1||(((eG.cr) == (az.ja))&&(decide ((az.day)≤x9.last))),i8.2+1)))
 (.fin (.inl (.inr (i8.1,cF,decide (cF < ((i5.2.1.length:Nat):Int)))))))
 (fun (b7:Bool × Int × Bool)=>⟨[(10,bv b7.1),(50,iv b7.2.1),(51,bv b7.2.2)],[]⟩) fun b7 =>
 .br (!b7.1)
 (.fin (.inr aV))
 (.r 19 (.p (bM v.sign v.f.af.length)) fun _ =>
 .br ((az.cr) == ((v.f.af.getD v.sign.toNat default).ja))
 (.fin (.inl (.inl (.inl 1))))
 (.r 21 (.aj (.o [.cU (dG cT.E [v.f.aU.getD i5.2.2 default])]) (.aj (.o [.cU (kx cT.E i5.2.1 [v.f.aU.getD i5.2.2 default])]) (.aj (.t (cT.E.k6 [v.f.aU.getD i5.2.2 default])) (.p (uG i5.2.1.length [v.f.aU.getD i5.2.2 default].length 72))))) fun _ =>
 .r 22 ((da v x2 (az.day)).c) fun Ju =>
 .fin (.inr (dk i5.1 Ju.last,i5.2.1++[v.f.aU.getD i5.2.2 default],v.f.aU.getD i5.2.2 default,az.kind,(az.kind) != 5))))))
 (fun (b6:Int × (List cT) × cT × Int × Bool)=>⟨[(6,iv b6.1),(7,ow 100007 b6.2.1),(33,av b6.2.2.1.cells),(35,iv b6.2.2.2.1),(36,bv b6.2.2.2.2)],[(100007,cp 126 9 cT.cells b6.2.1)]⟩) fun b6 =>
 .nx 23 30 i5.2.2 (b6.1,b6.2.1,i5.2.2+1))
 (.fin (.inl (.inr i5.1))))
 (fun (b4:Int)=>⟨[(6,iv b4)],[]⟩) fun b4 =>
 .br (decide (v.day > b4))
 (.fin 0)
 (.fin 2))
def zq v:=(fL v).val
theorem v8 (v:fR) (hs:0≤v.sign∧v.sign < (v.f.af.length:Int)) (iC:v.f.Small) (nb:v.r.cx) (kX:v.r.Small) (P3:v.P2):(fL v).bq (fun _=>True):=by
 refine Sk.aO _ ?_
 unfold fL
 simp only [Sk.gx,Sk.aD,reduceCtorEq,ON,kk,kp,cu,da,fK,maxLen]
 have hS1:=iC.2.2.1
 all_goals exact okT
def oe v:=kk tok mixed Tryz.func122 [av v.cells] (fun x=>iv x) true (fL v) (zq v) (u5 (v8 v))
def mC (r:ah) (ai:Int) (f:aw) (sign:Int) (day:Int):Sk (Kept) :=
 .r 1 ((zn r ai f sign day).c) fun x1 =>
 .br ((decide (sign < 0))||(decide (sign≥((x1.f.af.length:Nat):Int))))
 (.fin ({ shown:=0,Dr:=0,HZ:=0,all:=0 }:Kept))
 (.r 5 ((nd x1).c) fun x2 =>
 .bind false (fun _=>True)
 (.br (x1.due != (-1))
 (.r 7 (.dep ((cu x1 8).c) fun x4=>.dep ((nf x1).c) fun x5=>(pP x4 x5).c) fun SP =>
 .r 8 (.dep ((cu x1 11).c) fun x7=>.dep ((oe x1).c) fun x8=>(pP x7 x8).c) fun p10 =>
 .fin (.inr ({ shown:=x2,Dr:=SP.2.2,HZ:=p10.2.2,all:=0 }:Kept)))
 (.fin (.inr ({ shown:=x2,Dr:=2,HZ:=2,all:=0 }:Kept))))
 (fun (b3:Kept)=>⟨[],[(12,.box (b3.cells.map .d))]⟩) fun b3 =>
 .r 9 (.aj (.o [.cU (dG cN [b3.shown,b3.Dr,b3.HZ])]) ((lJ [b3.shown,b3.Dr,b3.HZ]).c)) fun ZI =>
 .fin ({ b3 with all:=ZI }))
def Mg r ai f sign day:=(mC r ai f sign day).val
theorem Gw (r:ah) (ai:Int) (f:aw) (sign:Int) (day:Int) (hF:dK r f) (bn:f.Small) (bV:r.cx) (aZ:r.Small):(mC r ai f sign day).bq (fun _=>True):=by
 refine Sk.aO _ ?_
 unfold mC
 simp only [Sk.gx,Sk.aD,reduceCtorEq,ON,kk,kp,lJ,zn,pP,cu,oe,nd,nf,maxLen]
 refine ⟨⟨bn,bV,aZ⟩,fun x _ hx hc=>?_⟩
 have hS:x.f.Small:=by rw [hx.2.1]; exact qy bn day
 have hB:x.r.cx:=by rw [hx.1]; exact bV
 have hR:x.r.Small:=by rw [hx.1]; exact aZ
 have hp:x.P2:=by unfold fR.P2; rw [hx.1,hx.2.1,Uk]; exact hF.1.2.1
 have hs:0≤x.sign∧x.sign < (x.f.af.length:Int):=by rw [hx.2.2]; simp only [LN] at hc; omega
 all_goals exact okT
def zr r ai f sign day:=kk tok mixed Tryz.func74 [av r.cells,iv ai,av f.cells,iv sign,iv day] (fun x=>av x.cells) true (mC r ai f sign day) (Mg r ai f sign day) (u4 (Gw r ai f sign day))
theorem xu {d:Array Int} {n:Nat} (hs:∀ i j,i≤j→j < n→d[i]!≤d[j]!):∀ m,m≤n→(Lib.compactUpTo d m).Pairwise (· < ·)∧∀ x,x∈Lib.compactUpTo d m↔∃ j,j < m∧d[j]! = x
 | 0,_=>by simp [Lib.compactUpTo]
 | m+1,hm=>by
  obtain ⟨h1,h2⟩:=xu hs m (by omega)
  rw [Lib.compactUpTo_succ]
  by_cases hk:Lib.keeps d m=true
  ·rw [if_pos hk]
   refine ⟨List.pairwise_append.2 ⟨h1,by simp,fun a ha b hb=>?_⟩,fun x=>?_⟩
   ·simp only [List.mem_singleton] at hb
    subst hb
    obtain ⟨j,hj,rfl⟩:=(h2 a).1 ha
    have h3:=hs j (m - 1) (by omega) (by omega)
    have h4:=hs (m - 1) m (by omega) (by omega)
    simp only [Lib.keeps,decide_eq_true_eq] at hk
    rcases hk with hk | hk
    ·omega
    ·omega
   ·rw [List.mem_append,h2,List.mem_singleton]
    constructor
    ·rintro (⟨j,hj,rfl⟩ | rfl)
     ·exact ⟨j,by omega,rfl⟩
     ·exact ⟨m,by omega,rfl⟩
    ·rintro ⟨j,hj,rfl⟩
     by_cases e:j=m
     ·subst e; exact .inr rfl
     ·exact .inl ⟨j,by omega,rfl⟩
  ·rw [if_neg hk,List.append_nil]
   refine ⟨h1,fun x=>(h2 x).trans ?_⟩
   constructor
   ·rintro ⟨j,hj,rfl⟩
    exact ⟨j,by omega,rfl⟩
   ·rintro ⟨j,hj,rfl⟩
    by_cases e:j=m
    ·subst e
     simp only [Lib.keeps,decide_eq_true_eq,not_or] at hk
     have:¬ d[j]!≠d[j - 1]!:=hk.2
     exact ⟨j - 1,by omega,by omega⟩
    ·exact ⟨j,by omega,rfl⟩
theorem Rw (l:List Int):(Lib.compact (iA l)).Pairwise (· < ·)∧∀ x,x∈Lib.compact (iA l)↔x∈l:=by
 have hp:(iA l).Pairwise (·≤·):=by
  have:=List.pairwise_mergeSort (le:=fun x y:Int=>decide (x≤y)) (fun a b c h1 h2=>by simp at *; omega) (fun a b=>by simp; omega) l
  exact this.imp (fun h=>by simpa using h)
 have hg:∀ j,j < (iA l).length→(iA l).toArray[j]! = (iA l).getD j default:=fun j hj=>by simp [List.getD,hj]
 have hs:∀ i j,i≤j→j < (iA l).length→(iA l).toArray[i]!≤(iA l).toArray[j]!:=fun i j hij hj=>by
  rw [hg i (by omega),hg j hj]
  by_cases e:i=j
  ·subst e; exact Int.le_refl _
  ·have:=List.pairwise_iff_getElem.1 hp i j (by omega) hj (by omega)
   simpa [List.getD,hj,show i < (iA l).length by omega] using this
 obtain ⟨h1,h2⟩:=xu hs (iA l).length (Nat.le_refl _)
 refine ⟨h1,fun x=>(h2 x).trans (Iff.trans ?_ (List.mergeSort_perm l fun x y=>decide (x≤y)).mem_iff)⟩
 constructor
 ·rintro ⟨j,hj,rfl⟩
  rw [hg j hj]
  exact fX hj _
 ·intro hx
  obtain ⟨i,hi,rfl⟩:=List.getElem_of_mem hx
  have gv:i < (iA l).length:=hi
  refine ⟨i,gv,(hg i gv).trans ?_⟩
  show (iA l).getD i default=(iA l)[i]
  simp [List.getD,gv]
theorem Cv (c:gG) (last:Int):∀ (aI:List Int) (o:bI),(nK c last aI o).length≤aI.length+1
 | [],o=>by simp [nK]
 | l :: r,o=>by
  simp only [nK]
  cases bU c l last == 0 with
  | true=>simp
  | false =>
   rw [cond_false]
   cases bU c l last == 2 with
   | true=>rw [cond_true,List.length_cons,List.length_cons]; have:=Cv c last r { qj:=(c.view.now.af.getD l.toNat default).cr,sign:=l,state:=2 }; omega
   | false=>rw [cond_false,List.length_cons]; have:=Cv c last r { o with qj:=(c.view.now.af.getD l.toNat default).cr,sign:=l }; omega
theorem Au (c:gG) (aI:List Int):(bC c aI).length≤aI.length+1:=Cv c _ aI _
theorem ac6 {α ι δ:Type} (n:Nat) (h:Nat→α) (pack:α→Nat→ι) {f:ι→δ ⊕ ι} {d:δ} (e:α→δ) (hs:∀ i,i < n→f (pack (h i) i)=.inr (pack (h (i+1)) (i+1))) (he:f (pack (h n) n)=.inl (e (h n))) {m:Nat} (hm:n < m):iter f d m (pack (h 0) 0)=e (h n):=by
 have key:∀ k,k≤n→∀ m,k < m→iter f d m (pack (h (n - k)) (n - k))=e (h n):=by
  intro k
  induction k with
  | zero =>
   intro _ m hm
   obtain ⟨m,rfl⟩:∃ q,m=q+1:=⟨m - 1,by omega⟩
   simp only [iter,Nat.sub_zero,he]
  | succ k ih =>
   intro hk m hm
   obtain ⟨m,rfl⟩:∃ q,m=q+1:=⟨m - 1,by omega⟩
   simp only [iter,hs (n - (k+1)) (by omega)]
   rw [show n - (k+1)+1=n - k by omega]
   exact ih (by omega) m (by omega)
 have:=key n (Nat.le_refl _) m hm
 rwa [Nat.sub_self] at this
def wa (now:aw) (i:Int):Bool:=now.aU.any fun a=>a.kind == 7&&a.at_ == i
def tD (now:aw):List Int:=((List.range now.af.length).filter fun i=>((now.af.getD i default).kind == 2)&&!(wa now ((i:Nat):Int))).map fun i=>(now.af.getD i default).part
theorem zX {α:Type} (k k':Int) (v:α):∀ (m:List (Int × α)),qt (vB m k v) k'=if k'=k then some v else qt m k'
 | []=>by
  simp only [vB,qt]
  by_cases e:k'=k
  ·subst e; simp
  ·have:(k' == k)=false:=by simpa using e
   rw [this,if_neg e]; rfl
 | p :: r=>by
  have ih:=zX k k' v r
  simp only [vB]
  cases h:k == p.1 with
  | true =>
   have h:=beq_iff_eq.1 h
   simp only [cond_true,qt]
   by_cases e:k'=k
   ·subst e; rw [← h]; simp
   ·have:(k' == p.1)=false:=by rw [← h]; simpa using e
    rw [this,if_neg e]; rfl
  | false =>
   simp only [cond_false,qt,ih]
   by_cases e:k'=k
   ·subst e; rw [h]; simp
   ·rw [if_neg e,if_neg e]
theorem P4 (aU:List cT) (p:cT→Bool) (k:Int) (m:List (Int × Bool)):Ht (aU.foldl (fun m a=>bif p a then vB m a.at_ true else m) m) k false=(aU.any (fun a=>p a&&a.at_ == k)||Ht m k false):=by
 induction aU generalizing m with
 | nil=>rfl
 | cons a r ih =>
  rw [List.foldl_cons,ih,List.any_cons]
  cases hp:p a with
  | false=>simp
  | true =>
   simp only [cond_true,Bool.true_and]
   unfold Ht
   rw [zX]
   by_cases e:k=a.at_
   ·subst e; simp
   ·have:(a.at_ == k)=false:=by simpa using fun h:a.at_=k=>e h.symm
    rw [if_neg e,this,Bool.false_or]
theorem Gx (f:aw) (day:Int):bN f day=⟨f,au f day,day,bif (((Lib.compact (iA (tD (au f day)))).length:Nat):Int) == 0 then [0] else Lib.compact (iA (tD (au f day)))⟩:=by
 unfold bN qa
 dsimp +instances only [Sk.cz,Sk.cY,Sk.ct,Sk.bK,Sk.cE,Sk.cV,Sk.Q6,Sk.bg,fD.wG,kk,kp,bH.xU,bH.Zw,Jp.wG,Jq.wG,c9,sB,nC]
 generalize au f day=now
 rw [jW now.aU (fun s i=>(i,s)) (fun x (s:List (Int × Bool))=>Sum.inr (bif x.kind == 7 then vB s x.at_ true else s)) (fun s=>Sum.inr s) (fun s i hi=>?_) (fun s=>?_) (by omega) []]
 ·rw [jm (fun (x:cT) s=>bif x.kind == 7 then vB s x.at_ true else s)]
  simp only [cX]
  have hg:∀ k,Ht (now.aU.foldl (fun m a=>bif a.kind == 7 then vB m a.at_ true else m) []) k false=wa now k:=fun k=>by
   rw [P4 now.aU (fun a=>a.kind == 7) k []]
   show (_||false)=_
   rw [Bool.or_false]; rfl
  generalize now.aU.foldl (fun m a=>bif a.kind == 7 then vB m a.at_ true else m) []=m at hg
  refine Eq.trans (congrArg (fun q=>bO q _) (ac6 now.af.length (fun n=>((List.range n).filter fun i=>((now.af.getD i default).kind == 2)&&!(wa now ((i:Nat):Int))).map fun i=>(now.af.getD i default).part) (fun s i=>(i,s)) (fun s=>Sum.inr s) (fun i hi=>?_) ?_ (by omega))) ?_
  rotate_left
  rotate_left
  ·simp only [cX]
   show (bif (((Lib.compact (iA (tD now))).length:Nat):Int) == 0 then View.mk f now day [0] else View.mk f now day (Lib.compact (iA (tD now))))=View.mk f now day (bif (((Lib.compact (iA (tD now))).length:Nat):Int) == 0 then [0] else Lib.compact (iA (tD now)))
   cases (((Lib.compact (iA (tD now))).length:Nat):Int) == 0 <;> rfl
  ·dsimp only
   rw [decide_eq_true (by omega),cond_true,hg,List.range_succ,List.filter_append,List.map_append]
   cases hc:((now.af.getD i default).kind == 2)&&!(wa now ((i:Nat):Int)) with
   | true=>rw [List.filter_cons_of_pos (by simpa using hc)]; rfl
   | false=>rw [List.filter_cons_of_neg (by simpa using hc)]; simp
  ·dsimp only
   rw [decide_eq_false (by omega),cond_false]
 ·rw [decide_eq_true (by omega),cond_true]
  cases (now.aU.getD i default).kind == 7 <;> rfl
 ·rw [decide_eq_false (by omega),cond_false]
def lr (c_:gG) (o:bI) (sign:Int) (aI:List Int) (lu:List dZ):Sk (Int × Int):=let az:=(!((c_.due != (-1))&&(decide (c_.view.day≥c_.due))));
 .r 1 ((Bm c_.view sign).c) fun x1 =>
 .r 2 (.aj (.p (bM sign lu.length)) ((vY o.state ((lu.getD sign.toNat default).binds)).c)) fun x2 =>
 .r 4 (.p (bM x1 c_.view.now.af.length)) fun _ =>
 .br (((c_.view.now.af.getD x1.toNat default).kind) == 1)
 (.br az
 (.fin (0,0))
 (.fin (x2,0)))
 (.r 8 ((oK c_.view.now.aU).c) fun x3 =>
 .r 9 (.wh (az&&(!x3)) false (.p (bM x1 lu.length))) fun _ =>
 .br ((az&&(!x3))||(!((lu.getD x1.toNat default).Ck)))
 (.fin (0,0))
 (.bt
 (.loop (default:Sum (Int × Int) (Int × Int)) (fun i5=>i5.2.2≤aI.length) (fun i5=>aI.length - i5.2.2) ((0,1,0):Int × Int × Nat)
 (fun (i5:Int × Int × Nat)=>⟨[(16,iv i5.1),(17,iv i5.2.1),(76,iv (i5.2.2:Int))],[]⟩) fun i5=>let aV:=(aI.getD i5.2.2 default);
 .lt 3 0 i5.2.2 aI.length
 (.r 14 (.p (bM (i5.2.2:Int) aI.length)) fun _ =>
 .bind false (fun _=>True)
 (.br (decide (aV≤o.sign))
 (.fin (.inr (aK (i5.2.1+1))))
 (.fin (.inr i5.2.1)))
 (fun (b6:Int)=>⟨[(17,iv b6)],[]⟩) fun b6 =>
 .br ((decide (aV≤o.sign))&&(decide (aV≥x1)))
 (.nx 19 76 i5.2.2 (aK (i5.1+1),b6,i5.2.2+1))
 (.nx 19 76 i5.2.2 (i5.1,b6,i5.2.2+1)))
 (.fin (.inl (.inr (i5.1,i5.2.1)))))
 (fun (b4:Int × Int)=>⟨[(16,iv b4.1),(17,iv b4.2)],[]⟩) fun b4 =>
 .r 20 ((aP aI x1).c) fun x7 =>
 .bind false (fun _=>True)
 (.br (!x7)
 (.fin (.inr b4.2))
 (.fin (.inr b4.1)))
 (fun (b8:Int)=>⟨[(16,iv b8)],[]⟩) fun b8 =>
 .r 22 (.dep ((zr c_.r c_.ai c_.view.all x1 c_.view.day).c) fun x9=>(vY x2 x9.all).c) fun SP =>
 .fin (SP.2,b8)))
def eZ c_ o sign aI lu:=(lr c_ o sign aI lu).val
theorem EY (c_:gG) (o:bI) (sign:Int) (aI:List Int) (lu:List dZ) (he:lu.length=c_.view.now.af.length) (hs:0≤sign∧sign < (c_.view.now.af.length:Int)) (hc:c_.view.now=au c_.view.all c_.view.day) (hF:dK c_.r c_.view.all) (ZJ:c_.view.pI) (VZ:c_.view.all.Small) (Uz:c_.r.cx) (Rv:c_.r.Small):(lr c_ o sign aI lu).bq (fun _=>True):=by
 unfold lr
 try simp only [zr,vY,Bm,oK,aP]
 exact mH
def qQ c_ o sign aI lu:=kk tok mixed Tryz.func33 [av c_.cells,av o.cells,iv sign,lv bJ aI,lv dZ.cells lu] (fun x=>.fb [iv x.1,iv x.2]) true (lr c_ o sign aI lu) (eZ c_ o sign aI lu) (fun (h:(lu.length=c_.view.now.af.length)∧(0≤sign∧sign < (c_.view.now.af.length:Int))∧(c_.view.now=au c_.view.all c_.view.day)∧(dK c_.r c_.view.all)∧(c_.view.pI)∧(c_.view.all.Small)∧(c_.r.cx)∧(c_.r.Small))=>EY c_ o sign aI lu h.1 h.2.1 h.2.2.1 h.2.2.2.1 h.2.2.2.2.1 h.2.2.2.2.2.1 h.2.2.2.2.2.2.1 h.2.2.2.2.2.2.2)
structure JZ where
 sum:Int
 oL:Int
 Gy:Int
 exchange:Int
 W7:Int
 rest:Int
 bj:Int
 deriving Inhabited
def JZ.cells (c:JZ):List D:=[dI c.sum,dI c.oL,dI c.Gy,dI c.exchange,dI c.W7,dI c.rest,dI c.bj]
def kI (r:ah) (ai:Int) (f:aw) (sign:Int) (day:Int):Sk (dZ × Bool) :=
 .r 1 ((qd r ai f day).c) fun x1 =>
 .br ((decide (sign < 0))||(decide (sign≥((x1.f.af.length:Nat):Int))))
 (.fin (({ sign:=0,kind:=0,qj:=0,binds:=0,text:=0,sum:=0,Ck:=false }:dZ),false))
 (.r 4 ((gn x1 sign).c) fun x2 =>
 .fin (x2,true))
def I1 r ai f sign day:=(kI r ai f sign day).val
theorem J0 (r:ah) (ai:Int) (f:aw) (sign:Int) (day:Int) (hP:f.qu∧f.Small):(kI r ai f sign day).dq (fun (x:dZ × Bool)=>0≤x.1.sum∧x.1.sum≤1099511627776):=by
 refine Sk.bh _ ?_
 unfold kI
 simp only [Sk.cK,Sk.aD,reduceCtorEq,ON,kk,kp,qd,gn,maxLen]
 intro x _ hx
 refine ⟨fun _=>⟨by decide,by decide⟩,fun hc y _ hy=>hy ⟨by rw [hx.1]; exact Yu hP.1 day,by rw [hx.1]; exact qy hP.2 day,?_⟩⟩
 simp only [LN] at hc
 omega
theorem H4 (r:ah) (ai:Int) (f:aw) (sign:Int) (day:Int):(fun (x:dZ × Bool)=>(f.qu∧f.Small)→(0≤x.1.sum∧x.1.sum≤1099511627776)) (I1 r ai f sign day):=fun hP=>have h:=Sk.dc _ (J0 r ai f sign day hP); h
theorem Mh (r:ah) (ai:Int) (f:aw) (sign:Int) (day:Int) (bn:f.Small) (bV:r.cx) (aZ:r.Small):(kI r ai f sign day).bq (fun _=>True):=by
 refine Sk.aO _ ?_
 unfold kI
 simp only [Sk.gx,Sk.aD,reduceCtorEq,ON,kk,kp,qd,gn,maxLen]
 refine ⟨⟨bn,bV,aZ⟩,fun x _ hx hc=>?_⟩
 have hS:x.f.Small:=by rw [hx.1]; exact qy bn day
 have hB:x.r.cx:=by rw [hx.2]; exact bV
 have hR:x.r.Small:=by rw [hx.2]; exact aZ
 simp only [LN] at hc
 exact ⟨by omega,hS,hB,hR⟩
def yq r ai f sign day:=kk tok mixed Tryz.func76 [av r.cells,iv ai,av f.cells,iv sign,iv day] (fun x=>.fb [av x.1.cells,bv x.2]) true (kI r ai f sign day) (I1 r ai f sign day) (u3 (Mh r ai f sign day)) (fun (x:dZ × Bool)=>(f.qu∧f.Small)→(0≤x.1.sum∧x.1.sum≤1099511627776)) (H4 r ai f sign day)
def pB (n:Int) (fm:Int):Sk (Bool) :=
 .fin ((decide (n≥0))&&(decide (n≤fm)))
def Gz n fm:=(pB n fm).val
theorem Bp (n:Int) (fm:Int):Gz n fm=((decide (n≥0))&&(decide (n≤fm))):=rfl
theorem J1 (n:Int) (fm:Int):(pB n fm).bq (fun _=>True):=by
 unfold pB
 exact mP
def kJ n fm:=kk tok mixed Tryz.func171 [iv n,iv fm] (fun x=>bv x) true (pB n fm) (Gz n fm) (u0 (J1 n fm))
def T8:List Nat:=[0,1,2,2,3,3,3,3,4,4,4,4,4,4,4,4]++List.replicate 16 5++List.replicate 32 6++List.replicate 64 7++List.replicate 128 8
theorem agK:∀ k,k < 256→0 < k→1≤T8.getD k 0∧T8.getD k 0≤8∧2 ^ (T8.getD k 0 - 1)≤k∧k < 2 ^ (T8.getD k 0):=by decide +kernel
theorem aeW {x d:Int} {n t:Nat} (hd:d=2 ^ n) (h1:(2:Int) ^ (t - 1)≤x / d) (h2:x / d < 2 ^ t) (ht:1≤t):(2:Int) ^ (n+t - 1)≤x∧x < 2 ^ (n+t):=by
 subst hd
 have hp:(0:Int) < 2 ^ n:=Int.pow_pos (by omega)
 have e:=Int.mul_ediv_add_emod x (2 ^ n)
 have r0:=Int.emod_nonneg x (Int.ne_of_gt hp)
 have r1:=Int.emod_lt_of_pos x hp
 rw [show n+t - 1=n+(t - 1) by omega,Int.pow_add,Int.pow_add]
 constructor
 ·have:=Int.mul_le_mul_of_nonneg_left h1 (Int.le_of_lt hp)
  omega
 ·have:(2:Int) ^ n * (x / 2 ^ n+1)≤2 ^ n * 2 ^ t:=Int.mul_le_mul_of_nonneg_left (by omega) (Int.le_of_lt hp)
  rw [Int.mul_add] at this
  omega
theorem YE (a:Int):dW .u64 a 32=a / 4294967296:=Hv .u64 (b:=32) (by decide)
theorem adU (a:Int):dW .u64 a 16=a / 65536:=Hv .u64 (b:=16) (by decide)
theorem agL (a:Int):dW .u64 a 8=a / 256:=Hv .u64 (b:=8) (by decide)
theorem abD {x:Int} (h:0 < x) (h2:x < 256):1≤T8.getD x.toNat 0∧T8.getD x.toNat 0≤8∧(2:Int) ^ (T8.getD x.toNat 0 - 1)≤x∧x < 2 ^ (T8.getD x.toNat 0):=by
 obtain ⟨h3,h4,h5,h6⟩:=agK x.toNat (by omega) (by omega)
 refine ⟨h3,h4,?_,?_⟩
 ·have:((2 ^ (T8.getD x.toNat 0 - 1):Nat):Int)≤(x.toNat:Int):=by exact_mod_cast h5
  rw [Int.natCast_pow] at this
  have e:((2:Nat):Int)=2:=rfl
  rw [e] at this
  omega
 ·have:((x.toNat:Nat):Int) < ((2 ^ (T8.getD x.toNat 0):Nat):Int):=by exact_mod_cast h6
  rw [Int.natCast_pow] at this
  have e:((2:Nat):Int)=2:=rfl
  rw [e] at this
  omega
theorem abE:∀ k,k < 256→((⟨#[0,1,2,2,3,3,3,3,4,4,4,4,4,4,4,4,5,5,5,5,5,5,5,5,5,5,5,5,5,5,5,5,6,6,6,6,6,6,6,6,6,6,6,6,6,6,6,6,6,6,6,6,6,6,6,6,6,6,6,6,6,6,6,6,7,7,7,7,7,7,7,7,7,7,7,7,7,7,7,7,7,7,7,7,7,7,7,7,7,7,7,7,7,7,7,7,7,7,7,7,7,7,7,7,7,7,7,7,7,7,7,7,7,7,7,7,7,7,7,7,7,7,7,7,7,7,7,7,8,8,8,8,8,8,8,8,8,8,8,8,8,8,8,8,8,8,8,8,8,8,8,8,8,8,8,8,8,8,8,8,8,8,8,8,8,8,8,8,8,8,8,8,8,8,8,8,8,8,8,8,8,8,8,8,8,8,8,8,8,8,8,8,8,8,8,8,8,8,8,8,8,8,8,8,8,8,8,8,8,8,8,8,8,8,8,8,8,8,8,8,8,8,8,8,8,8,8,8,8,8,8,8,8,8,8,8,8,8,8,8,8,8,8,8,8,8,8,8,8,8,8,8,8,8,8,8]⟩:ByteArray).data.toList.getD k 0).toNat=T8.getD k 0:=by decide +kernel
theorem xw {x d:Int} {n t:Nat} (hd:d=2 ^ n) (h1:(2:Int) ^ (t - 1)≤x / d) (h2:x / d < 2 ^ t) (ht:1≤t) (ht8:t≤8) (hn:n≤56) {r:Int} (hr:r=(n+t:Nat)):1≤r∧r≤64∧2 ^ (r.toNat - 1)≤x∧x < 2 ^ r.toNat:=by
 subst hr
 have:=aeW hd h1 h2 ht
 rw [Int.toNat_natCast]
 exact ⟨by omega,by omega,this.1,this.2⟩
def lR (x_:Int):Sk (Int) :=
 .bind false (fun b1=>(0 < x_→0 < b1.1)∧0≤b1.1∧b1.1 < 4294967296∧((b1.2=0∧b1.1=x_)∨(b1.2=32∧b1.1=x_ / 4294967296)))
 (.br (decide (x_≥4294967296))
 (.r 2 (.p (0≤(32:Int))) fun _ =>
 .fin (.inr (dW .u64 x_ 32,32)))
 (.fin (.inr (x_,0))))
 (fun (b1:Int × Int)=>⟨[(0,.d (.v (.int .u64 b1.1))),(2,iv b1.2)],[]⟩) fun b1 =>
 .bind false (fun b2=>(0 < x_→0 < b2.1)∧0≤b2.1∧b2.1 < 65536∧((b2.2=0∧b2.1=x_)∨(b2.2=16∧b2.1=x_ / 65536)∨(b2.2=32∧b2.1=x_ / 4294967296)∨(b2.2=48∧b2.1=x_ / 281474976710656)))
 (.br (decide (b1.1≥65536))
 (.r 5 (.p (0≤(16:Int))) fun _ =>
 .fin (.inr (dW .u64 b1.1 16,aK (b1.2+16))))
 (.fin (.inr (b1.1,b1.2))))
 (fun (b2:Int × Int)=>⟨[(0,.d (.v (.int .u64 b2.1))),(2,iv b2.2)],[]⟩) fun b2=>let az:=(IntKind.u8.wrap (b2.1));
 .br (decide (b2.1≥256))
 (.r 8 (.p (0≤(8:Int))) fun _ =>
 .r 10 (.p (0≤(IntKind.u8.wrap (dW .u64 b2.1 8))∧(IntKind.u8.wrap (dW .u64 b2.1 8)) < (((⟨#[0,1,2,2,3,3,3,3,4,4,4,4,4,4,4,4,5,5,5,5,5,5,5,5,5,5,5,5,5,5,5,5,6,6,6,6,6,6,6,6,6,6,6,6,6,6,6,6,6,6,6,6,6,6,6,6,6,6,6,6,6,6,6,6,7,7,7,7,7,7,7,7,7,7,7,7,7,7,7,7,7,7,7,7,7,7,7,7,7,7,7,7,7,7,7,7,7,7,7,7,7,7,7,7,7,7,7,7,7,7,7,7,7,7,7,7,7,7,7,7,7,7,7,7,7,7,7,7,8,8,8,8,8,8,8,8,8,8,8,8,8,8,8,8,8,8,8,8,8,8,8,8,8,8,8,8,8,8,8,8,8,8,8,8,8,8,8,8,8,8,8,8,8,8,8,8,8,8,8,8,8,8,8,8,8,8,8,8,8,8,8,8,8,8,8,8,8,8,8,8,8,8,8,8,8,8,8,8,8,8,8,8,8,8,8,8,8,8,8,8,8,8,8,8,8,8,8,8,8,8,8,8,8,8,8,8,8,8,8,8,8,8,8,8,8,8,8,8,8,8,8,8,8,8,8,8]⟩:ByteArray).size:Nat):Int))) fun _ =>
 .fin (aK ((aK (b2.2+8))+(aK ((((⟨#[0,1,2,2,3,3,3,3,4,4,4,4,4,4,4,4,5,5,5,5,5,5,5,5,5,5,5,5,5,5,5,5,6,6,6,6,6,6,6,6,6,6,6,6,6,6,6,6,6,6,6,6,6,6,6,6,6,6,6,6,6,6,6,6,7,7,7,7,7,7,7,7,7,7,7,7,7,7,7,7,7,7,7,7,7,7,7,7,7,7,7,7,7,7,7,7,7,7,7,7,7,7,7,7,7,7,7,7,7,7,7,7,7,7,7,7,7,7,7,7,7,7,7,7,7,7,7,7,8,8,8,8,8,8,8,8,8,8,8,8,8,8,8,8,8,8,8,8,8,8,8,8,8,8,8,8,8,8,8,8,8,8,8,8,8,8,8,8,8,8,8,8,8,8,8,8,8,8,8,8,8,8,8,8,8,8,8,8,8,8,8,8,8,8,8,8,8,8,8,8,8,8,8,8,8,8,8,8,8,8,8,8,8,8,8,8,8,8,8,8,8,8,8,8,8,8,8,8,8,8,8,8,8,8,8,8,8,8,8,8,8,8,8,8,8,8,8,8,8,8,8,8,8,8,8,8]⟩:ByteArray).data.toList.getD ((IntKind.u8.wrap (dW .u64 b2.1 8)).toNat) 0).toNat:Int))))))
 (.r 10 (.p (0≤az∧az < (((⟨#[0,1,2,2,3,3,3,3,4,4,4,4,4,4,4,4,5,5,5,5,5,5,5,5,5,5,5,5,5,5,5,5,6,6,6,6,6,6,6,6,6,6,6,6,6,6,6,6,6,6,6,6,6,6,6,6,6,6,6,6,6,6,6,6,7,7,7,7,7,7,7,7,7,7,7,7,7,7,7,7,7,7,7,7,7,7,7,7,7,7,7,7,7,7,7,7,7,7,7,7,7,7,7,7,7,7,7,7,7,7,7,7,7,7,7,7,7,7,7,7,7,7,7,7,7,7,7,7,8,8,8,8,8,8,8,8,8,8,8,8,8,8,8,8,8,8,8,8,8,8,8,8,8,8,8,8,8,8,8,8,8,8,8,8,8,8,8,8,8,8,8,8,8,8,8,8,8,8,8,8,8,8,8,8,8,8,8,8,8,8,8,8,8,8,8,8,8,8,8,8,8,8,8,8,8,8,8,8,8,8,8,8,8,8,8,8,8,8,8,8,8,8,8,8,8,8,8,8,8,8,8,8,8,8,8,8,8,8,8,8,8,8,8,8,8,8,8,8,8,8,8,8,8,8,8,8]⟩:ByteArray).size:Nat):Int))) fun _ =>
 .fin (aK (b2.2+(aK ((((⟨#[0,1,2,2,3,3,3,3,4,4,4,4,4,4,4,4,5,5,5,5,5,5,5,5,5,5,5,5,5,5,5,5,6,6,6,6,6,6,6,6,6,6,6,6,6,6,6,6,6,6,6,6,6,6,6,6,6,6,6,6,6,6,6,6,7,7,7,7,7,7,7,7,7,7,7,7,7,7,7,7,7,7,7,7,7,7,7,7,7,7,7,7,7,7,7,7,7,7,7,7,7,7,7,7,7,7,7,7,7,7,7,7,7,7,7,7,7,7,7,7,7,7,7,7,7,7,7,7,8,8,8,8,8,8,8,8,8,8,8,8,8,8,8,8,8,8,8,8,8,8,8,8,8,8,8,8,8,8,8,8,8,8,8,8,8,8,8,8,8,8,8,8,8,8,8,8,8,8,8,8,8,8,8,8,8,8,8,8,8,8,8,8,8,8,8,8,8,8,8,8,8,8,8,8,8,8,8,8,8,8,8,8,8,8,8,8,8,8,8,8,8,8,8,8,8,8,8,8,8,8,8,8,8,8,8,8,8,8,8,8,8,8,8,8,8,8,8,8,8,8,8,8,8,8,8,8]⟩:ByteArray).data.toList.getD (az.toNat) 0).toNat:Int))))))
def bits_Len64 x_:=(lR x_).val
theorem Mi (x_:Int) (hP:0 < x_∧x_ < 18446744073709551616):(lR x_).dq (fun (x:Int)=>1≤x∧x≤64∧2 ^ (x.toNat - 1)≤x_∧x_ < 2 ^ x.toNat):=by
 refine Sk.bh _ ?_
 unfold lR
 simp only [Sk.cK,Sk.aD,reduceCtorEq,ON,kk,kp,maxLen]
 simp only [YE,adU,agL,aq (n:=(32:Int)) (by decide) (by decide)] at *
 refine ⟨⟨fun hc _=>?_,fun hc=>?_⟩,fun b _ hb=>⟨⟨fun hc _=>?_,fun hc=>?_⟩,fun d _ hd=>⟨fun hc _ _=>?_,fun hc _=>?_⟩⟩⟩
 all_goals simp only [LN] at hc
 ·(try simp only [true_or,or_true,and_true,true_and]); omega
 ·(try simp only [true_or,or_true,and_true,true_and]); omega
 ·have e:aK (b.2+16)=b.2+16:=aq (by omega) (by omega)
  rw [e]
  omega
 ·omega
 ·rw [PR,Int.emod_eq_of_lt (by omega) (by omega),abE _ (by omega)]
  have ht:=abD (x:=d.1 / 256) (by omega) (by omega)
  rw [aq (n:=d.2+8) (by omega) (by omega),aq (n:=((T8.getD (d.1 / 256).toNat 0:Nat):Int)) (by omega) (by omega),aq (by omega) (by omega)]
  rcases hd.2.2.2 with ⟨h1,h2⟩ | ⟨h1,h2⟩ | ⟨h1,h2⟩ | ⟨h1,h2⟩
  ·exact xw (n:=8) (d:=256) (t:=T8.getD (d.1 / 256).toNat 0) (by decide) (by rw [← h2]; exact ht.2.2.1) (by rw [← h2]; exact ht.2.2.2) ht.1 ht.2.1 (by omega) (by omega)
  ·exact xw (n:=24) (d:=16777216) (t:=T8.getD (d.1 / 256).toNat 0) (by decide) (by rw [show x_ / 16777216=d.1 / 256 by omega]; exact ht.2.2.1) (by rw [show x_ / 16777216=d.1 / 256 by omega]; exact ht.2.2.2) ht.1 ht.2.1 (by omega) (by omega)
  ·exact xw (n:=40) (d:=1099511627776) (t:=T8.getD (d.1 / 256).toNat 0) (by decide) (by rw [show x_ / 1099511627776=d.1 / 256 by omega]; exact ht.2.2.1) (by rw [show x_ / 1099511627776=d.1 / 256 by omega]; exact ht.2.2.2) ht.1 ht.2.1 (by omega) (by omega)
  ·exact xw (n:=56) (d:=72057594037927936) (t:=T8.getD (d.1 / 256).toNat 0) (by decide) (by rw [show x_ / 72057594037927936=d.1 / 256 by omega]; exact ht.2.2.1) (by rw [show x_ / 72057594037927936=d.1 / 256 by omega]; exact ht.2.2.2) ht.1 ht.2.1 (by omega) (by omega)
 ·rw [PR,Int.emod_eq_of_lt (by omega) (by omega),abE _ (by omega)]
  have ht:=abD (x:=d.1) (by omega) (by omega)
  rw [aq (n:=((T8.getD d.1.toNat 0:Nat):Int)) (by omega) (by omega),aq (by omega) (by omega)]
  rcases hd.2.2.2 with ⟨h1,h2⟩ | ⟨h1,h2⟩ | ⟨h1,h2⟩ | ⟨h1,h2⟩
  ·exact xw (n:=0) (d:=1) (t:=T8.getD d.1.toNat 0) (by decide) (by rw [show x_ / 1=d.1 by omega]; exact ht.2.2.1) (by rw [show x_ / 1=d.1 by omega]; exact ht.2.2.2) ht.1 ht.2.1 (by omega) (by omega)
  ·exact xw (n:=16) (d:=65536) (t:=T8.getD d.1.toNat 0) (by decide) (by rw [← h2]; exact ht.2.2.1) (by rw [← h2]; exact ht.2.2.2) ht.1 ht.2.1 (by omega) (by omega)
  ·exact xw (n:=32) (d:=4294967296) (t:=T8.getD d.1.toNat 0) (by decide) (by rw [← h2]; exact ht.2.2.1) (by rw [← h2]; exact ht.2.2.2) ht.1 ht.2.1 (by omega) (by omega)
  ·exact xw (n:=48) (d:=281474976710656) (t:=T8.getD d.1.toNat 0) (by decide) (by rw [← h2]; exact ht.2.2.1) (by rw [← h2]; exact ht.2.2.2) ht.1 ht.2.1 (by omega) (by omega)
theorem J2 (x_:Int):(fun (x:Int)=>(0 < x_∧x_ < 18446744073709551616)→(1≤x∧x≤64∧2 ^ (x.toNat - 1)≤x_∧x_ < 2 ^ x.toNat)) (bits_Len64 x_):=fun hP=>have h:=Sk.dc _ (Mi x_ hP); h
theorem N2 (x_:Int) (hx:0≤x_∧x_ < 18446744073709551616):(lR x_).bq (fun _=>True):=by
 refine Sk.aO _ ?_
 unfold lR
 simp only [Sk.gx,Sk.aD,reduceCtorEq,ON,kk,kp,maxLen]
 simp only [YE,adU,agL,aq (n:=(32:Int)) (by decide) (by decide)] at *
 refine ⟨⟨fun hc=>⟨by decide,fun _=>?_⟩,fun hc=>?_⟩,fun b _ hb=>⟨⟨fun hc=>⟨by decide,fun _=>?_⟩,fun hc=>?_⟩,fun d _ hd=>⟨fun hc=>⟨by decide,fun _=>⟨?_,?_⟩⟩,fun hc=>⟨?_,?_⟩⟩⟩⟩
 all_goals simp only [LN] at hc
 ·(try simp only [true_or,or_true,and_true,true_and]); omega
 ·(try simp only [true_or,or_true,and_true,true_and]); omega
 ·have e:aK (b.2+16)=b.2+16:=aq (by omega) (by omega)
  rw [e]
  omega
 ·omega
 ·rw [PR]; omega
 ·rw [PR,Int.emod_eq_of_lt (by omega) (by omega)]; exact (show _ < ((256:Nat):Int) by omega)
 ·rw [PR]; omega
 ·rw [PR,Int.emod_eq_of_lt (by omega) (by omega)]; exact (show _ < ((256:Nat):Int) by omega)
def Aw x_:=kk tok mixed Tryz.func187 [.d (.v (.int .u64 x_))] (fun x=>iv x) true (lR x_) (bits_Len64 x_) (N2 x_) (fun (x:Int)=>(0 < x_∧x_ < 18446744073709551616)→(1≤x∧x≤64∧2 ^ (x.toNat - 1)≤x_∧x_ < 2 ^ x.toNat)) (J2 x_)
def eu (x_:Int):Sk (Int) :=
 .r 1 ((Aw x_).c) fun x1 =>
 .fin (aK ((64:Int) - x1))
def uB x_:=(eu x_).val
theorem zt (x_:Int) (hP:0 < x_∧x_ < 18446744073709551616):(eu x_).dq (fun (x:Int)=>0≤x∧x≤63∧9223372036854775808≤x_ * 2 ^ x.toNat∧x_ * 2 ^ x.toNat < 18446744073709551616):=by
 refine Sk.bh _ ?_
 unfold eu
 simp only [Sk.cK,Sk.aD,reduceCtorEq,ON,kk,kp,Aw,maxLen]
 intro x _ h
 obtain ⟨h1,h2,h3,h4⟩:=h hP
 rw [aq (by omega) (by omega)]
 have e1:x.toNat - 1+(64 - x).toNat=63:=by omega
 have e2:x.toNat+(64 - x).toNat=64:=by omega
 have p:(0:Int) < 2 ^ (64 - x).toNat:=Int.pow_pos (by omega)
 have q1:=Int.mul_le_mul_of_nonneg_right h3 (Int.le_of_lt p)
 have q2:=Int.mul_lt_mul_of_pos_right h4 p
 rw [← Int.pow_add,e1] at q1
 rw [← Int.pow_add,e2] at q2
 refine ⟨by omega,by omega,?_,?_⟩
 ·exact q1
 ·exact q2
theorem yt (x_:Int):(fun (x:Int)=>(0 < x_∧x_ < 18446744073709551616)→(0≤x∧x≤63∧9223372036854775808≤x_ * 2 ^ x.toNat∧x_ * 2 ^ x.toNat < 18446744073709551616)) (uB x_):=fun hP=>have h:=Sk.dc _ (zt x_ hP); h
theorem Ax (x_:Int) (hx:0≤x_∧x_ < 18446744073709551616):(eu x_).bq (fun _=>True):=by
 unfold eu
 try simp only [Aw]
 exact mH
def l9 x_:=kk tok mixed Tryz.func228 [.d (.v (.int .u64 x_))] (fun x=>iv x) true (eu x_) (uB x_) (Ax x_) (fun (x:Int)=>(0 < x_∧x_ < 18446744073709551616)→(0≤x∧x≤63∧9223372036854775808≤x_ * 2 ^ x.toNat∧x_ * 2 ^ x.toNat < 18446744073709551616)) (yt x_)
end
end Go.Proofs.YtaeekeogpbbkcaaGreatDoor
