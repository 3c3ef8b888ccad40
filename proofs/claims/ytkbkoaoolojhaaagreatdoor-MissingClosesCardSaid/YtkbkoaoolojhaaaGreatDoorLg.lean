/- A function by hand. -/
import Derived.Test.YtkbkoaoolojhaaaGreatDoorLf
import Derived.Test.YtkbkoaoolojhaaaGreatDoorLd
set_option linter.unusedSimpArgs false
set_option linter.unusedVariables false
set_option maxHeartbeats 1000000
set_option maxRecDepth 100000
namespace Go.Proofs.YtkbkoaoolojhaaaGreatDoor
noncomputable section
open Go Go.Av
def Fq (f:ai) (day part:Int) (i:Nat):Bool :=
 ((((f.ae.getD i default).kind == 2)&&((f.ae.getD i default).part == part))&&decide ((f.ae.getD i default).day≤day))&&!(EO (eO f day) ((i:Nat):Int) false)
def bh (f:ai) (day part:Int):List (Int × Sign):=((List.range f.ae.length).filter (Fq f day part)).map fun i=>(((i:Nat):Int),f.ae.getD i default)
def Ns (y:Int × Sign):List AV:=[iv y.1,av y.2.cells]
def aii:Code:=Tryz.f189.body.getD .skip
def WZ:Code:=cA (cA (cB (cB aii)))
def US:Code:=cA (cB (cB WZ))
def W6:Array Oper:=opsOf (cA (cB (cA US)))
def abr (f:ai) (day part:Int) (m:List (Int × Bool)) (i:Nat):List (Nat × AV):=[(2,.ref [dI day]),(3,.ref [dI part]),(5,pmM dB m),(12,lv Sign.cells f.ae),(13,iv ((f.ae.length:Nat):Int)),(14,iv ((i:Nat):Int))]
def uJ (f:ai) (day part:Int) (i:Nat):Nat:=((List.range i).filter (Fq f day part)).length
def acX:List Item:=[.code (cB (cB (cA US))),.inBlock 1,.code (cB (cB (cB WZ))),.inLoop WZ,.inBlock 0]
theorem W7 (f:ai) (day part:Int) {i:Nat} (hi:i < f.ae.length) (h:Fq f day part i=true):((bh f day part).map Ns)[uJ f day part i]? = some (Ns (((i:Nat):Int),f.ae.getD i default)):=by
 have e:List.range f.ae.length=List.range i++i :: (List.range' (i+1) (f.ae.length - i - 1)):=by
  rw [List.range_eq_range',List.range_eq_range']
  have h1:=List.range'_append (s:=0) (m:=i) (n:=f.ae.length - i) (step:=1)
  have h2:f.ae.length - i=(f.ae.length - i - 1)+1:=by omega
  rw [show f.ae.length=i+(f.ae.length - i) by omega,← h1,h2,List.range'_succ]
  simp
 unfold bh uJ
 rw [e,List.filter_append,List.filter_cons_of_pos h]
 simp
theorem UT (f:ai) (day part:Int) (i:Nat):uJ f day part (i+1)=bif Fq f day part i then uJ f day part i+1 else uJ f day part i:=by
 unfold uJ
 rw [List.range_succ,List.filter_append]
 cases h:Fq f day part i <;> simp [h]
def Fs (q:Nat):Oper:=W6.getD q default
def W8 (f:ai) (day part:Int) (i:Nat) (sl:List (Nat × AV)):St:=⟨sl++[(6,iv ((i:Nat):Int)),(7,.ptr 7 0)]++abr f day part (eO f day) i,[(7,.box ((f.ae.getD i default).cells.map .d))]⟩
def Ji (f:ai) (i:Nat):Sk Bool :=
 .Eo 12 0 f.ae.length <| .br (decide (((i:Nat):Int) < ((f.ae.length:Nat):Int))) (.r 3 (.p (bN ((i:Nat):Int) f.ae.length)) fun _=>.fin true) (.fin false)
def adJ (f:ai) (i:Nat):Sk Unit :=
 .Eo 12 0 f.ae.length <| .JH <| .r 5 .z fun _=>.wi 14 (au (((i:Nat):Int)+1)) ((i+1:Nat):Int) <| .fin ()
def abt (f:ai) (day part:Int) (i:Nat):bn Unit :=
 .wh ((((f.ae.getD i default).kind == 2)&&((f.ae.getD i default).part == part))&&decide ((f.ae.getD i default).day≤day)) true (.al (.t (I7 dB (eO f day))) (.o [.cast 37 (getM dB (eO f day) ((i:Nat):Int) false)]))
theorem vl (f:ai) (day part:Int):Zf Tryz.prog 189 [.ref f.cells,.ref [dI day],.ref [dI part]] ((bh f day part).map Ns):=by
 refine Zf.intro (T:=TT) Tryz.func189 rfl (by kernel_rfl) (Nat.le_of_ble_eq_true (by kernel_rfl)) (fun X=>?_)
 have hr4:cA (cB (cA US))=.region 4 W6 false:=by kernel_rfl
 have hrg:List.range' 22 (W6.size - 22)=[22,23,24,25,26,27]:=by kernel_rfl
 have key:∀ d i,i+d=f.ae.length→G (X.g TT Tryz.f189 (X.H (uJ f day part i))) [.code WZ,.inLoop WZ,.inBlock 0] ⟨abr f day part (eO f day) i,[]⟩:=by
  intro d
  induction d with
  | zero =>
   intro i hi
   refine tf.sk tok mixed Tryz.func189 _ (Ji f i) (fun b=>bif b then .go (.code (cA (cB (cA US))) :: acX) (W8 f day part i []) else .go [] ⟨[],[]⟩) 100 (by kernel_rfl) ?_ ?_
   ·refine Sk.aG _ ?_
    simp only [Ji,Sk.gL,bn.p,bN,implies_true,and_true]
    intro h hd
    simp at hd
    omega
   ·intro a ha
    have:(Ji f i).val=false:=by simp only [Ji,Sk.val]; simp; omega
    rw [this] at ha
    subst ha
    refine (tf.ret Tryz.func189 (by kernel_rfl) (fun C h=>.inl ?_)).1
    have e:uJ f day part i=((bh f day part).map Ns).length:=by
     have:i=f.ae.length:=by omega
     subst this
     simp [uJ,bh]
    rw [← e]
    exact h
  | succ d ih =>
   intro i hi
   have dK:i < f.ae.length:=by omega
   refine tf.sk tok mixed Tryz.func189 _ (Ji f i) (fun b=>bif b then .go (.code (cA (cB (cA US))) :: acX) (W8 f day part i []) else .go [] ⟨[],[]⟩) 100 (by kernel_rfl) ?_ ?_
   ·refine Sk.aG _ ?_
    simp only [Ji,Sk.gL,bn.p,bN,implies_true,and_true]
    intro _ _
    omega
   ·intro a ha
    have:(Ji f i).val=true:=by simp only [Ji,Sk.val]; simp; omega
    rw [this] at ha
    subst ha
    show G _ _ _
    rw [hr4]
    -- behind Jw yield
    have next:∀ st,OX st ⟨(46,bv false) :: abr f day part (eO f day) i,[]⟩→G (X.g TT Tryz.f189 (X.H (uJ f day part (i+1)))) acX st:=by
     intro st jK
     refine .le jK ?_
     refine tf.sk tok mixed Tryz.func189 _ (adJ f i) (fun _=>.go [.inLoop WZ,.inBlock 0] ⟨abr f day part (eO f day) (i+1),[]⟩) 100 (by kernel_rfl) ?_ (fun _ _=>.inLoop (ih (i+1) (by omega)))
     refine Sk.aG _ ?_
     simp only [adJ,Sk.gL,bn.z,maxLen,implies_true,and_true]
     intro h
     refine ⟨trivial,fun _ _ _=>?_⟩
     refine (ar ?_ ?_).trans ?_ <;> omega
    refine G.yr ?_
    refine YW.aia tok mixed (abt f day part i) 22 (fun _=>W8 f day part i [(40,bv (Fq f day part i))]) (by kernel_rfl) (Nat.le_of_ble_eq_true (by kernel_rfl)) (fun _=>by kernel_rfl) ?_ ?_
    ·simp [abt,bn.wh,bn.al,bn.t,bn.o]
    rw [hrg]
    refine YW.aib (s:=40) (b:=Fq f day part i) rfl (Nat.le_of_ble_eq_true (by kernel_rfl)) ?_
    have we:=UT f day part i
    cases he:Fq f day part i with
    | true =>
     rw [he,cond_true] at we
     refine YW.mvC (o:=Fs 22) (d:=41) (u:=0) (by kernel_rfl) (by kernel_rfl) (by kernel_rfl) (by simp) (by kernel_rfl) ?_
     refine YW.opC tok mixed (o:=Fs 23) (W8 f day part i [(42,iv ((i:Nat):Int))]) (by kernel_rfl) (by kernel_rfl) (by kernel_rfl) ?_
     refine YW.opC tok mixed (o:=Fs 24) (W8 f day part i [(43,av (f.ae.getD i default).cells),(42,iv ((i:Nat):Int))]) (by kernel_rfl) (by kernel_rfl) (by kernel_rfl) ?_
     refine YW.ylC (o:=Fs 25) (d:=44) (u:=41) (n:=uJ f day part i) (ts:=[42,43]) (c:={ callee:=.value (.tmp 41),args:=#[.tmp 42,.tmp 43],argTypes:=#[3,74] }) (by kernel_rfl) (by kernel_rfl) (by kernel_rfl) rfl (by simp) (by kernel_rfl) (W7 f day part dK he) rfl (by kernel_rfl) (by kernel_rfl) ?_ ?_
     ·refine YW.opC tok mixed (o:=Fs 26) (W8 f day part i [(45,bv false)]) (by kernel_rfl) (by kernel_rfl) (by kernel_rfl) ?_
      refine YW.aa5 (o:=Fs 27) (d:=46) (x:=.tmp 45) (y:=.const (.bool false)) false (by kernel_rfl) (by kernel_rfl) (by kernel_rfl) (by kernel_rfl) (by kernel_rfl) ?_
      refine YW.nil (T:=TT) (fn:=Tryz.f189) (by simp) ?_
      rw [← we]
      exact next _ (Yb (by kernel_rfl))
     ·refine YW.opC tok mixed (o:=Fs 26) (W8 f day part i [(45,bv true)]) (by kernel_rfl) (by kernel_rfl) (by kernel_rfl) ?_
      refine YW.aa5 (o:=Fs 27) (d:=46) (x:=.tmp 45) (y:=.const (.bool false)) true (by kernel_rfl) (by kernel_rfl) (by kernel_rfl) (by kernel_rfl) (by kernel_rfl) ?_
      refine YW.nil (T:=TT) (fn:=Tryz.f189) (by simp) ?_
      refine tf.sk tok mixed Tryz.func189 _ (.JG (.fin ()):Sk Unit) (fun _=>.go (.code .ret :: acX.tail) ⟨[],[]⟩) 100 (by kernel_rfl) trivial (fun _ _=>(tf.ret Tryz.func189 (by kernel_rfl) (fun C h=>.inr h)).2 _)
    | false =>
     rw [he,cond_false] at we
     refine YW.Uu (o:=Fs 22) (d:=41) (by kernel_rfl) (by kernel_rfl) (by kernel_rfl) ?_
     refine YW.Uu (o:=Fs 23) (d:=42) (by kernel_rfl) (by kernel_rfl) (by kernel_rfl) ?_
     refine YW.Uu (o:=Fs 24) (d:=43) (by kernel_rfl) (by kernel_rfl) (by kernel_rfl) ?_
     refine YW.Uu (o:=Fs 25) (d:=44) (by kernel_rfl) (by kernel_rfl) (by kernel_rfl) ?_
     refine YW.Uu (o:=Fs 26) (d:=45) (by kernel_rfl) (by kernel_rfl) (by kernel_rfl) ?_
     refine YW.aa5 (o:=Fs 27) (d:=46) (x:=.tmp 45) (y:=.const (.bool false)) false (by kernel_rfl) (by kernel_rfl) (by kernel_rfl) (by kernel_rfl) (by kernel_rfl) ?_
     refine YW.nil (T:=TT) (fn:=Tryz.f189) (by simp) ?_
     rw [← we]
     exact next _ (Yb (by kernel_rfl))
 refine tf.sk tok mixed Tryz.func189 _ (.r 0 ((qc f day).c) fun m=>.r 1 .z fun _=>.fin m:Sk (List (Int × Bool))) (fun m=>.go [.code (.loop WZ),.inBlock 0] ⟨abr f day part m 0,[]⟩) 100 (by kernel_rfl) ?_ (fun m hm=>?_)
 ·refine Sk.aG _ ?_
  simp [Sk.gL,bn.z,iI.c,kk,kp,qc]
 ·have hm:m=eO f day:=hm
  subst hm
  exact .aa6 (key f.ae.length 0 (by omega))
def fV (f:ai) (day part:Int):ItC (Int × Sign):=⟨Tryz.prog,189,[.ref f.cells,.ref [dI day],.ref [dI part]],bh f day part,Ns,True,fun _=>vl f day part⟩
def qe (before:Int) (flags:Int):Sk (Int) :=
 .br (((aD .i64 flags 2) != 0)||(before != 0))
 (.fin 1)
 (.br ((aD .i64 flags 4) != 0)
 (.fin 2)
 (.fin 0))
def AQ before flags:=(qe before flags).val
theorem Nt (before:Int) (flags:Int):(qe before flags).a6 (fun _=>True):=by
  unfold qe
  exact od

def rE before flags:=kk tok mixed Tryz.func160 [iv before,iv flags] (fun x=>iv x) true (qe before flags) (AQ before flags) (u0 (Nt before flags))
theorem UU (f:ai) (day part:Int):(bh f day part).length≤f.ae.length:=by
  unfold bh
  rw [List.length_map]
  exact Nat.le_trans (List.length_filter_le _ _) (by simp)
theorem Nu {f:ai} {day part:Int} {i:Nat} {y:Int × Sign} (h:(bh f day part)[i]? = some y):i < f.ae.length∧0≤y.1∧y.1 < f.ae.length∧y.2=f.ae.getD y.1.toNat default∧y.2.kind=2∧y.2.part=part∧y.2.day≤day∧EO (eO f day) y.1 false=false:=by
  have h1:=(List.getElem?_eq_some_iff.1 h).1
  have h2:=List.mem_of_getElem? h
  have h3:=UU f day part
  unfold bh at h2
  obtain ⟨q,hq,rfl⟩:=List.mem_map.1 h2
  rw [List.mem_filter,List.mem_range] at hq
  obtain ⟨hq1,hq2⟩:=hq
  unfold Fq at hq2
  simp only [Bool.and_eq_true,beq_iff_eq,decide_eq_true_eq,Bool.not_eq_true'] at hq2
  exact ⟨by omega,by omega,by omega,rfl,hq2.1.1.1,hq2.1.1.2,hq2.1.2,hq2.2⟩
def kg (f:ai) (part:Int) (day:Int):Sk (QR) :=
 .r 2 ((jQ f day).c) fun x1 =>
 .r 3 ((ju f part day).c) fun _ =>
 .rf (fV f day part) (fun ki3 i3=>i3.1.length≤ki3∧i3.2.2.2.2.length≤ki3∧∀ y,y∈i3.1→0≤y∧y < (f.ae.length:Int)∧(f.ae.getD y.toNat default).day≤day) (fun e5=>e5.1.length≤f.ae.length∧∀ y,y∈e5.1→0≤y∧y < (f.ae.length:Int)∧(f.ae.getD y.toNat default).day≤day) 0 (([],f.aX.eH,f.aX.eH == (-1),0,[]):(List Int) × Int × Bool × Int × (List Int))
 (fun (i3:(List Int) × Int × Bool × Int × (List Int))=>[(100000,aU 3 1 bS i3.1),(100001,aU 3 1 bS i3.2.2.2.2),(7,.box ([ow 100000 i3.1]++[iv i3.2.1,iv (-1),bv i3.2.2.1,iv i3.2.2.2.1,ow 100001 i3.2.2.2.2]))]) (fun (e5:(List Int) × Int × Int × Bool × Int × (List Int))=>[(100002,aU 3 1 bS e5.1),(100003,aU 3 1 bS e5.2.2.2.2.2),(7,.box ([ow 100002 e5.1]++[iv e5.2.1,iv e5.2.2.1,bv e5.2.2.2.1,iv e5.2.2.2.2.1,ow 100003 e5.2.2.2.2.2]))])
 (fun i3 y4 =>
 .br ((!i3.2.2.1)&&(y4.2.dS != i3.2.1))
 (.fin (.inl (i3.1,i3.2.1,y4.1,i3.2.2.1,i3.2.2.2.1,i3.2.2.2.2)))
 (.r 8 (.al (.o [.dn (dH dV [y4.1])]) (.al (.o [.dn (kE dV i3.1 [y4.1])]) (.al (.t (dV.mT [y4.1])) (.p (vE i3.1.length [y4.1].length 8))))) fun _ =>
 .r 9 ((rE i3.2.2.2.1 y4.2.flags).c) fun x6 =>
 .br (x1.2&&(decide (y4.2.day > x1.1)))
 (.r 11 (.al (.o [.dn (dH dV [y4.1])]) (.al (.o [.dn (kE dV i3.2.2.2.2 [y4.1])]) (.al (.t (dV.mT [y4.1])) (.p (vE i3.2.2.2.2.length [y4.1].length 8))))) fun _ =>
 .fin (.inr (i3.1++[y4.1],y4.2.cw,y4.2.cw == (-1),x6,i3.2.2.2.2++[y4.1])))
 (.fin (.inr (i3.1++[y4.1],y4.2.cw,y4.2.cw == (-1),x6,i3.2.2.2.2))))) fun r=>match r with
 | .inl e5=>(.fin ({ ae:=e5.1,iP:=e5.2.1,broken:=e5.2.2.1,WY:=e5.2.2.2.1,abq:=e5.2.2.2.2.1,late:=e5.2.2.2.2.2 }:QR))
 | .inr j7=>(.fin ({ ae:=j7.1,iP:=j7.2.1,broken:=(-1),WY:=j7.2.2.1,abq:=j7.2.2.2.1,late:=j7.2.2.2.2 }:QR))
def sf f part day:=(kg f part day).val
theorem Kk (f:ai) (part:Int) (day:Int):(kg f part day).cC (fun (x:QR)=>x.ae.length≤f.ae.length∧∀ y,y∈x.ae→0≤y∧y < (f.ae.length:Int)∧(f.ae.getD y.toNat default).day≤day):=by
  refine Sk.aP _ ?_
  unfold kg
  simp only [Sk.ct,Sk.aA,reduceCtorEq,ON,kk,kp,jQ,ju,rE,fV,Sum.forall,qH,forall_eq,maxLen]
  refine fun _=>⟨⟨by simp,by simp,fun y h=>by cases h⟩,fun i s y hs hy=>?_,fun a ha=>ha,fun b hb=>⟨Nat.le_trans hb.1 (UU _ _ _),hb.2.2⟩⟩
  have hm:=Nu hy
  have BU:∀ z,z∈s.1++[y.1]→0≤z∧z < (f.ae.length:Int)∧(f.ae.getD z.toNat default).day≤day:=fun z hz=>by
    rcases List.mem_append.1 hz with h | h
    · exact hs.2.2 z h
    · simp only [List.mem_singleton] at h
      subst h
      exact ⟨hm.2.1,hm.2.2.1,by rw [← hm.2.2.2.1]; exact hm.2.2.2.2.2.2.1⟩
  have hl1:(s.1++[y.1]).length=s.1.length+1:=by simp
  have hl2:(s.2.2.2.2++[y.1]).length=s.2.2.2.2.length+1:=by simp
  have hl3:[y.1].length=1:=rfl
  rw [hl1,hl2]
  exact ⟨fun _=>⟨by omega,hs.2.2⟩,fun _ _=>⟨fun _ _=>⟨by omega,by omega,BU⟩,fun _=>⟨by omega,by omega,BU⟩⟩⟩

theorem Nv (f:ai) (part:Int) (day:Int) (hf:f.Small):(kg f part day).a6 (fun _=>True):=by
  refine Sk.aG _ ?_
  unfold kg
  simp only [Sk.gL,Sk.aA,reduceCtorEq,ON,kk,kp,Sk.ct,jQ,ju,rE,fV,Sum.forall,qH,forall_eq,maxLen]
  refine fun _=>⟨⟨by simp,by simp,fun y h=>by cases h⟩,fun i s y hs hy=>?_⟩
  have hm:=Nu hy
  have BU:∀ z,z∈s.1++[y.1]→0≤z∧z < (f.ae.length:Int)∧(f.ae.getD z.toNat default).day≤day:=fun z hz=>by
    rcases List.mem_append.1 hz with h | h
    · exact hs.2.2 z h
    · simp only [List.mem_singleton] at h
      subst h
      exact ⟨hm.2.1,hm.2.2.1,by rw [← hm.2.2.2.1]; exact hm.2.2.2.2.2.2.1⟩
  have hl1:(s.1++[y.1]).length=s.1.length+1:=by simp
  have hl2:(s.2.2.2.2++[y.1]).length=s.2.2.2.2.length+1:=by simp
  have hl3:[y.1].length=1:=rfl
  rw [hl1,hl2,hl3]
  have hf1:=hf.1
  exact ⟨⟨fun _=>⟨by omega,hs.2.2⟩,fun _ _=>⟨fun _ _=>⟨by omega,by omega,BU⟩,fun _=>⟨by omega,by omega,BU⟩⟩⟩,fun _=>⟨by omega,hs.2.2⟩,fun _=>⟨⟨by omega,by omega⟩,fun _=>⟨fun _=>⟨⟨by omega,by omega⟩,fun _=>⟨by omega,by omega,BU⟩⟩,fun _=>⟨by omega,by omega,BU⟩⟩⟩⟩

def wF f part day:=kp tok mixed Tryz.func122 [av f.cells,iv part,iv day] (fun x=>av x.cells) false (sf f part day) (Nv f part day) (Kk f part day)
def jv (v:View) (part:Int):Sk ((List Int)) :=
 .r 1 ((wF v.all part v.day).c) fun x1 =>
 .fin x1.ae
def aq v part:=(jv v part).val
theorem uK (v:View) (part:Int):(jv v part).cC (fun (x:(List Int))=>x.length≤v.all.ae.length∧∀ y,y∈x→0≤y∧y < (v.all.ae.length:Int)∧(v.all.ae.getD y.toNat default).day≤v.day):=by
  unfold jv
  try simp only [wF]
  exact ET

theorem nC (v:View) (part:Int):(fun (x:(List Int))=>x.length≤v.all.ae.length∧∀ y,y∈x→0≤y∧y < (v.all.ae.length:Int)∧(v.all.ae.getD y.toNat default).day≤v.day) (aq v part):=have h:=Sk.cI _ (uK v part); h
theorem Ft (v:View) (part:Int) (ab9:v.all.Small):(jv v part).a6 (fun _=>True):=by
  unfold jv
  try simp only [wF]
  exact nF

def ra v part:=kp tok mixed Tryz.func99 [av v.cells,iv part] (fun x=>lv bS x) false (aq v part) (Ft v part) (uK v part)
def jR (c_:fZ) (ak:List Int):Sk (Unit) :=
 .fin ()
def xG c_ ak:=(jR c_ ak).val
theorem Ca (c_:fZ) (ak:List Int):xG c_ ak=():=rfl
theorem Cb (c_:fZ) (ak:List Int):(jR c_ ak).a6 (fun _=>True):=by
  unfold jR
  exact od

def uL c_ ak:=kk tok mixed Tryz.func100 [av c_.cells,lv bS ak] (fun x=>.fn 123 [.ref c_.cells,.ref [mR bS ak]]) false (jR c_ ak) (xG c_ ak) (u0 (Cb c_ ak))
structure nT where
  ke:Int
  sign:Int
  state:Int
  deriving Inhabited
def nT.cells (c:nT):List D:=[dI c.ke,dI c.sign,dI c.state]
def jS (x_:Fact) (v:Int) (v':Int):Sk (Bool) :=
 .fin ((x_.kind == v)&&(x_.at_ == v'))
def fL x_ v v':=(jS x_ v v').val
theorem sY (x_:Fact) (v:Int) (v':Int):fL x_ v v'=((x_.kind == v)&&(x_.at_ == v')):=rfl
theorem Cc (x_:Fact) (v:Int) (v':Int):(jS x_ v v').a6 (fun _=>True):=by
  unfold jS
  exact od

def o8 x_ v v':=kk tok mixed Tryz.func190 [av x_.cells,.ref [dI v],.ref [dI v']] (fun x=>bv x) true (jS x_ v v') (fL x_ v v') (u0 (Cc x_ v v'))
def ef (s:List Fact) (v:Int) (v':Int):Sk (Int) :=
 .bind true (fun b1=>∀ q,q < s.length→fL (s.getD q default) v v'=false)
 (.loop (default:Sum (Int) (Unit)) (fun i2=>∀ q,q < i2→fL (s.getD q default) v v'=false) (fun i2=>s.length - i2) (0:Nat)
 (fun (i2:Nat)=>⟨[(8,iv ((i2:Nat):Int))],[]⟩) fun i2 =>
 .lt 0 0 i2 s.length
 (.r 4 (.al (.p (bN ((i2:Nat):Int) s.length)) ((o8 (s.getD i2 default) v v').c)) fun x3 =>
 .br x3
 (.fin (.inl (.inl ((i2:Nat):Int))))
 (.nx 6 8 i2 (i2+1)))
 (.fin (.inl (.inr ()))))
 (fun (_:Unit)=>⟨[],[]⟩) fun _ =>
 .fin (-1)
def AR s v v':=(ef s v v').val
theorem wG (s:List Fact) (v:Int) (v':Int):(ef s v v').cC (fun (x:Int)=>(x = -1∧∀ q,q < s.length→fL (s.getD q default) v v'=false)∨(0≤x∧x < s.length∧fL (s.getD x.toNat default) v v'=true∧∀ q,(q:Nat) < x.toNat→fL (s.getD q default) v v'=false)):=by
  unfold ef
  try simp only [o8,sY]
  exact X9

theorem xH (s:List Fact) (v:Int) (v':Int):(ef s v v').a6 (fun _=>True):=by
  unfold ef
  try simp only [o8,sY]
  exact GD

def qf s v v':=kp tok mixed Tryz.func38 [lv Fact.cells s,.fn 190 [.ref [dI v],.ref [dI v']]] (fun x=>iv x) true (AR s v v') (u0 (xH s v v')) (wG s v v')
def m9 (v:View) (kind:Int) (sign:Int):Sk (Int) :=
 .r 1 ((qf v.now.facts kind sign).c) fun x1 =>
 .br (decide (x1 < 0))
 (.fin 2)
 (.r 4 (.p (bN x1 v.now.facts.length)) fun _ =>
 .br (((v.now.facts.getD x1.toNat default).n) == 0)
 (.fin 0)
 (.fin 1))
def PH v kind sign:=(m9 v kind sign).val
theorem Hz (v:View) (kind:Int) (sign:Int):(m9 v kind sign).a6 (fun _=>True):=by
  unfold m9
  try simp only [qf]
  exact nF

def sK v kind sign:=kk tok mixed Tryz.func161 [av v.cells,iv kind,iv sign] (fun x=>iv x) true (m9 v kind sign) (PH v kind sign) (u0 (Hz v kind sign))
def vO (a:Int) (b:Int):Sk (Int) :=
 .br ((a == 0)||(b == 0))
 (.fin 0)
 (.br ((a == 2)||(b == 2))
 (.fin 2)
 (.fin 1))
def sh a b:=(vO a b).val
theorem UW (a:Int) (b:Int):(vO a b).a6 (fun _=>True):=by
  unfold vO
  exact od

def rb a b:=kk tok mixed Tryz.func127 [iv a,iv b] (fun x=>iv x) true (vO a b) (sh a b) (u0 (UW a b))
def rF (a:Int) (b:Int):Sk (Int) :=
 .br ((a == 1)||(b == 1))
 (.fin 1)
 (.br ((a == 2)||(b == 2))
 (.fin 2)
 (.fin 0))
def W9 a b:=(rF a b).val
theorem PI (a:Int) (b:Int):(rF a b).a6 (fun _=>True):=by
  unfold rF
  exact od

def Fu a b:=kk tok mixed Tryz.func162 [iv a,iv b] (fun x=>iv x) true (rF a b) (W9 a b) (u0 (PI a b))
def jT (c_:fZ) (link:Int) (last:Int):Sk (Int) :=
 .r 2 (.dep ((sK c_.view 0 link).c) fun x1=>.dep ((sK c_.view 2 link).c) fun x2=>(rb x1 x2).c) fun p8 =>
 .r 3 (.dep ((gr c_.r c_.forum 3 ({ file:=c_.view.now,sign:=link,iP:=last,jh:=(-1),due:=c_.due,day:=c_.view.day }:fR)).c) fun x4=>.dep ((gu x4).c) fun x5=>(Fu p8.2.2 x5).c) fun p7 =>
 .fin p7.2.2
def cm c_ link last:=(jT c_ link last).val
theorem Cd (c_:fZ) (link:Int) (last:Int) (VT:c_.view.now.Small) (UX:c_.r.bD) (Sj:c_.r.Small):(jT c_ link last).a6 (fun _=>True):=by
  unfold jT
  try simp only [gr,gu,rb,Fu,sK]
  exact nF

def uM c_ link last:=kk tok mixed Tryz.func124 [av c_.cells,iv link,iv last] (fun x=>iv x) true (jT c_ link last) (cm c_ link last) (u3 (Cd c_ link last))
def jU (c:fZ) (last:Int):List Int→nT→List nT
 | [],o=>[o]
 | l :: r,o=>bif cm c l last == 0 then [o] else bif cm c l last == 2 then { o with state:=2 } :: jU c last r { ke:=(c.view.now.ae.getD l.toNat default).cw,sign:=l,state:=2 } else jU c last r { o with ke:=(c.view.now.ae.getD l.toNat default).cw,sign:=l }
def tq (ak:List Int):Int:=ak.getD (au (((ak.length:Nat):Int) - 1)).toNat default
def bp (c:fZ) (ak:List Int):List nT:=jU c (tq ak) ak { ke:=c.view.now.aX.eH,sign:=-1,state:=1 }
def Nw (y:nT):List AV:=[av y.cells]
def Ud:Code:=Tryz.f123.body.getD .skip
def agq:Code:=cB (cA (cB Ud))
def Xa:Code:=cA (cA agq)
def AU:Code:=cB (cB Ud)
def agr:Code:=cA (cA (cB (cB Xa)))
def aeJ:Code:=cB (cB (cB Xa))
def adK:Code:=cB (cB (cB agr))
def UY:Code:=cB adK
def adL:Code:=cA (cB (cA adK))
def abu:Code:=cA (cB adL)
def ags:Code:=cB (cB adL)
def yH:Array Oper:=opsOf abu
def AW:Array Oper:=opsOf AU
def UZ:List Item:=[.inBlock 1,.code aeJ,.inLoop Xa,.inBlock 0,.code AU]
def PJ (c:fZ) (ak:List Int) (i:Nat) (o:nT) (sl:List (Nat × AV)):St:=⟨sl++[(1,.ref c.cells),(2,.ref [mR bS ak]),(4,.ptr 4 0),(14,lv bS ak),(15,iv ((ak.length:Nat):Int)),(16,iv ((i:Nat):Int))],[(4,.box (o.cells.map .d))]⟩
def abv (c:fZ) (ak:List Int) (i:Nat) (s:Int):nT:={ ke:=(c.view.now.ae.getD (ak.getD i default).toNat default).cw,sign:=ak.getD i default,state:=s }
def Jj (c:fZ) (ak:List Int) (i:Nat):Sk (Option Bool) :=
 .Eo 14 0 ak.length <|
 .br (decide (((i:Nat):Int) < ((ak.length:Nat):Int)))
  (.r 3 (.p (bN ((i:Nat):Int) ak.length)) fun _ =>
   .r 4 (.al (.p (bN (au (((ak.length:Nat):Int) - 1)) ak.length)) ((uM c (ak.getD i default) (tq ak)).c)) fun x =>
   .br (x == 0) (.fin none) (.br (x == 2) (.r 7 .z fun _=>.fin (some true)) (.fin (some false))))
  (.fin none)
def adM (c:fZ) (ak:List Int) (i:Nat):Sk Unit :=
 .Eo 14 0 ak.length <| .r 9 (.p (bN (ak.getD i default) c.view.now.ae.length)) fun _=>.r 10 .z fun _=>.wi 16 (au (((i:Nat):Int)+1)) ((i+1:Nat):Int) <| .fin ()
def Xb (c:fZ) (ak:List Int):Prop:=ak.length≤1000000∧(∀ i,i < ak.length→0≤ak.getD i default∧ak.getD i default < c.view.now.ae.length)∧∀ i,i < ak.length→(uM c (ak.getD i default) (tq ak)).pre
def adN (c:fZ) (ak:List Int) (i:Nat) (o:nT):Option Bool→aaX
 | none=>.go [.code AU] ⟨[(4,.ptr 4 0)],[(4,.box (o.cells.map .d))]⟩
 | some true=>.go (.code abu :: .code ags :: .code UY :: UZ) (PJ c ak i { o with state:=2 } [(6,iv (ak.getD i default))])
 | some false=>.go (.code UY :: UZ) (PJ c ak i o [(6,iv (ak.getD i default))])
theorem xI (c:fZ) (ak:List Int) (hp:Xb c ak):Zf Tryz.prog 123 [.ref c.cells,.ref [mR bS ak]] ((bp c ak).map Nw):=by
 refine Zf.intro (T:=TT) Tryz.func123 rfl (by kernel_rfl) (Nat.le_of_ble_eq_true (by kernel_rfl)) (fun X=>?_)
 have hr8:abu=.region 8 yH false:=by kernel_rfl
 have aij:AU=.region 11 AW false:=by kernel_rfl
 have hg8:List.range yH.size=[0,1,2,3]:=by kernel_rfl
 have aik:List.range AW.size=[0,1,2]:=by kernel_rfl
 have hys:∀ k o pre r,bp c ak=pre++o :: r→pre.length=k→((bp c ak).map Nw)[k]? = some (Nw o):=fun k o pre r h hk=>by
  rw [h]; subst hk; simp
 have fin:∀ k o pre,bp c ak=pre++[o]→pre.length=k→G (X.g TT Tryz.f123 (X.H k)) [.code AU] ⟨[(4,.ptr 4 0)],[(4,.box (o.cells.map .d))]⟩:=by
  intro k o pre h hk
  rw [aij]
  refine G.yr ?_
  rw [aik]
  refine YW.mvC (o:=AW.getD 0 default) (d:=50) (u:=0) (by kernel_rfl) (by kernel_rfl) (by kernel_rfl) (by simp) (by kernel_rfl) ?_
  refine YW.opC tok mixed (o:=AW.getD 1 default) ⟨[(51,av o.cells),(4,.ptr 4 0)],[(4,.box (o.cells.map .d))]⟩ (by kernel_rfl) (by kernel_rfl) (by kernel_rfl) ?_
  refine YW.ylC (o:=AW.getD 2 default) (d:=52) (u:=50) (n:=k) (ts:=[51]) (c:={ callee:=.value (.tmp 50),args:=#[.tmp 51],argTypes:=#[187] }) (by kernel_rfl) (by kernel_rfl) (by kernel_rfl) rfl (by simp) (by kernel_rfl) (hys k o pre [] h hk) rfl (by kernel_rfl) (by kernel_rfl) ?_ ?_
  ·refine YW.nil (T:=TT) (fn:=Tryz.f123) (by simp) (tf.ret Tryz.func123 (by kernel_rfl) (fun C h'=>.inl ?_)).1
   have:((bp c ak).map Nw).length=k+1:=by rw [h]; simp [hk]
   rw [this]
   exact h'
  ·exact YW.nil (T:=TT) (fn:=Tryz.f123) (by simp) (tf.ret Tryz.func123 (by kernel_rfl) (fun C h'=>.inr h')).1
 have key:∀ d i,i+d=ak.length→∀ k o pre,bp c ak=pre++jU c (tq ak) (ak.drop i) o→pre.length=k→G (X.g TT Tryz.f123 (X.H k)) [.code Xa,.inLoop Xa,.inBlock 0,.code AU] (PJ c ak i o []):=by
  intro d
  induction d with
  | zero =>
   intro i hi k o pre h hk
   refine tf.sk tok mixed Tryz.func123 _ (Jj c ak i) (adN c ak i o) 100 (by kernel_rfl) ?_ ?_
   ·refine Sk.aG _ ?_
    simp only [Jj,Sk.gL]
    refine fun _=>⟨fun hd=>?_,fun _=>trivial⟩
    simp at hd
    omega
   ·intro a ha
    have:(Jj c ak i).val=none:=by
     have e:decide (((i:Nat):Int) < ((ak.length:Nat):Int))=false:=decide_eq_false (by omega)
     simp only [Jj,Sk.val,e,cond_false]
    rw [this] at ha
    subst ha
    refine fin k o pre ?_ hk
    rw [h,List.drop_of_length_le (by omega)]
    rfl
  | succ d ih =>
   intro i hi k o pre h hk
   have dK:i < ak.length:=by omega
   have XT:ak.drop i=ak.getD i default :: ak.drop (i+1):=by
    rw [List.drop_eq_getElem_cons dK]
    simp [List.getD,dK]
   have next:∀ k' o' acY st,OX st (PJ c ak i o' [(6,iv (ak.getD i default))])→bp c ak=acY++jU c (tq ak) (ak.drop (i+1)) (abv c ak i o'.state)→acY.length=k'→G (X.g TT Tryz.f123 (X.H k')) (.code UY :: UZ) st:=by
    intro k' o' acY st jK h' fS
    refine .le jK ?_
    refine tf.sk tok mixed Tryz.func123 _ (adM c ak i) (fun _=>.go [.inLoop Xa,.inBlock 0,.code AU] (PJ c ak (i+1) (abv c ak i o'.state) [])) 100 (by kernel_rfl) ?_ (fun _ _=>.inLoop (ih (i+1) (by omega) k' _ acY h' fS))
    refine Sk.aG _ ?_
    simp only [adM,Sk.gL,bn.z,bn.p,bN,maxLen]
    have q1:=hp.2.1 i dK
    have q2:=hp.1
    refine fun _=>⟨by omega,fun _ _ _=>⟨trivial,fun _ _ _=>⟨?_,trivial⟩⟩⟩
    refine (ar ?_ ?_).trans ?_ <;> omega
   refine tf.sk tok mixed Tryz.func123 _ (Jj c ak i) (adN c ak i o) 100 (by kernel_rfl) ?_ ?_
   ·refine Sk.aG _ ?_
    have q2:=hp.1
    have q3:=hp.2.2 i dK
    have e:au (((ak.length:Nat):Int) - 1)=((ak.length:Nat):Int) - 1:=ar (by omega) (by omega)
    simp only [Jj,Sk.gL,bn.p,bn.z,bn.al,iI.c,kk,kp,bN,maxLen,e,implies_true,true_and,and_true,and_self]
    exact fun _ _=>⟨by omega,fun _ _ _=>⟨by omega,q3⟩⟩
   ·intro a ha
    have hv:(Jj c ak i).val=bif cm c (ak.getD i default) (tq ak) == 0 then none else bif cm c (ak.getD i default) (tq ak) == 2 then some true else some false:=by
     have e:decide (((i:Nat):Int) < ((ak.length:Nat):Int))=true:=decide_eq_true (by omega)
     simp only [Jj,Sk.val,e,cond_true]
     rfl
    rw [hv] at ha
    rw [XT] at h
    simp only [jU] at h
    cases h0:cm c (ak.getD i default) (tq ak) == 0 with
    | true =>
     rw [h0,cond_true] at ha h
     subst ha
     exact fin k o pre h hk
    | false =>
     rw [h0,cond_false] at ha h
     cases h2:cm c (ak.getD i default) (tq ak) == 2 with
     | true =>
      rw [h2,cond_true] at ha h
      subst ha
      show G _ _ _
      rw [hr8]
      refine G.yr ?_
      rw [hg8]
      refine YW.mvC (o:=yH.getD 0 default) (d:=34) (u:=0) (by kernel_rfl) (by kernel_rfl) (by kernel_rfl) (by simp) (by kernel_rfl) ?_
      refine YW.opC tok mixed (o:=yH.getD 1 default) (PJ c ak i { o with state:=2 } [(35,av ({ o with state:=2 }:nT).cells),(6,iv (ak.getD i default))]) (by kernel_rfl) (by kernel_rfl) (by kernel_rfl) ?_
      refine YW.ylC (o:=yH.getD 2 default) (d:=36) (u:=34) (n:=k) (ts:=[35]) (c:={ callee:=.value (.tmp 34),args:=#[.tmp 35],argTypes:=#[187] }) (by kernel_rfl) (by kernel_rfl) (by kernel_rfl) rfl (by simp) (by kernel_rfl) (hys k _ pre _ h hk) rfl (by kernel_rfl) (by kernel_rfl) ?_ ?_
      ·refine YW.opC tok mixed (o:=yH.getD 3 default) (PJ c ak i { o with state:=2 } [(37,bv false),(6,iv (ak.getD i default))]) (by kernel_rfl) (by kernel_rfl) (by kernel_rfl) ?_
       refine YW.nil (T:=TT) (fn:=Tryz.f123) (by simp) ?_
       refine tf.sk tok mixed Tryz.func123 _ (.JH (.fin ()):Sk Unit) (fun _=>.go (.code UY :: UZ) (PJ c ak i { o with state:=2 } [(6,iv (ak.getD i default))])) 100 (by kernel_rfl) trivial (fun _ _=>next (k+1) { o with state:=2 } (pre++[{ o with state:=2 }]) _ (fun _ _ _ h=>h) (by rw [h]; simp [abv]) (by simp [hk]))
      ·refine YW.opC tok mixed (o:=yH.getD 3 default) (PJ c ak i { o with state:=2 } [(37,bv true),(6,iv (ak.getD i default))]) (by kernel_rfl) (by kernel_rfl) (by kernel_rfl) ?_
       refine YW.nil (T:=TT) (fn:=Tryz.f123) (by simp) ?_
       refine tf.sk tok mixed Tryz.func123 _ (.JG (.fin ()):Sk Unit) (fun _=>.go (.code .ret :: .code UY :: UZ) ⟨[],[]⟩) 100 (by kernel_rfl) trivial (fun _ _=>(tf.ret Tryz.func123 (by kernel_rfl) (fun C h=>.inr h)).2 _)
     | false =>
      rw [h2,cond_false] at ha h
      subst ha
      exact next k o pre _ (fun _ _ _ h=>h) h hk
 refine tf.sk tok mixed Tryz.func123 _ (.r 0 .z fun _=>.r 1 .z fun _=>.fin ():Sk Unit) (fun _=>.go [.code (.loop Xa),.inBlock 0,.code AU] (PJ c ak 0 { ke:=c.view.now.aX.eH,sign:=-1,state:=1 } [])) 100 (by kernel_rfl) ?_ (fun _ _=>.aa6 (key ak.length 0 (by omega) 0 _ [] rfl rfl))
 refine Sk.aG _ ?_
 simp [Sk.gL,bn.z]
def kW (c:fZ) (ak:List Int):ItC nT:=⟨Tryz.prog,123,[.ref c.cells,.ref [mR bS ak]],bp c ak,Nw,Xb c ak,fun h=>xI c ak h⟩
def na (v:View) (sign:Int):Sk (Int) :=
 .r 1 (.p (bN sign v.now.ae.length)) fun _ =>
 .r 2 (.wh (sign == 0) false ((aC v.lead ((v.now.ae.getD sign.toNat default).part)).c)) fun x1 =>
 .br ((sign == 0)||(!x1))
 (.r 3 (.p (bN (0:Int) v.lead.length)) fun _ =>
 .fin (v.lead.getD 0 default))
 (.fin ((v.now.ae.getD sign.toNat default).part))
def gY v sign:=(na v sign).val
theorem HA (v:View) (sign:Int) (hs:0≤sign∧sign < v.now.ae.length) (hl:v.lead.length≠0):(na v sign).a6 (fun _=>True):=by
 unfold na
 try simp only [aC]
 exact nF
def oG v sign:=kk tok mixed Tryz.func125 [av v.cells,iv sign] (fun x=>iv x) true (na v sign) (gY v sign) (u2 (HA v sign))
def fM (v:View) (part:Int) (cz:Int) (ak:List Int):Sk ((List Int)) :=
 .r 2 (.wh (cz != (-1)) true ((aC ak cz).c)) fun x1 =>
 .br ((cz != (-1))&&(!x1))
 (.fin [])
 (.bind true (fun b2=>b2.length≤v.now.ae.length∧∀ y,y∈b2→0≤y∧y < (v.now.ae.length:Int))
 (.loop (default:Sum ((List Int)) ((List Int))) (fun i3=>i3.2≤v.now.ae.length∧i3.1.length≤i3.2∧∀ y,y∈i3.1→0≤y∧y < (v.now.ae.length:Int)) (fun i3=>v.now.ae.length - i3.2) (([],0):(List Int) × Nat)
 (fun (i3:(List Int) × Nat)=>⟨[(9,ow 100002 i3.1),(25,iv (i3.2:Int))],[(100002,aU 3 1 bS i3.1)]⟩) fun i3 =>
 .lt 23 0 i3.2 v.now.ae.length
 (.r 6 (.p (bN (i3.2:Int) v.now.ae.length)) fun _ =>
 .r 7 ((oG v (i3.2:Int)).c) fun x4 =>
 .br (x4 != part)
 (.nx 18 25 i3.2 (i3.1,i3.2+1))
 (.bt
 (.bind false (fun _=>True)
 (.br (((v.now.ae.getD i3.2 default).kind) == 0)
 (.fin (.inr (((v.now.ae.getD i3.2 default).kind) == 0)))
 (.fin (.inr (((v.now.ae.getD i3.2 default).kind) == 1))))
 (fun (b6:Bool)=>⟨[(41,bv b6)],[]⟩) fun b6 =>
 .br b6
 (.fin (.inr (true,b6,((v.now.ae.getD i3.2 default).kind) == 0)))
 (.br (((v.now.ae.getD i3.2 default).kind) == 2)
 (.r 15 (.wh ((decide ((i3.2:Int)≤cz))&&((aD .i64 ((v.now.ae.getD i3.2 default).flags) 2) == 0)) true ((aC ak (i3.2:Int)).c)) fun x7 =>
 .fin (.inr (((decide ((i3.2:Int)≤cz))&&((aD .i64 ((v.now.ae.getD i3.2 default).flags) 2) == 0))&&x7,b6,((v.now.ae.getD i3.2 default).kind) == 0)))
 (.r 10 ((aC i3.1 ((v.now.ae.getD i3.2 default).for_)).c) fun x8 =>
 .fin (.inr (x8,b6,((v.now.ae.getD i3.2 default).kind) == 0)))))
 (fun (b5:Bool × Bool × Bool)=>⟨[(12,bv b5.1),(41,bv b5.2.1),(42,bv b5.2.2)],[]⟩) fun b5 =>
 .br b5.1
 (.r 17 (.al (.o [.dn (dH dV [(i3.2:Int)])]) (.al (.o [.dn (kE dV i3.1 [(i3.2:Int)])]) (.al (.t (dV.mT [(i3.2:Int)])) (.p (vE i3.1.length [(i3.2:Int)].length 8))))) fun _ =>
 .r 18 .z fun _ =>
 .wi 25 (au ((i3.2:Int)+1)) ((i3.2+1:Nat):Int) <|
 .fin (.inr (i3.1++[(i3.2:Int)],i3.2+1)))
 (.nx 18 25 i3.2 (i3.1,i3.2+1))))
 (.fin (.inl (.inr i3.1))))
 (fun (b2:(List Int))=>⟨[(9,ow 100001 b2)],[(100001,aU 3 1 bS b2)]⟩) fun b2 =>
 .fin b2)
def bz v part cz ak:=(fM v part cz ak).val
theorem sZ (v:View) (part:Int) (cz:Int) (ak:List Int):(fM v part cz ak).cC (fun (x:(List Int))=>x.length≤v.now.ae.length∧∀ y,y∈x→0≤y∧y < (v.now.ae.length:Int)):=by
 unfold fM
 try simp only [oG,aC]
 exact ET
theorem si (v:View) (part:Int) (cz:Int) (ak:List Int):(fun (x:(List Int))=>x.length≤v.now.ae.length∧∀ y,y∈x→0≤y∧y < (v.now.ae.length:Int)) (bz v part cz ak):=have h:=Sk.cI _ (sZ v part cz ak); h
theorem Ds (v:View) (part:Int) (cz:Int) (ak:List Int) (hl:v.lead.length≠0) (hn:v.now.ae.length≤1000000):(fM v part cz ak).a6 (fun _=>True):=by
 unfold fM
 try simp only [oG,aC]
 exact nF
def qg v part cz ak:=kp tok mixed Tryz.func101 [av v.cells,iv part,iv cz,lv bS ak] (fun x=>lv bS x) false (bz v part cz ak) (u2 (Ds v part cz ak)) (sZ v part cz ak)
def xJ (rv:View→Int→Int) (rp:View→Int→Prop) (rf:∀ (v:View) (sign:Int),rp v sign→eC Tryz.prog 126 [av v.cells,iv sign] [] (iv (rv v sign)) []) (v:View) (sign:Int):iI (Int):=⟨Tryz.prog,126,[av v.cells,iv sign],fun x=>iv x,true,rv v sign,rp v sign,rf v sign,fun _=>True,trivial⟩
def g8 (rv:View→Int→Int) (rp:View→Int→Prop) (rf:∀ (v:View) (sign:Int),rp v sign→eC Tryz.prog 126 [av v.cells,iv sign] [] (iv (rv v sign)) []) (v:View) (sign:Int):Sk (Int) :=
 .r 1 (.p (bN sign v.now.ae.length)) fun _ =>
 .br ((((v.now.ae.getD sign.toNat default).kind) == 3)||(((v.now.ae.getD sign.toNat default).kind) == 4))
 (.r 3 ((xJ rv rp rf v ((v.now.ae.getD sign.toNat default).for_)).c) fun x1 =>
 .fin x1)
 (.fin sign)
def bA:Nat→View→Int→Int
 | 0,_,_=>default
 | fu+1,v,sign=>(g8 (bA fu) (fun _ _=>False) (fun _ _=>fun h=>h.elim) v sign).val
theorem s5 (v:View) (h:v.kO):∀ (fu:Nat) (sign:Int),0≤sign→sign < (v.now.ae.length:Int)→sign.toNat < fu→0≤bA fu v sign∧bA fu v sign≤sign
 | 0,_,_,_,h3=>absurd h3 (by omega)
 | fu+1,s,h1,h2,h3=>by
  have e:bA (fu+1) v s=bif (((v.now.ae.getD s.toNat default).kind) == 3)||(((v.now.ae.getD s.toNat default).kind) == 4) then bA fu v ((v.now.ae.getD s.toNat default).for_) else s:=by kernel_rfl
  rw [e]
  cases hk:(((v.now.ae.getD s.toNat default).kind) == 3)||(((v.now.ae.getD s.toNat default).kind) == 4) with
  | false=>exact ⟨h1,Int.le_refl _⟩
  | true =>
   rw [cond_true]
   have:=h s.toNat (by omega) (by simpa using hk)
   have:=s5 v h fu _ this.1 (by omega) (by omega)
   omega
theorem HB (fu:Nat) (rf:∀ (v:View) (sign:Int),(sign.toNat+1)≤fu∧(v.kO)∧(0≤sign∧sign < v.now.ae.length)→eC Tryz.prog 126 [av v.cells,iv sign] [] (iv (bA fu v sign)) []) (v:View) (sign:Int) (hm:(sign.toNat+1)≤fu+1) (hv:v.kO) (hs:0≤sign∧sign < v.now.ae.length):(g8 (bA fu) (fun v sign=>(sign.toNat+1)≤fu∧(v.kO)∧(0≤sign∧sign < v.now.ae.length)) rf v sign).a6 (fun _=>True):=by
 refine Sk.aG _ ?_
 unfold g8
 simp only [Sk.gL,Sk.aA,reduceCtorEq,ON,kk,kp,xJ,maxLen]
 refine ⟨hs,fun _ hk=>?_⟩
 have:=hv sign.toNat (by omega) (by simpa using hk)
 exact ⟨by omega,hv,by omega,by omega⟩
theorem Fv (fu:Nat) (rp:View→Int→Prop) (rf:∀ (v:View) (sign:Int),rp v sign→eC Tryz.prog 126 [av v.cells,iv sign] [] (iv (bA fu v sign)) []) (v:View) (sign:Int):(g8 (bA fu) rp rf v sign).val=bA (fu+1) v sign:=by kernel_rfl
theorem Fw (fu:Nat):∀ (v:View) (sign:Int),(sign.toNat+1)≤fu→v.kO→(0≤sign∧sign < v.now.ae.length)→eC Tryz.prog 126 [av v.cells,iv sign] [] (iv (bA fu v sign)) []:=by
 induction fu with
 | zero=>intro v sign hm h0 h1; exact absurd hm (by omega)
 | succ fu ih =>
  intro v sign hm h0 h1
  have h:eC Tryz.prog 126 [av v.cells,iv sign] [] (iv ((g8 (bA fu) (fun v sign=>(sign.toNat+1)≤fu∧(v.kO)∧(0≤sign∧sign < v.now.ae.length)) (fun v sign h=>ih v sign h.1 h.2.1 h.2.2) v sign).val)) []:=eC.sk tok mixed (fun x=>iv x) (fun _=>[]) Tryz.func126 rfl (by kernel_rfl) 3000 (g8 (bA fu) (fun v sign=>(sign.toNat+1)≤fu∧(v.kO)∧(0≤sign∧sign < v.now.ae.length)) (fun v sign h=>ih v sign h.1 h.2.1 h.2.2) v sign) (by kernel_rfl) (HB fu _ v sign hm h0 h1)
  rw [Fv] at h
  exact h
def aJ (v:View) (sign:Int):Int:=bA ((sign.toNat+1)) v sign
theorem HC (v:View) (sign:Int) (hv:v.kO) (hs:0≤sign∧sign < v.now.ae.length):eC Tryz.prog 126 [av v.cells,iv sign] [] (iv (aJ v sign)) []:=Fw _ v sign (Nat.le_refl _) hv hs
theorem Dt (v:View) (sign:Int):(fun (x:Int)=>v.kO→0≤sign∧sign < (v.now.ae.length:Int)→0≤x∧x≤sign) (aJ v sign):=by
 exact fun h hs=>s5 v h _ sign hs.1 hs.2 (by omega)
def sL (v:View) (sign:Int):iI (Int):=⟨Tryz.prog,126,[av v.cells,iv sign],fun x=>iv x,true,aJ v sign,(v.kO)∧(0≤sign∧sign < v.now.ae.length),fun h=>HC v sign h.1 h.2,fun (x:Int)=>v.kO→0≤sign∧sign < (v.now.ae.length:Int)→0≤x∧x≤sign,Dt v sign⟩
def iG (a:ba):Sk (Bool) :=
 .fin ((a.kind == 1)||(a.kind == 3))
def dj a:=(iG a).val
theorem qI (a:ba):dj a=((a.kind == 1)||(a.kind == 3)):=rfl
theorem zL (a:ba):(iG a).a6 (fun _=>True):=by
 unfold iG
 exact od
def mF a:=kk tok mixed Tryz.func129 [av a.cells] (fun x=>bv x) true (iG a) (dj a) (u0 (zL a))
def en (s:List ba):Sk (Int) :=
 .bind true (fun b1=>∀ q,q < s.length→dj (s.getD q default)=false)
 (.loop (default:Sum (Int) (Unit)) (fun i2=>∀ q,q < i2→dj (s.getD q default)=false) (fun i2=>s.length - i2) (0:Nat)
 (fun (i2:Nat)=>⟨[(8,iv (i2:Int))],[]⟩) fun i2 =>
 .lt 0 0 i2 s.length
 (.r 4 (.al (.p (bN (i2:Int) s.length)) ((mF (s.getD i2 default)).c)) fun x3 =>
 .br x3
 (.fin (.inl (.inl (i2:Int))))
 (.nx 6 8 i2 (i2+1)))
 (.fin (.inl (.inr ()))))
 (fun (_:Unit)=>⟨[],[]⟩) fun _ =>
 .fin (-1)
def AX s:=(en s).val
theorem wH (s:List ba):(en s).cC (fun (x:Int)=>(x = -1∧∀ q,q < s.length→dj (s.getD q default)=false)∨(0≤x∧x < s.length∧dj (s.getD x.toNat default)=true∧∀ q,(q:Nat) < x.toNat→dj (s.getD q default)=false)):=by
 unfold en
 try simp only [mF,qI]
 exact X9
theorem xK (s:List ba):(en s).a6 (fun _=>True):=by
 unfold en
 try simp only [mF,qI]
 exact GD
def kX s:=kp tok mixed Tryz.func163 [lv ba.cells s,.fn 129 []] (fun x=>iv x) true (AX s) (u0 (xK s)) (wH s)
def dk (s:List ba):Sk (Bool) :=
 .r 1 ((kX s).c) fun x1 =>
 .fin (decide (x1≥0))
def db s:=(dk s).val
theorem tu (s:List ba):(dk s).cC (fun (x:Bool)=>(x=true↔∃ q,q < s.length∧dj (s.getD q default)=true)):=by
 unfold dk
 try simp only [kX]
 exact ET
theorem uN (s:List ba):(dk s).a6 (fun _=>True):=by
 unfold dk
 try simp only [kX]
 exact od
def iR s:=kp tok mixed Tryz.func128 [lv ba.cells s,.fn 129 []] (fun x=>bv x) true (db s) (u0 (uN s)) (tu s)
structure Kept where
 shown:Int
 BC:Int
 HD:Int
 all:Int
 deriving Inhabited
def Kept.cells (c:Kept):List D:=[dI c.shown,dI c.BC,dI c.HD,dI c.all]
structure fc where
 r:ah
 forum:Int
 f:ai
 sign:Int
 day:Int
 due:Int
 deriving Inhabited
def fc.cells (c:fc):List D:=c.r.cells++[dI c.forum]++c.f.cells++[dI c.sign,dI c.day,dI c.due]
def fc.QT (v:fc):Prop:=0≤v.f.aX.JK∧v.f.aX.JK < v.r.bo.length
def jx (r:ah) (forum:Int) (f:ai) (sign:Int) (day:Int):Sk (fc) :=
 .r 1 (.dep ((bj f day).c) fun _=>(cj r forum f day).c) fun p3 =>
 .fin ({ r:=r,forum:=forum,f:=p3.1,sign:=sign,day:=day,due:=p3.2 }:fc)
def Nx r forum f sign day:=(jx r forum f sign day).val
theorem Du (r:ah) (forum:Int) (f:ai) (sign:Int) (day:Int):(jx r forum f sign day).cC (fun (x:fc)=>x.r=r∧x.f=aj f day∧x.sign=sign):=by
 unfold jx
 try simp only [cj,bj,ai.Small,ah.Small,ah.bD]
 exact ET
theorem Fx (r:ah) (forum:Int) (f:ai) (sign:Int) (day:Int) (aV:f.Small) (bg:r.bD) (aO:r.Small):(jx r forum f sign day).a6 (fun _=>True):=by
 simp only [ai.Small,ah.Small,ah.bD] at aV
 simp only [ai.Small,ah.Small,ah.bD] at bg
 simp only [ai.Small,ah.Small,ah.bD] at aO
 unfold jx
 try simp only [cj,bj,ai.Small,ah.Small,ah.bD]
 exact nF
def nb r forum f sign day:=kp tok mixed Tryz.func137 [av r.cells,iv forum,av f.cells,iv sign,iv day] (fun x=>av x.cells) false (Nx r forum f sign day) (u3 (Fx r forum f sign day)) (Du r forum f sign day)
def gw (v:fc) (kind:Int) (from_:Int):Sk (Int) :=
 .bt
 (.loop (default:Sum (Int) (Unit)) (fun i2=>i2≤v.f.aw.length) (fun i2=>v.f.aw.length - i2) (0:Nat)
 (fun (i2:Nat)=>⟨[(13,iv (i2:Int))],[]⟩) fun i2 =>
 .lt 11 0 i2 v.f.aw.length
 (.r 3 (.p (bN (i2:Int) v.f.aw.length)) fun _ =>
 .br (((((v.f.aw.getD i2 default).kind) == kind)&&(((v.f.aw.getD i2 default).cw) == v.f.aX.qT))&&(decide (((v.f.aw.getD i2 default).day)≥from_)))
 (.fin (.inl (.inl ((v.f.aw.getD i2 default).day))))
 (.nx 6 13 i2 (i2+1)))
 (.fin (.inl (.inr ()))))
 (fun (_:Unit)=>⟨[],[]⟩) fun _ =>
 .fin (-1)
def AY v kind from_:=(gw v kind from_).val
theorem xL (v:fc) (kind:Int) (from_:Int):(gw v kind from_).a6 (fun _=>True):=by
 unfold gw
 exact nF
def eP v kind from_:=kk tok mixed Tryz.func192 [av v.cells,iv kind,iv from_] (fun x=>iv x) true (gw v kind from_) (AY v kind from_) (u0 (xL v kind from_))
structure vP where
 known:Bool
 last:Int
 deriving Inhabited
def vP.cells (c:vP):List D:=[dB c.known,dI c.last]
def gQ (v:fc):Sk (vP) :=
 .r 1 ((oZ v.r v.forum 7 v.f v.day).c) fun x1 =>
 .br (x1.err != 0)
 (.fin ({ known:=true,last:=9223372036854775807 }:vP))
 (.br (!x1.cell.known)
 (.fin ({ known:=false,last:=0 }:vP))
 (.br (decide ((au (v.f.aX.day+x1.cell.n)) > 100000))
 (.fin ({ known:=true,last:=9223372036854775807 }:vP))
 (.fin ({ known:=true,last:=au (v.f.aX.day+x1.cell.n) }:vP))))
def Ce v:=(gQ v).val
theorem yI (v:fc) (gX:v.f.Small) (mE:v.r.bD) (kH:v.r.Small):(gQ v).a6 (fun _=>True):=by
 unfold gQ
 try simp only [oZ]
 exact nF
def lM v:=kk tok mixed Tryz.func193 [av v.cells] (fun x=>av x.cells) true (gQ v) (Ce v) (u3 (yI v))
def fW (v:fc) (on:Int) (t:vP):Sk (Int) :=
 .br (!t.known)
 (.fin 2)
 (.br ((on != (-1))&&(decide (on≤t.last)))
 (.fin 1)
 (.br ((on != (-1))||(decide (v.day > t.last)))
 (.fin 0)
 (.fin 2)))
def zM v on t:=(fW v on t).val
theorem wI (v:fc) (on:Int) (t:vP):(fW v on t).a6 (fun _=>True):=by
 unfold fW
 exact od
def gx v on t:=kk tok mixed Tryz.func191 [av v.cells,iv on,av t.cells] (fun x=>iv x) true (fW v on t) (zM v on t) (u0 (wI v on t))
def fm (v:fc):Sk (Int) :=
 .r 1 ((eP v 1 0).c) fun x1 =>
 .br (decide (x1 > v.due))
 (.fin (-1))
 (.fin x1)
def yJ v:=(fm v).val
theorem vm (v:fc):(fm v).a6 (fun _=>True):=by
 unfold fm
 try simp only [eP]
 exact od
def fX v:=kk tok mixed Tryz.func173 [av v.cells] (fun x=>iv x) true (fm v) (yJ v) (u0 (vm v))
def nc (l:List Int):Sk (Int) :=
 .r 1 ((aC l 0).c) fun x1 =>
 .br x1
 (.fin 0)
 (.r 3 ((aC l 2).c) fun x2 =>
 .br x2
 (.fin 2)
 (.fin 1))
def PK l:=(nc l).val
theorem HE (l:List Int):(nc l).a6 (fun _=>True):=by
 unfold nc
 try simp only [aC]
 exact od
def lq l:=kk tok mixed Tryz.func169 [lv bS l] (fun x=>iv x) true (nc l) (PK l) (u0 (HE l))
def gy (v:fc) (aR:Int):Sk (wo) :=
 .r 1 ((gr v.r v.forum aR ({ file:=v.f,sign:=v.sign,iP:=v.sign,jh:=(-1),due:=v.due,day:=v.day }:fR)).c) fun x1 =>
 .fin x1
def AZ v aR:=(gy v aR).val
theorem xM (v:fc) (aR:Int) (gX:v.f.Small) (mE:v.r.bD) (kH:v.r.Small):(gy v aR).a6 (fun _=>True):=by
 unfold gy
 try simp only [gr]
 exact nF
def bZ v aR:=kk tok mixed Tryz.func166 [av v.cells,iv aR] (fun x=>av x.cells) false (gy v aR) (AZ v aR) (u3 (xM v aR))
def nd (c_:jg) (day:Int) (n:Int):Sk (Int × Int) :=
 .r 1 ((fH day).c) fun x1 =>
 .br (((!x1)||(decide (n < 0)))||(decide (n > 20000)))
 (.fin (0,3))
 (.bt
 (.loop (default:Sum (Int × Int) (Int)) (fun i3=>0≤i3.2∧i3.2≤n∧0≤i3.1∧i3.1≤100000) (fun i3=>(n - i3.2).toNat) ((day,0):Int × Int)
 (fun (i3:Int × Int)=>⟨[(1,iv i3.1),(22,iv i3.2)],[]⟩) fun i3 =>
 .br (decide (i3.2 < n))
 (.r 5 ((lj c_ (au (i3.1+1))).c) fun x4 =>
 .br (x4.2 != 0)
 (.fin (.inl (.inl (0,x4.2))))
 (.fin (.inr (x4.1,au (i3.2+1)))))
 (.fin (.inl (.inr i3.1))))
 (fun (b2:Int)=>⟨[(1,iv b2)],[]⟩) fun b2 =>
 .fin (b2,0))
def PL c_ day n:=(nd c_ day n).val
theorem HF (c_:jg) (day:Int) (n:Int):(nd c_ day n).a6 (fun _=>True):=by
 unfold nd
 try simp only [lj,fH,pX]
 exact GD
def zy c_ day n:=kk tok mixed Tryz.func224 [av c_.cells,iv day,iv n] (fun x=>.fj [iv x.1,iv x.2]) true (nd c_ day n) (PL c_ day n) (u0 (HF c_ day n))
def gR (v:fc) (said:wo) (from_:Int):Sk (vP) :=
 .br (said.err != 0)
 (.fin ({ known:=true,last:=9223372036854775807 }:vP))
 (.br (!said.cell.known)
 (.fin ({ known:=false,last:=0 }:vP))
 (.r 5 (.al (.p (bN v.f.aX.JK v.r.bo.length)) ((zy (v.r.bo.getD v.f.aX.JK.toNat default) from_ said.cell.n).c)) fun x1 =>
 .br (x1.2 != 0)
 (.fin ({ known:=true,last:=9223372036854775807 }:vP))
 (.fin ({ known:=true,last:=x1.1 }:vP))))
def Cf v said from_:=(gR v said from_).val
theorem yK (v:fc) (said:wo) (from_:Int) (hp:v.QT):(gR v said from_).a6 (fun _=>True):=by
 unfold gR
 try simp only [zy]
 exact nF
def cD v said from_:=kk tok mixed Tryz.func194 [av v.cells,av said.cells,iv from_] (fun x=>av x.cells) true (gR v said from_) (Cf v said from_) (yK v said from_)
def eu (v:fc):Sk (Int) :=
 .br (v.f.aX.da.kind == 0)
 (.r 3 (.dep ((eP v 2 0).c) fun x1=>.dep ((lM v).c) fun x2=>(gx v x1 x2).c) fun p4 =>
 .fin p4.2.2)
 (.bind false (fun _=>True)
 (.br (v.f.aX.da.kind == 1)
 (.r 6 (.dep ((rB v.f).c) fun x6=>.dep ((lM v).c) fun x7=>(gx v x6 x7).c) fun p9 =>
 .fin (.inr p9.2.2))
 (.fin (.inr 1)))
 (fun (b5:Int)=>⟨[(4,iv b5)],[]⟩) fun b5 =>
 .r 7 ((fX v).c) fun JN =>
 .br (JN != (-1))
 (.fin b5)
 (.br (v.due == (-1))
 (.r 10 (.al (.o [.dn (dH dV [b5,2])]) ((lq [b5,2]).c)) fun Zz =>
 .fin Zz)
 (.r 11 (.dep ((eP v 2 v.due).c) fun GG=>.dep ((bZ v 10).c) fun PM=>.dep ((cD v PM v.due).c) fun x14=>.dep ((gx v GG x14).c) fun x15=>.al (.o [.dn (dH dV [b5,x15])]) ((lq [b5,x15]).c)) fun p17 =>
 .fin p17.2.2.2.2)))
def wJ v:=(eu v).val
theorem tv (v:fc) (gX:v.f.Small) (mE:v.r.bD) (kH:v.r.Small) (QU:v.QT):(eu v).a6 (fun _=>True):=by
 refine Sk.aG _ ?_
 unfold eu
 simp (maxSteps:=2000000) only [Sk.gL,Sk.aA,reduceCtorEq,ON,kk,kp,lq,bZ,cD,eP,fX,lM,gx,rB,maxLen]
 all_goals (repeat' first | assumption | (apply And.intro) | (intro h))
 all_goals first | trivial | assumption | omega | ((try simp only [LN] at *) <;> first | omega | (refine (ar ?_ ?_).trans ?_ <;> omega) | (simp (disch:=omega) only [ar] at *; omega) | (grind) | (simp_all; done) | (simp_all; omega))
def mG v:=kk tok mixed Tryz.func164 [av v.cells] (fun x=>iv x) true (eu v) (wJ v) (u4 (tv v))
def ev (v:fc):Sk (Int) :=
 .r 1 ((fX v).c) fun x1 =>
 .br (x1 != (-1))
 (.fin x1)
 (.fin v.due)
def wK v:=(ev v).val
theorem tw (v:fc):(ev v).a6 (fun _=>True):=by
 unfold ev
 try simp only [fX]
 exact od
def cL v:=kk tok mixed Tryz.func138 [av v.cells] (fun x=>iv x) true (ev v) (wK v) (u0 (tw v))
def eA (v:fc):Sk (Int) :=
 .r 1 ((cL v).c) fun x1 =>
 .r 2 (.dep ((bZ v 10).c) fun x2=>(cD v x2 x1).c) fun GF =>
 .br (!GF.2.known)
 (.fin 2)
 (.bind false (fun _=>True)
 (.br (decide (v.day≤GF.2.last))
 (.fin (.inr 2))
 (.fin (.inr 0)))
 (fun (b4:Int)=>⟨[(5,iv b4)],[]⟩) fun b4 =>
 .bt
 (.loop (default:Sum (Int) (Int)) (fun i6=>i6.2≤v.f.aw.length) (fun i6=>v.f.aw.length - i6.2) ((b4,0):Int × Nat)
 (fun (i6:Int × Nat)=>⟨[(5,iv i6.1),(28,iv (i6.2:Int))],[]⟩) fun i6 =>
 .lt 26 0 i6.2 v.f.aw.length
 (.r 10 (.p (bN (i6.2:Int) v.f.aw.length)) fun _ =>
 .br ((((((v.f.aw.getD i6.2 default).kind) != 4)||(((v.f.aw.getD i6.2 default).cw) != v.f.aX.qT))||(decide (((v.f.aw.getD i6.2 default).day) < x1)))||(decide (((v.f.aw.getD i6.2 default).day) > GF.2.last)))
 (.nx 19 28 i6.2 (i6.1,i6.2+1))
 (.bind false (fun _=>True)
 (.br (((v.f.aw.getD i6.2 default).form) == 1)
 (.r 14 (.dep ((bZ v 9).c) fun x8=>(gu x8).c) fun UI =>
 .fin (.inr UI.2))
 (.fin (.inr 1)))
 (fun (b7:Int)=>⟨[(8,iv b7)],[]⟩) fun b7 =>
 .br (b7 == 1)
 (.fin (.inl (.inl 1)))
 (.br (b7 == 2)
 (.nx 19 28 i6.2 (2,i6.2+1))
 (.nx 19 28 i6.2 (i6.1,i6.2+1)))))
 (.fin (.inl (.inr i6.1))))
 (fun (b5:Int)=>⟨[(5,iv b5)],[]⟩) fun b5 =>
 .fin b5)
def wL v:=(eA v).val
theorem tx (v:fc) (gX:v.f.Small) (mE:v.r.bD) (kH:v.r.Small) (QU:v.QT):(eA v).a6 (fun _=>True):=by
 unfold eA
 try simp only [gu,bZ,cD,cL]
 exact nF
def mH v:=kk tok mixed Tryz.func167 [av v.cells] (fun x=>iv x) true (eA v) (wL v) (u4 (tx v))
def jV (said:wo) (answer:Int):Sk (Int) :=
 .r 1 ((gu said).c) fun x1 =>
 .br ((x1 == 0)||(answer == 1))
 (.fin 1)
 (.br (x1 == 2)
 (.fin 2)
 (.fin answer))
def HG said answer:=(jV said answer).val
theorem Cg (said:wo) (answer:Int):(jV said answer).a6 (fun _=>True):=by
 unfold jV
 try simp only [gu]
 exact od
def o9 said answer:=kk tok mixed Tryz.func165 [av said.cells,iv answer] (fun x=>iv x) true (jV said answer) (HG said answer) (u0 (Cg said answer))
def eQ (v:fc):Sk (Int) :=
 .r 1 ((cL v).c) fun x1 =>
 .r 2 ((bZ v 12).c) fun x2 =>
 .r 3 ((cD v x2 x1).c) fun x3 =>
 .br (!x3.known)
 (.fin 2)
 (.bt
 (.loop (default:Sum (Int) (Int)) (fun i5=>i5.2.2≤v.f.aw.length∧i5.2.1.length≤i5.2.2) (fun i5=>v.f.aw.length - i5.2.2) ((x3.last,[],0):Int × (List ba) × Nat)
 (fun (i5:Int × (List ba) × Nat)=>⟨[(6,iv i5.1),(7,ow 100005 i5.2.1),(30,iv (i5.2.2:Int))],[(100005,aU 76 9 ba.cells i5.2.1)]⟩) fun i5 =>
 .lt 28 0 i5.2.2 v.f.aw.length
 (.bind true (fun b6=>b6.2.1.length≤i5.2.1.length+1)
 (.r 10 (.p (bN (i5.2.2:Int) v.f.aw.length)) fun _ =>
 .br (((v.f.aw.getD i5.2.2 default).kind) != 5)
 (.fin (.inr (i5.1,i5.2.1,v.f.aw.getD i5.2.2 default,(v.f.aw.getD i5.2.2 default).kind,((v.f.aw.getD i5.2.2 default).kind) != 5)))
 (.bt
 (.loop (default:Sum (Sum (Sum (Sum (Int) (Int)) (Int × (List ba) × Nat)) (Int × (List ba) × ba × Int × Bool)) (Bool × Int × Bool)) (fun i8=>i8.2≤i5.2.1.length) (fun i8=>i5.2.1.length - i8.2) (((decide (((v.f.aw.getD i5.2.2 default).day)≥x1))&&(decide (((v.f.aw.getD i5.2.2 default).day)≤x3.last)),0):Bool × Nat)
 (fun (i8:Bool × Nat)=>⟨[(10,bv i8.1),(50,iv (i8.2:Int))],[]⟩) fun i8 =>
 .lt 7 0 i8.2 i5.2.1.length
 (.r 15 (.al (.p (bN (i8.2:Int) i5.2.1.length)) (.p (i8.2 < i5.2.1.length))) fun _ =>
 .r 16 (.wh i8.1 false (.wh (((i5.2.1.getD i8.2 default).cw) == ((v.f.aw.getD i5.2.2 default).dS)) true ((cD v x2 ((i5.2.1.getD i8.2 default).day)).c))) fun x9 =>
 .r 17 .z fun _ =>
 .wi 50 (au ((i8.2:Int)+1)) ((i8.2+1:Nat):Int) <|
 .fin (.inr (i8.1||((((i5.2.1.getD i8.2 default).cw) == ((v.f.aw.getD i5.2.2 default).dS))&&(decide (((v.f.aw.getD i5.2.2 default).day)≤x9.last))),i8.2+1)))
 (.fin (.inl (.inr (i8.1,(i8.2:Int),decide ((i8.2:Int) < ((i5.2.1.length:Nat):Int)))))))
 (fun (b7:Bool × Int × Bool)=>⟨[(10,bv b7.1),(50,iv b7.2.1),(51,bv b7.2.2)],[]⟩) fun b7 =>
 .br (!b7.1)
 (.fin (.inr (i5.1,i5.2.1,v.f.aw.getD i5.2.2 default,(v.f.aw.getD i5.2.2 default).kind,((v.f.aw.getD i5.2.2 default).kind) != 5)))
 (.r 19 (.p (bN v.sign v.f.ae.length)) fun _ =>
 .br (((v.f.aw.getD i5.2.2 default).cw) == ((v.f.ae.getD v.sign.toNat default).dS))
 (.fin (.inl (.inl (.inl 1))))
 (.r 21 (.al (.o [.dn (dH ba.E [v.f.aw.getD i5.2.2 default])]) (.al (.o [.dn (kE ba.E i5.2.1 [v.f.aw.getD i5.2.2 default])]) (.al (.t (ba.E.mT [v.f.aw.getD i5.2.2 default])) (.p (vE i5.2.1.length [v.f.aw.getD i5.2.2 default].length 72))))) fun _ =>
 .r 22 ((cD v x2 ((v.f.aw.getD i5.2.2 default).day)).c) fun JN =>
 .fin (.inr (bW i5.1 JN.last,i5.2.1++[v.f.aw.getD i5.2.2 default],v.f.aw.getD i5.2.2 default,(v.f.aw.getD i5.2.2 default).kind,((v.f.aw.getD i5.2.2 default).kind) != 5))))))
 (fun (b6:Int × (List ba) × ba × Int × Bool)=>⟨[(6,iv b6.1),(7,ow 100007 b6.2.1),(33,av b6.2.2.1.cells),(35,iv b6.2.2.2.1),(36,bv b6.2.2.2.2)],[(100007,aU 76 9 ba.cells b6.2.1)]⟩) fun b6 =>
 .nx 23 30 i5.2.2 (b6.1,b6.2.1,i5.2.2+1))
 (.fin (.inl (.inr i5.1))))
 (fun (b4:Int)=>⟨[(6,iv b4)],[]⟩) fun b4 =>
 .br (decide (v.day > b4))
 (.fin 0)
 (.fin 2))
def xN v:=(eQ v).val
theorem uO (v:fc) (hs:0≤v.sign∧v.sign < (v.f.ae.length:Int)) (gX:v.f.Small) (mE:v.r.bD) (kH:v.r.Small) (QU:v.QT):(eQ v).a6 (fun _=>True):=by
 refine Sk.aG _ ?_
 unfold eQ
 simp only [Sk.gL,Sk.aA,reduceCtorEq,ON,kk,kp,bZ,cD,cL,maxLen]
 have hS1:=gX.2.2.1
 all_goals exact okT
def ny v:=kk tok mixed Tryz.func168 [av v.cells] (fun x=>iv x) true (eQ v) (xN v) (u5 (uO v))
def ma (r:ah) (forum:Int) (f:ai) (sign:Int) (day:Int):Sk (Kept) :=
 .r 1 ((nb r forum f sign day).c) fun x1 =>
 .br ((decide (sign < 0))||(decide (sign≥((x1.f.ae.length:Nat):Int))))
 (.fin ({ shown:=0,BC:=0,HD:=0,all:=0 }:Kept))
 (.r 5 ((mG x1).c) fun x2 =>
 .bind false (fun _=>True)
 (.br (x1.due != (-1))
 (.r 7 (.dep ((bZ x1 8).c) fun x4=>.dep ((mH x1).c) fun x5=>(o9 x4 x5).c) fun GF =>
 .r 8 (.dep ((bZ x1 11).c) fun x7=>.dep ((ny x1).c) fun x8=>(o9 x7 x8).c) fun UI =>
 .fin (.inr ({ shown:=x2,BC:=GF.2.2,HD:=UI.2.2,all:=0 }:Kept)))
 (.fin (.inr ({ shown:=x2,BC:=2,HD:=2,all:=0 }:Kept))))
 (fun (b3:Kept)=>⟨[],[(12,.box (b3.cells.map .d))]⟩) fun b3 =>
 .r 9 (.al (.o [.dn (dH dV [b3.shown,b3.BC,b3.HD])]) ((lq [b3.shown,b3.BC,b3.HD]).c)) fun GG =>
 .fin ({ b3 with all:=GG }))
def A0 r forum f sign day:=(ma r forum f sign day).val
theorem Fy (r:ah) (forum:Int) (f:ai) (sign:Int) (day:Int) (hF:bu r f) (aV:f.Small) (bg:r.bD) (aO:r.Small):(ma r forum f sign day).a6 (fun _=>True):=by
 refine Sk.aG _ ?_
 unfold ma
 simp only [Sk.gL,Sk.aA,reduceCtorEq,ON,kk,kp,lq,nb,o9,bZ,ny,mG,mH,maxLen]
 refine ⟨⟨aV,bg,aO⟩,fun x _ hx hc=>?_⟩
 have hS:x.f.Small:=by rw [hx.2.1]; exact Aw aV day
 have hB:x.r.bD:=by rw [hx.1]; exact bg
 have hR:x.r.Small:=by rw [hx.1]; exact aO
 have hp:x.QT:=by unfold fc.QT; rw [hx.1,hx.2.1,UD]; exact hF.1.2.1
 have hs:0≤x.sign∧x.sign < (x.f.ae.length:Int):=by rw [hx.2.2]; simp only [LN] at hc; omega
 all_goals exact okT
def re r forum f sign day:=kk tok mixed Tryz.func130 [av r.cells,iv forum,av f.cells,iv sign,iv day] (fun x=>av x.cells) true (ma r forum f sign day) (A0 r forum f sign day) (u4 (Fy r forum f sign day))
theorem vQ {d:Array Int} {n:Nat} (hs:∀ i j,i≤j→j < n→d[i]!≤d[j]!):∀ m,m≤n→(Lib.compactUpTo d m).Pairwise (· < ·)∧∀ x,x∈Lib.compactUpTo d m↔∃ j,j < m∧d[j]! = x
 | 0,_=>by simp [Lib.compactUpTo]
 | m+1,hm=>by
  obtain ⟨h1,h2⟩:=vQ hs m (by omega)
  rw [Lib.compactUpTo_succ]
  by_cases hk:Lib.keeps d m=true
  ·rw [if_pos hk]
   refine ⟨List.pairwise_append.2 ⟨h1,by simp,fun a ha b hb=>?_⟩,fun x=>?_⟩
   ·simp only [List.mem_singleton] at hb
    subst hb
    obtain ⟨j,hj,rfl⟩:=(h2 a).1 ha
    have h3:=hs j (m - 1) (by omega) (by omega)
    have h4:=hs (m - 1) m (by omega) (by omega)
    simp only [Lib.keeps,decide_eq_true_eq] at hk
    rcases hk with hk | hk
    ·omega
    ·omega
   ·rw [List.mem_append,h2,List.mem_singleton]
    constructor
    ·rintro (⟨j,hj,rfl⟩ | rfl)
     ·exact ⟨j,by omega,rfl⟩
     ·exact ⟨m,by omega,rfl⟩
    ·rintro ⟨j,hj,rfl⟩
     by_cases e:j=m
     ·subst e; exact .inr rfl
     ·exact .inl ⟨j,by omega,rfl⟩
  ·rw [if_neg hk,List.append_nil]
   refine ⟨h1,fun x=>(h2 x).trans ?_⟩
   constructor
   ·rintro ⟨j,hj,rfl⟩
    exact ⟨j,by omega,rfl⟩
   ·rintro ⟨j,hj,rfl⟩
    by_cases e:j=m
    ·subst e
     simp only [Lib.keeps,decide_eq_true_eq,not_or] at hk
     have:¬ d[j]!≠d[j - 1]!:=hk.2
     exact ⟨j - 1,by omega,by omega⟩
    ·exact ⟨j,by omega,rfl⟩
theorem Sl (l:List Int):(Lib.compact (iL l)).Pairwise (· < ·)∧∀ x,x∈Lib.compact (iL l)↔x∈l:=by
 have hp:(iL l).Pairwise (·≤·):=by
  have:=List.pairwise_mergeSort (le:=fun x y:Int=>decide (x≤y)) (fun a b c h1 h2=>by simp at *; omega) (fun a b=>by simp; omega) l
  exact this.imp (fun h=>by simpa using h)
 have hg:∀ j,j < (iL l).length→(iL l).toArray[j]! = (iL l).getD j default:=fun j hj=>by simp [List.getD,hj]
 have hs:∀ i j,i≤j→j < (iL l).length→(iL l).toArray[i]!≤(iL l).toArray[j]!:=fun i j hij hj=>by
  rw [hg i (by omega),hg j hj]
  by_cases e:i=j
  ·subst e; exact Int.le_refl _
  ·have:=List.pairwise_iff_getElem.1 hp i j (by omega) hj (by omega)
   simpa [List.getD,hj,show i < (iL l).length by omega] using this
 obtain ⟨h1,h2⟩:=vQ hs (iL l).length (Nat.le_refl _)
 refine ⟨h1,fun x=>(h2 x).trans (Iff.trans ?_ (List.mergeSort_perm l fun x y=>decide (x≤y)).mem_iff)⟩
 constructor
 ·rintro ⟨j,hj,rfl⟩
  rw [hg j hj]
  exact gH hj _
 ·intro hx
  obtain ⟨i,hi,rfl⟩:=List.getElem_of_mem hx
  have fp:i < (iL l).length:=hi
  refine ⟨i,fp,(hg i fp).trans ?_⟩
  show (iL l).getD i default=(iL l)[i]
  simp [List.getD,fp]
theorem Jk {β Y:Type} {γ:Type} (sg:γ→List β) (se:Y→β) {δ:Type} (sd:δ→List β) {f:γ→Y→δ ⊕ γ}:∀ (l:List Y) (s:γ),(∀ s y,match f s y with | .inl e=>sd e=sg s | .inr s'=>sg s'=sg s++[se y]) →
  ∃ k,(match pJ f l s with | .inl e=>sd e | .inr s'=>sg s')=sg s++(l.take k).map se
 | [],s,_=>⟨0,by simp [pJ]⟩
 | y :: r,s,h=>by
  have h1:=h s y
  simp only [pJ]
  cases e:f s y with
  | inl b=>rw [e] at h1; exact ⟨0,by simpa using h1⟩
  | inr s' =>
   rw [e] at h1
   obtain ⟨k,hk⟩:=Jk sg se sd r s' h
   refine ⟨k+1,?_⟩
   rw [hk,h1]
   simp
theorem Ny (f:ai) (part day:Int):∃ k,(sf f part day).ae=((bh f day part).take k).map (·.1):=by
 unfold sf kg
 dsimp +instances only [Sk.j3,Sk.lf,Sk.oa,Sk.kL,Sk.qF,Sk.sA,Sk.gN,Sk.aa3,iI.G3,kk,kp,bn.Ao,jQ,ju,fV,rE]
 obtain ⟨k,hk⟩:=Jk (fun s:List Int × Int × Bool × Int × List Int=>s.1) (fun y:Int × Sign=>y.1) (fun e:List Int × Int × Int × Bool × Int × List Int=>e.1)
  (f:=fun s y=>bif (!s.2.2.1)&&(y.2.dS != s.2.1) then .inl (s.1,s.2.1,y.1,s.2.2.1,s.2.2.2.1,s.2.2.2.2) else bif (jt f day).2&&decide (y.2.day > (jt f day).1) then .inr (s.1++[y.1],y.2.cw,y.2.cw == (-1),AQ s.2.2.2.1 y.2.flags,s.2.2.2.2++[y.1]) else .inr (s.1++[y.1],y.2.cw,y.2.cw == (-1),AQ s.2.2.2.1 y.2.flags,s.2.2.2.2))
  (bh f day part) ([],f.aX.eH,f.aX.eH == (-1),0,[]) (fun s y=>by
   cases (!s.2.2.1)&&(y.2.dS != s.2.1)
   ·cases (jt f day).2&&decide (y.2.day > (jt f day).1) <;> rfl
   ·rfl)
 refine ⟨k,?_⟩
 rw [List.nil_append] at hk
 rw [← hk]
 generalize hr:pJ _ _ _=r
 cases r <;> rfl
theorem U0 (f:ai) (day part:Int):((bh f day part).map (·.1)).Pairwise (· < ·):=by
 unfold bh
 rw [List.map_map,List.pairwise_map]
 have h:(List.range f.ae.length).Pairwise (· < ·):=List.pairwise_lt_range
 exact (h.sublist List.filter_sublist).imp (fun h=>by simp; omega)
theorem Sm (v:View) (part:Int):(aq v part).Pairwise (· < ·):=by
 have e:aq v part=(sf v.all part v.day).ae:=rfl
 obtain ⟨k,hk⟩:=Ny v.all part v.day
 rw [e,hk,List.map_take]
 exact (U0 v.all v.day part).sublist (List.take_sublist _ _)
theorem HH {v:View} {part y:Int} (h:y∈aq v part):0≤y∧y < v.all.ae.length∧(v.all.ae.getD y.toNat default).kind=2∧(v.all.ae.getD y.toNat default).part=part∧(v.all.ae.getD y.toNat default).day≤v.day∧EO (eO v.all v.day) y false=false:=by
 have e:aq v part=(sf v.all part v.day).ae:=rfl
 obtain ⟨k,hk⟩:=Ny v.all part v.day
 rw [e,hk] at h
 obtain ⟨z,hz,rfl⟩:=List.mem_map.1 h
 obtain ⟨i,hi⟩:=List.getElem?_of_mem ((List.take_sublist _ _).subset hz)
 have:=Nu hi
 rw [← this.2.2.2.1]
 exact ⟨this.2.1,this.2.2.1,this.2.2.2.2⟩
theorem A1 (c:fZ) (last:Int):∀ (ak:List Int) (o z:nT),z∈jU c last ak o→(z.sign=o.sign∧z.ke=o.ke∨z.sign∈ak∧z.ke=(c.view.now.ae.getD z.sign.toNat default).cw)∧(z.state=2∨z.state=o.state)
 | [],o,z,h=>by
  simp only [jU,List.mem_singleton] at h
  subst h
  exact ⟨.inl ⟨rfl,rfl⟩,.inr rfl⟩
 | l :: r,o,z,h=>by
  simp only [jU] at h
  cases h0:cm c l last == 0 with
  | true =>
   rw [h0,cond_true,List.mem_singleton] at h
   subst h
   exact ⟨.inl ⟨rfl,rfl⟩,.inr rfl⟩
  | false =>
   rw [h0,cond_false] at h
   have ih:∀ o',o'.sign=l→o'.ke=(c.view.now.ae.getD l.toNat default).cw→(o'.state=2∨o'.state=o.state)→z∈jU c last r o'→(z.sign=o.sign∧z.ke=o.ke∨z.sign∈l :: r∧z.ke=(c.view.now.ae.getD z.sign.toNat default).cw)∧(z.state=2∨z.state=o.state):=by
    intro o' e1 e2 e3 hz
    obtain ⟨h1,h2⟩:=A1 c last r o' z hz
    refine ⟨.inr ?_,?_⟩
    ·rcases h1 with ⟨h1,h3⟩ | ⟨h1,h3⟩
     ·rw [h1,e1]; exact ⟨by simp,by rw [h3,e2]⟩
     ·exact ⟨by simp [h1],h3⟩
    ·rcases h2 with h2 | h2
     ·exact .inl h2
     ·rw [h2]; exact e3
   cases h2:cm c l last == 2 with
   | true =>
    rw [h2,cond_true] at h
    rcases List.mem_cons.1 h with rfl | h
    ·exact ⟨.inl ⟨rfl,rfl⟩,.inl rfl⟩
    ·exact ih _ rfl rfl (.inl rfl) h
   | false =>
    rw [h2,cond_false] at h
    exact ih { o with ke:=(c.view.now.ae.getD l.toNat default).cw,sign:=l } rfl rfl (.inr rfl) h
theorem wM (c:fZ) (last:Int):∀ (ak:List Int) (o:nT),(∀ y,y∈ak→o.sign < y)→ak.Pairwise (· < ·)→(jU c last ak o).Pairwise (fun a b=>a.sign < b.sign)
 | [],o,_,_=>by simp [jU]
 | l :: r,o,ho,hp=>by
  rw [List.pairwise_cons] at hp
  have hl:=ho l (by simp)
  simp only [jU]
  cases h0:cm c l last == 0 with
  | true=>simp
  | false =>
   rw [cond_false]
   cases h2:cm c l last == 2 with
   | true =>
    rw [cond_true,List.pairwise_cons]
    refine ⟨fun z hz=>?_,wM c last r _ hp.1 hp.2⟩
    rcases (A1 c last r _ z hz).1 with ⟨h,-⟩ | ⟨h,-⟩
    ·show o.sign < z.sign
     rw [h]; exact hl
    ·exact Int.lt_trans hl (hp.1 _ h)
   | false=>exact wM c last r _ hp.1 hp.2
theorem Xc {c:fZ} {ak:List Int} {z:nT} (h:z∈bp c ak):(z.sign = -1∧z.ke=c.view.now.aX.eH∨z.sign∈ak∧z.ke=(c.view.now.ae.getD z.sign.toNat default).cw)∧(z.state=1∨z.state=2):=by
 have:=A1 c _ ak _ z h
 exact ⟨this.1,this.2.symm⟩
theorem Sn {c:fZ} {ak:List Int} (h0:∀ y,y∈ak→0≤y) (hp:ak.Pairwise (· < ·)):(bp c ak).Pairwise (fun a b=>a.sign < b.sign) :=
 wM c _ ak _ (fun y hy=>by have:=h0 y hy; show (-1:Int) < y; omega) hp
theorem A2 (c:fZ) (last:Int):∀ (ak:List Int) (o:nT),(jU c last ak o).length≤ak.length+1
 | [],o=>by simp [jU]
 | l :: r,o=>by
  simp only [jU]
  cases cm c l last == 0 with
  | true=>simp
  | false =>
   rw [cond_false]
   cases cm c l last == 2 with
   | true=>rw [cond_true,List.length_cons,List.length_cons]; have:=A2 c last r { ke:=(c.view.now.ae.getD l.toNat default).cw,sign:=l,state:=2 }; omega
   | false=>rw [cond_false,List.length_cons]; have:=A2 c last r { o with ke:=(c.view.now.ae.getD l.toNat default).cw,sign:=l }; omega
theorem Dv (c:fZ) (ak:List Int):(bp c ak).length≤ak.length+1:=A2 c _ ak _
def Sq (v:View) (cz:Int) (ak l:List Int) (i:Nat):Bool :=
 bif ((v.now.ae.getD i default).kind == 0)||((v.now.ae.getD i default).kind == 1) then true else
 bif (v.now.ae.getD i default).kind == 2 then ((decide (((i:Nat):Int)≤cz))&&((aD .i64 ((v.now.ae.getD i default).flags) 2) == 0))&&bV ak ((i:Nat):Int)
 else bV l ((v.now.ae.getD i default).for_)
def yL (v:View) (part cz:Int) (ak:List Int) (i:Nat) (l:List Int):List Int :=
 bif gY v ((i:Nat):Int) != part then l else bif Sq v cz ak l i then l++[((i:Nat):Int)] else l
def sj (v:View) (part cz:Int) (ak:List Int):Nat→List Int
 | 0=>[]
 | n+1=>yL v part cz ak n (sj v part cz ak n)
theorem Fz {α ι δ:Type} (n:Nat) (h:Nat→α) (pack:α→Nat→ι) {f:ι→δ ⊕ ι} {d:δ} (e:α→δ) (hs:∀ i,i < n→f (pack (h i) i)=.inr (pack (h (i+1)) (i+1))) (he:f (pack (h n) n)=.inl (e (h n))) {m:Nat} (hm:n < m):iter f d m (pack (h 0) 0)=e (h n):=by
 have key:∀ k,k≤n→∀ m,k < m→iter f d m (pack (h (n - k)) (n - k))=e (h n):=by
  intro k
  induction k with
  | zero =>
   intro _ m hm
   obtain ⟨m,rfl⟩:∃ q,m=q+1:=⟨m - 1,by omega⟩
   simp only [iter,Nat.sub_zero,he]
  | succ k ih =>
   intro hk m hm
   obtain ⟨m,rfl⟩:∃ q,m=q+1:=⟨m - 1,by omega⟩
   simp only [iter,hs (n - (k+1)) (by omega)]
   rw [show n - (k+1)+1=n - k by omega]
   exact ih (by omega) m (by omega)
 have:=key n (Nat.le_refl _) m hm
 rwa [Nat.sub_self] at this
theorem QV (v:View) (part cz:Int) (ak:List Int):bz v part cz ak=bif (cz != (-1))&&(!(bV ak cz)) then [] else sj v part cz ak v.now.ae.length:=by
 unfold bz fM
 dsimp +instances only [Sk.j3,Sk.lf,Sk.oa,Sk.kL,Sk.qF,Sk.sA,Sk.gN,iI.G3,kk,kp,bn.Ao,bn.aeu,aC,oG]
 cases (cz != (-1))&&(!(bV ak cz)) with
 | true=>rfl
 | false =>
  refine congrArg (fun q=>j2 q fun b=>b) (Fz v.now.ae.length (sj v part cz ak) (fun s i=>(s,i)) (fun s=>Sum.inr s) (fun i hi=>?_) ?_ (by omega))
  ·dsimp only
   rw [decide_eq_true (by omega),cond_true]
   show _=Sum.inr (yL v part cz ak i (sj v part cz ak i),i+1)
   unfold yL
   cases gY v ((i:Nat):Int) != part with
   | true=>rfl
   | false =>
    unfold Sq
    rw [cond_false,cond_false]
    cases (v.now.ae.getD i default).kind == 0 with
    | true=>rfl
    | false =>
     cases (v.now.ae.getD i default).kind == 1 with
     | true=>rfl
     | false =>
      cases (v.now.ae.getD i default).kind == 2 with
      | true=>cases ((decide (((i:Nat):Int)≤cz))&&((aD .i64 ((v.now.ae.getD i default).flags) 2) == 0))&&bV ak ((i:Nat):Int) <;> rfl
      | false=>cases bV (sj v part cz ak i) ((v.now.ae.getD i default).for_) <;> rfl
  ·dsimp only
   rw [decide_eq_false (by omega),cond_false]
theorem contains_iff (l:List Int) (x:Int):bV l x=true↔x∈l:=by
 refine Iff.trans (Ax l x) ?_
 constructor
 ·rintro ⟨q,hq,e⟩
  rw [← (beq_iff_eq.1 e:l.getD q default=x)]
  exact gH hq _
 ·intro h
  obtain ⟨i,hi,rfl⟩:=List.getElem_of_mem h
  exact ⟨i,hi,by simp [List.getD,hi]⟩
theorem uP {v:View} {part cz:Int} {ak:List Int}:∀ {n:Nat} {y:Int},y∈sj v part cz ak n→0≤y∧y < n∧gY v y=part∧Sq v cz ak (sj v part cz ak y.toNat) y.toNat=true∧∀ z,z∈sj v part cz ak y.toNat→z∈sj v part cz ak n
 | 0,y,h=>by cases h
 | n+1,y,h=>by
  have up:∀ z,z∈sj v part cz ak n→z∈sj v part cz ak (n+1):=fun z hz=>by
   show z∈yL v part cz ak n (sj v part cz ak n)
   unfold yL
   cases gY v ((n:Nat):Int) != part with
   | true=>exact hz
   | false =>
    cases Sq v cz ak (sj v part cz ak n) n with
    | true=>exact List.mem_append_left _ hz
    | false=>exact hz
  have old:y∈sj v part cz ak n→0≤y∧y < ((n+1:Nat):Int)∧gY v y=part∧Sq v cz ak (sj v part cz ak y.toNat) y.toNat=true∧∀ z,z∈sj v part cz ak y.toNat→z∈sj v part cz ak (n+1):=fun hy=>by
   have:=uP hy
   exact ⟨this.1,by omega,this.2.2.1,this.2.2.2.1,fun z hz=>up z (this.2.2.2.2 z hz)⟩
  change y∈yL v part cz ak n (sj v part cz ak n) at h
  unfold yL at h
  cases hp:gY v ((n:Nat):Int) != part with
  | true=>rw [hp,cond_true] at h; exact old h
  | false =>
   rw [hp,cond_false] at h
   cases hi:Sq v cz ak (sj v part cz ak n) n with
   | false=>rw [hi,cond_false] at h; exact old h
   | true =>
    rw [hi,cond_true,List.mem_append,List.mem_singleton] at h
    rcases h with h | rfl
    ·exact old h
    ·exact ⟨by omega,by omega,by simpa using hp,by simpa using hi,fun z hz=>up z (by simpa using hz)⟩
theorem Jl (v:View) (part cz:Int) (ak:List Int):∀ n,(sj v part cz ak n).Pairwise (· < ·)
 | 0=>List.Pairwise.nil
 | n+1=>by
  have ih:=Jl v part cz ak n
  show (yL v part cz ak n (sj v part cz ak n)).Pairwise (· < ·)
  unfold yL
  cases gY v ((n:Nat):Int) != part with
  | true=>exact ih
  | false =>
   cases Sq v cz ak (sj v part cz ak n) n with
   | false=>exact ih
   | true =>
    refine List.pairwise_append.2 ⟨ih,by simp,fun a ha b hb=>?_⟩
    simp only [List.mem_singleton] at hb
    subst hb
    exact (uP ha).2.1
theorem PN (v:View) (part cz:Int) (ak:List Int):(bz v part cz ak).Pairwise (· < ·):=by
 rw [QV]
 cases (cz != (-1))&&(!(bV ak cz)) with
 | true=>exact List.Pairwise.nil
 | false=>exact Jl ..
theorem Nz {v:View} {part cz:Int} {ak:List Int} {y:Int} (h:y∈bz v part cz ak):(cz = -1∨cz∈ak)∧y∈sj v part cz ak v.now.ae.length:=by
 rw [QV] at h
 cases hc:(cz != (-1))&&(!(bV ak cz)) with
 | true=>rw [hc] at h; cases h
 | false =>
  rw [hc,cond_false] at h
  refine ⟨?_,h⟩
  by_cases e:cz = -1
  ·exact .inl e
  ·refine .inr ((contains_iff ak cz).1 ?_)
   have:(cz != (-1))=true:=by simpa using e
   rw [this,Bool.true_and,Bool.not_eq_eq_eq_not,Bool.not_false] at hc
   exact hc
def FA (now:ai) (i:Int):Bool:=now.aw.any fun a=>a.kind == 7&&a.at_ == i
def Jm (now:ai):List Int:=((List.range now.ae.length).filter fun i=>((now.ae.getD i default).kind == 2)&&!(FA now ((i:Nat):Int))).map fun i=>(now.ae.getD i default).part
theorem yy {α:Type} (k k':Int) (v:α):∀ (m:List (Int × α)),pM (tc m k v) k'=if k'=k then some v else pM m k'
 | []=>by
  simp only [tc,pM]
  by_cases e:k'=k
  ·subst e; simp
  ·have:(k' == k)=false:=by simpa using e
   rw [this,if_neg e]; rfl
 | p :: r=>by
  have ih:=yy k k' v r
  simp only [tc]
  cases h:k == p.1 with
  | true =>
   have h:=beq_iff_eq.1 h
   simp only [cond_true,pM]
   by_cases e:k'=k
   ·subst e; rw [← h]; simp
   ·have:(k' == p.1)=false:=by rw [← h]; simpa using e
    rw [this,if_neg e]; rfl
  | false =>
   simp only [cond_false,pM,ih]
   by_cases e:k'=k
   ·subst e; rw [h]; simp
   ·rw [if_neg e,if_neg e]
theorem ZC (aw:List ba) (p:ba→Bool) (k:Int) (m:List (Int × Bool)):EO (aw.foldl (fun m a=>bif p a then tc m a.at_ true else m) m) k false=(aw.any (fun a=>p a&&a.at_ == k)||EO m k false):=by
 induction aw generalizing m with
 | nil=>rfl
 | cons a r ih =>
  rw [List.foldl_cons,ih,List.any_cons]
  cases hp:p a with
  | false=>simp
  | true =>
   simp only [cond_true,Bool.true_and]
   unfold EO
   rw [yy]
   by_cases e:k=a.at_
   ·subst e; simp
   ·have:(a.at_ == k)=false:=by simpa using fun h:a.at_=k=>e h.symm
    rw [if_neg e,this,Bool.false_or]
theorem LH (f:ai) (day:Int):aQ f day=⟨f,aj f day,day,bif (((Lib.compact (iL (Jm (aj f day)))).length:Nat):Int) == 0 then [0] else Lib.compact (iL (Jm (aj f day)))⟩:=by
 unfold aQ pn
 dsimp +instances only [Sk.j3,Sk.lf,Sk.oa,Sk.kL,Sk.qF,Sk.sA,Sk.WD,Sk.gN,iI.G3,kk,kp,bn.Ao,bn.aeu,JJ.G3,uk.G3,bj,rq,mW]
 generalize aj f day=now
 rw [oV now.aw (fun s i=>(i,s)) (fun x (s:List (Int × Bool))=>Sum.inr (bif x.kind == 7 then tc s x.at_ true else s)) (fun s=>Sum.inr s) (fun s i hi=>?_) (fun s=>?_) (by omega) []]
 ·rw [qS (fun (x:ba) s=>bif x.kind == 7 then tc s x.at_ true else s)]
  simp only [tP]
  have hg:∀ k,EO (now.aw.foldl (fun m a=>bif a.kind == 7 then tc m a.at_ true else m) []) k false=FA now k:=fun k=>by
   rw [ZC now.aw (fun a=>a.kind == 7) k []]
   show (_||false)=_
   rw [Bool.or_false]; rfl
  generalize now.aw.foldl (fun m a=>bif a.kind == 7 then tc m a.at_ true else m) []=m at hg
  refine Eq.trans (congrArg (fun q=>j2 q _) (Fz now.ae.length (fun n=>((List.range n).filter fun i=>((now.ae.getD i default).kind == 2)&&!(FA now ((i:Nat):Int))).map fun i=>(now.ae.getD i default).part) (fun s i=>(i,s)) (fun s=>Sum.inr s) (fun i hi=>?_) ?_ (by omega))) ?_
  rotate_left
  rotate_left
  ·simp only [tP]
   show (bif (((Lib.compact (iL (Jm now))).length:Nat):Int) == 0 then View.mk f now day [0] else View.mk f now day (Lib.compact (iL (Jm now))))=View.mk f now day (bif (((Lib.compact (iL (Jm now))).length:Nat):Int) == 0 then [0] else Lib.compact (iL (Jm now)))
   cases (((Lib.compact (iL (Jm now))).length:Nat):Int) == 0 <;> rfl
  ·dsimp only
   rw [decide_eq_true (by omega),cond_true,hg,List.range_succ,List.filter_append,List.map_append]
   cases hc:((now.ae.getD i default).kind == 2)&&!(FA now ((i:Nat):Int)) with
   | true=>rw [List.filter_cons_of_pos (by simpa using hc)]; rfl
   | false=>rw [List.filter_cons_of_neg (by simpa using hc)]; simp
  ·dsimp only
   rw [decide_eq_false (by omega),cond_false]
 ·rw [decide_eq_true (by omega),cond_true]
  cases (now.aw.getD i default).kind == 7 <;> rfl
 ·rw [decide_eq_false (by omega),cond_false]
theorem U1 (f:ai) (day:Int):(aQ f day).lead.Pairwise (· < ·):=by
 rw [LH]
 dsimp only
 cases (((Lib.compact (iL (Jm (aj f day)))).length:Nat):Int) == 0 with
 | true=>simp
 | false=>exact (Sl _).1
def im (c_:fZ) (o:nT) (sign:Int) (ak:List Int) (kY:List c9):Sk (Int × Int) :=
 .r 1 ((sL c_.view sign).c) fun x1 =>
 .r 2 (.al (.p (bN sign kY.length)) ((rb o.state ((kY.getD sign.toNat default).binds)).c)) fun x2 =>
 .r 4 (.p (bN x1 c_.view.now.ae.length)) fun _ =>
 .br (((c_.view.now.ae.getD x1.toNat default).kind) == 1)
 (.br (!((c_.due != (-1))&&(decide (c_.view.day≥c_.due))))
 (.fin (0,0))
 (.fin (x2,0)))
 (.r 8 ((iR c_.view.now.aw).c) fun x3 =>
 .r 9 (.wh ((!((c_.due != (-1))&&(decide (c_.view.day≥c_.due))))&&(!x3)) false (.p (bN x1 kY.length))) fun _ =>
 .br (((!((c_.due != (-1))&&(decide (c_.view.day≥c_.due))))&&(!x3))||(!((kY.getD x1.toNat default).nR)))
 (.fin (0,0))
 (.bt
 (.loop (default:Sum (Int × Int) (Int × Int)) (fun i5=>i5.2.2≤ak.length) (fun i5=>ak.length - i5.2.2) ((0,1,0):Int × Int × Nat)
 (fun (i5:Int × Int × Nat)=>⟨[(16,iv i5.1),(17,iv i5.2.1),(76,iv (i5.2.2:Int))],[]⟩) fun i5 =>
 .lt 3 0 i5.2.2 ak.length
 (.r 14 (.p (bN (i5.2.2:Int) ak.length)) fun _ =>
 .bind false (fun _=>True)
 (.br (decide ((ak.getD i5.2.2 default)≤o.sign))
 (.fin (.inr (au (i5.2.1+1))))
 (.fin (.inr i5.2.1)))
 (fun (b6:Int)=>⟨[(17,iv b6)],[]⟩) fun b6 =>
 .br ((decide ((ak.getD i5.2.2 default)≤o.sign))&&(decide ((ak.getD i5.2.2 default)≥x1)))
 (.nx 19 76 i5.2.2 (au (i5.1+1),b6,i5.2.2+1))
 (.nx 19 76 i5.2.2 (i5.1,b6,i5.2.2+1)))
 (.fin (.inl (.inr (i5.1,i5.2.1)))))
 (fun (b4:Int × Int)=>⟨[(16,iv b4.1),(17,iv b4.2)],[]⟩) fun b4 =>
 .r 20 ((aC ak x1).c) fun x7 =>
 .bind false (fun _=>True)
 (.br (!x7)
 (.fin (.inr b4.2))
 (.fin (.inr b4.1)))
 (fun (b8:Int)=>⟨[(16,iv b8)],[]⟩) fun b8 =>
 .r 22 (.dep ((re c_.r c_.forum c_.view.all x1 c_.view.day).c) fun x9=>(rb x2 x9.all).c) fun GF =>
 .fin (GF.2,b8)))
def bJ c_ o sign ak kY:=(im c_ o sign ak kY).val
theorem Dw (c_:fZ) (o:nT) (sign:Int) (ak:List Int) (kY:List c9) (he:kY.length=c_.view.now.ae.length) (hs:0≤sign∧sign < (c_.view.now.ae.length:Int)) (hc:c_.view.now=aj c_.view.all c_.view.day) (hF:bu c_.r c_.view.all) (ZD:c_.view.kO) (VU:c_.view.all.Small) (UX:c_.r.bD) (Sj:c_.r.Small):(im c_ o sign ak kY).a6 (fun _=>True):=by
 unfold im
 try simp only [re,rb,sL,iR,aC]
 exact nF
def qh c_ o sign ak kY:=kk tok mixed Tryz.func102 [av c_.cells,av o.cells,iv sign,lv bS ak,lv c9.cells kY] (fun x=>.fj [iv x.1,iv x.2]) true (im c_ o sign ak kY) (bJ c_ o sign ak kY) (fun (h:(kY.length=c_.view.now.ae.length)∧(0≤sign∧sign < (c_.view.now.ae.length:Int))∧(c_.view.now=aj c_.view.all c_.view.day)∧(bu c_.r c_.view.all)∧(c_.view.kO)∧(c_.view.all.Small)∧(c_.r.bD)∧(c_.r.Small))=>Dw c_ o sign ak kY h.1 h.2.1 h.2.2.1 h.2.2.2.1 h.2.2.2.2.1 h.2.2.2.2.2.1 h.2.2.2.2.2.2.1 h.2.2.2.2.2.2.2)
structure Kl where
 sum:Int
 nU:Int
 FB:Int
 exchange:Int
 Xd:Int
 rest:Int
 aE:Int
 deriving Inhabited
def Kl.cells (c:Kl):List D:=[dI c.sum,dI c.nU,dI c.FB,dI c.exchange,dI c.Xd,dI c.rest,dI c.aE]
def kh (r:ah) (forum:Int) (f:ai) (sign:Int) (day:Int):Sk (c9 × Bool) :=
 .r 1 ((pv r forum f day).c) fun x1 =>
 .br ((decide (sign < 0))||(decide (sign≥((x1.f.ae.length:Nat):Int))))
 (.fin (({ sign:=0,kind:=0,ke:=0,binds:=0,text:=0,sum:=0,nR:=false }:c9),false))
 (.r 4 ((fK x1 sign).c) fun x2 =>
 .fin (x2,true))
def Jn r forum f sign day:=(kh r forum f sign day).val
theorem Km (r:ah) (forum:Int) (f:ai) (sign:Int) (day:Int) (hP:f.pN∧f.Small):(kh r forum f sign day).cC (fun (x:c9 × Bool)=>0≤x.1.sum∧x.1.sum≤1099511627776):=by
 refine Sk.aP _ ?_
 unfold kh
 simp only [Sk.ct,Sk.aA,reduceCtorEq,ON,kk,kp,pv,fK,maxLen]
 intro x _ hx
 refine ⟨fun _=>⟨by decide,by decide⟩,fun hc y _ hy=>hy ⟨by rw [hx.1]; exact Yf hP.1 day,by rw [hx.1]; exact Aw hP.2 day,?_⟩⟩
 simp only [LN] at hc
 omega
theorem HJ (r:ah) (forum:Int) (f:ai) (sign:Int) (day:Int):(fun (x:c9 × Bool)=>(f.pN∧f.Small)→(0≤x.1.sum∧x.1.sum≤1099511627776)) (Jn r forum f sign day):=fun hP=>Sk.cI _ (Km r forum f sign day hP)
theorem NA (r:ah) (forum:Int) (f:ai) (sign:Int) (day:Int) (aV:f.Small) (bg:r.bD) (aO:r.Small):(kh r forum f sign day).a6 (fun _=>True):=by
 refine Sk.aG _ ?_
 unfold kh
 simp only [Sk.gL,Sk.aA,reduceCtorEq,ON,kk,kp,pv,fK,maxLen]
 refine ⟨⟨aV,bg,aO⟩,fun x _ hx hc=>?_⟩
 have hS:x.f.Small:=by rw [hx.1]; exact Aw aV day
 have hB:x.r.bD:=by rw [hx.2]; exact bg
 have hR:x.r.Small:=by rw [hx.2]; exact aO
 simp only [LN] at hc
 exact ⟨by omega,hS,hB,hR⟩
def wN r forum f sign day:=kk tok mixed Tryz.func131 [av r.cells,iv forum,av f.cells,iv sign,iv day] (fun x=>.fj [av x.1.cells,bv x.2]) true (kh r forum f sign day) (Jn r forum f sign day) (u3 (NA r forum f sign day)) (fun (x:c9 × Bool)=>(f.pN∧f.Small)→(0≤x.1.sum∧x.1.sum≤1099511627776)) (HJ r forum f sign day)
def oH (n:Int) (cK:Int):Sk (Bool) :=
 .fin ((decide (n≥0))&&(decide (n≤cK)))
def FC n cK:=(oH n cK).val
theorem zA (n:Int) (cK:Int):FC n cK=((decide (n≥0))&&(decide (n≤cK))):=rfl
theorem Kn (n:Int) (cK:Int):(oH n cK).a6 (fun _=>True):=by
 unfold oH
 exact od
def ki n cK:=kk tok mixed Tryz.func195 [iv n,iv cK] (fun x=>bv x) true (oH n cK) (FC n cK) (u0 (Kn n cK))
def T8:List Nat:=[0,1,2,2,3,3,3,3,4,4,4,4,4,4,4,4]++List.replicate 16 5++List.replicate 32 6++List.replicate 64 7++List.replicate 128 8
theorem agt:∀ k,k < 256→0 < k→1≤T8.getD k 0∧T8.getD k 0≤8∧2 ^ (T8.getD k 0 - 1)≤k∧k < 2 ^ (T8.getD k 0):=by decide +kernel
theorem aeK {x d:Int} {n t:Nat} (hd:d=2 ^ n) (h1:(2:Int) ^ (t - 1)≤x / d) (h2:x / d < 2 ^ t) (ht:1≤t):(2:Int) ^ (n+t - 1)≤x∧x < 2 ^ (n+t):=by
 subst hd
 have hp:(0:Int) < 2 ^ n:=Int.pow_pos (by omega)
 have e:=Int.mul_ediv_add_emod x (2 ^ n)
 have r0:=Int.emod_nonneg x (Int.ne_of_gt hp)
 have r1:=Int.emod_lt_of_pos x hp
 rw [show n+t - 1=n+(t - 1) by omega,Int.pow_add,Int.pow_add]
 constructor
 ·have:=Int.mul_le_mul_of_nonneg_left h1 (Int.le_of_lt hp)
  omega
 ·have:(2:Int) ^ n * (x / 2 ^ n+1)≤2 ^ n * 2 ^ t:=Int.mul_le_mul_of_nonneg_left (by omega) (Int.le_of_lt hp)
  rw [Int.mul_add] at this
  omega
theorem Yl (a:Int):a8 .u64 a 32=a / 4294967296:=G4 .u64 (b:=32) (by decide)
theorem adO (a:Int):a8 .u64 a 16=a / 65536:=G4 .u64 (b:=16) (by decide)
theorem agu (a:Int):a8 .u64 a 8=a / 256:=G4 .u64 (b:=8) (by decide)
theorem abw {x:Int} (h:0 < x) (h2:x < 256):1≤T8.getD x.toNat 0∧T8.getD x.toNat 0≤8∧(2:Int) ^ (T8.getD x.toNat 0 - 1)≤x∧x < 2 ^ (T8.getD x.toNat 0):=by
 obtain ⟨h3,h4,h5,h6⟩:=agt x.toNat (by omega) (by omega)
 refine ⟨h3,h4,?_,?_⟩
 ·have:((2 ^ (T8.getD x.toNat 0 - 1):Nat):Int)≤(x.toNat:Int):=by exact_mod_cast h5
  rw [Int.natCast_pow] at this
  have e:((2:Nat):Int)=2:=rfl
  rw [e] at this
  omega
 ·have:((x.toNat:Nat):Int) < ((2 ^ (T8.getD x.toNat 0):Nat):Int):=by exact_mod_cast h6
  rw [Int.natCast_pow] at this
  have e:((2:Nat):Int)=2:=rfl
  rw [e] at this
  omega
theorem abx:∀ k,k < 256→((⟨#[0,1,2,2,3,3,3,3,4,4,4,4,4,4,4,4,5,5,5,5,5,5,5,5,5,5,5,5,5,5,5,5,6,6,6,6,6,6,6,6,6,6,6,6,6,6,6,6,6,6,6,6,6,6,6,6,6,6,6,6,6,6,6,6,7,7,7,7,7,7,7,7,7,7,7,7,7,7,7,7,7,7,7,7,7,7,7,7,7,7,7,7,7,7,7,7,7,7,7,7,7,7,7,7,7,7,7,7,7,7,7,7,7,7,7,7,7,7,7,7,7,7,7,7,7,7,7,7,8,8,8,8,8,8,8,8,8,8,8,8,8,8,8,8,8,8,8,8,8,8,8,8,8,8,8,8,8,8,8,8,8,8,8,8,8,8,8,8,8,8,8,8,8,8,8,8,8,8,8,8,8,8,8,8,8,8,8,8,8,8,8,8,8,8,8,8,8,8,8,8,8,8,8,8,8,8,8,8,8,8,8,8,8,8,8,8,8,8,8,8,8,8,8,8,8,8,8,8,8,8,8,8,8,8,8,8,8,8,8,8,8,8,8,8,8,8,8,8,8,8,8,8,8,8,8,8]⟩:ByteArray).data.toList.getD k 0).toNat=T8.getD k 0:=by decide +kernel
theorem vR {x d:Int} {n t:Nat} (hd:d=2 ^ n) (h1:(2:Int) ^ (t - 1)≤x / d) (h2:x / d < 2 ^ t) (ht:1≤t) (ht8:t≤8) (hn:n≤56) {r:Int} (hr:r=(n+t:Nat)):1≤r∧r≤64∧2 ^ (r.toNat - 1)≤x∧x < 2 ^ r.toNat:=by
 subst hr
 have:=aeK hd h1 h2 ht
 rw [Int.toNat_natCast]
 exact ⟨by omega,by omega,this.1,this.2⟩
def lA (x_:Int):Sk (Int) :=
 .bind false (fun b1=>(0 < x_→0 < b1.1)∧0≤b1.1∧b1.1 < 4294967296∧((b1.2=0∧b1.1=x_)∨(b1.2=32∧b1.1=x_ / 4294967296)))
 (.br (decide (x_≥4294967296))
 (.r 2 (.p (0≤(32:Int))) fun _ =>
 .fin (.inr (a8 .u64 x_ 32,32)))
 (.fin (.inr (x_,0))))
 (fun (b1:Int × Int)=>⟨[(0,.d (.v (.int .u64 b1.1))),(2,iv b1.2)],[]⟩) fun b1 =>
 .bind false (fun b2=>(0 < x_→0 < b2.1)∧0≤b2.1∧b2.1 < 65536∧((b2.2=0∧b2.1=x_)∨(b2.2=16∧b2.1=x_ / 65536)∨(b2.2=32∧b2.1=x_ / 4294967296)∨(b2.2=48∧b2.1=x_ / 281474976710656)))
 (.br (decide (b1.1≥65536))
 (.r 5 (.p (0≤(16:Int))) fun _ =>
 .fin (.inr (a8 .u64 b1.1 16,au (b1.2+16))))
 (.fin (.inr (b1.1,b1.2))))
 (fun (b2:Int × Int)=>⟨[(0,.d (.v (.int .u64 b2.1))),(2,iv b2.2)],[]⟩) fun b2 =>
 .br (decide (b2.1≥256))
 (.r 8 (.p (0≤(8:Int))) fun _ =>
 .r 10 (.p (0≤(IntKind.u8.wrap (a8 .u64 b2.1 8))∧(IntKind.u8.wrap (a8 .u64 b2.1 8)) < (((⟨#[0,1,2,2,3,3,3,3,4,4,4,4,4,4,4,4,5,5,5,5,5,5,5,5,5,5,5,5,5,5,5,5,6,6,6,6,6,6,6,6,6,6,6,6,6,6,6,6,6,6,6,6,6,6,6,6,6,6,6,6,6,6,6,6,7,7,7,7,7,7,7,7,7,7,7,7,7,7,7,7,7,7,7,7,7,7,7,7,7,7,7,7,7,7,7,7,7,7,7,7,7,7,7,7,7,7,7,7,7,7,7,7,7,7,7,7,7,7,7,7,7,7,7,7,7,7,7,7,8,8,8,8,8,8,8,8,8,8,8,8,8,8,8,8,8,8,8,8,8,8,8,8,8,8,8,8,8,8,8,8,8,8,8,8,8,8,8,8,8,8,8,8,8,8,8,8,8,8,8,8,8,8,8,8,8,8,8,8,8,8,8,8,8,8,8,8,8,8,8,8,8,8,8,8,8,8,8,8,8,8,8,8,8,8,8,8,8,8,8,8,8,8,8,8,8,8,8,8,8,8,8,8,8,8,8,8,8,8,8,8,8,8,8,8,8,8,8,8,8,8,8,8,8,8,8,8]⟩:ByteArray).size:Nat):Int))) fun _ =>
 .fin (au ((au (b2.2+8))+(au ((((⟨#[0,1,2,2,3,3,3,3,4,4,4,4,4,4,4,4,5,5,5,5,5,5,5,5,5,5,5,5,5,5,5,5,6,6,6,6,6,6,6,6,6,6,6,6,6,6,6,6,6,6,6,6,6,6,6,6,6,6,6,6,6,6,6,6,7,7,7,7,7,7,7,7,7,7,7,7,7,7,7,7,7,7,7,7,7,7,7,7,7,7,7,7,7,7,7,7,7,7,7,7,7,7,7,7,7,7,7,7,7,7,7,7,7,7,7,7,7,7,7,7,7,7,7,7,7,7,7,7,8,8,8,8,8,8,8,8,8,8,8,8,8,8,8,8,8,8,8,8,8,8,8,8,8,8,8,8,8,8,8,8,8,8,8,8,8,8,8,8,8,8,8,8,8,8,8,8,8,8,8,8,8,8,8,8,8,8,8,8,8,8,8,8,8,8,8,8,8,8,8,8,8,8,8,8,8,8,8,8,8,8,8,8,8,8,8,8,8,8,8,8,8,8,8,8,8,8,8,8,8,8,8,8,8,8,8,8,8,8,8,8,8,8,8,8,8,8,8,8,8,8,8,8,8,8,8,8]⟩:ByteArray).data.toList.getD ((IntKind.u8.wrap (a8 .u64 b2.1 8)).toNat) 0).toNat:Int))))))
 (.r 10 (.p (0≤(IntKind.u8.wrap (b2.1))∧(IntKind.u8.wrap (b2.1)) < (((⟨#[0,1,2,2,3,3,3,3,4,4,4,4,4,4,4,4,5,5,5,5,5,5,5,5,5,5,5,5,5,5,5,5,6,6,6,6,6,6,6,6,6,6,6,6,6,6,6,6,6,6,6,6,6,6,6,6,6,6,6,6,6,6,6,6,7,7,7,7,7,7,7,7,7,7,7,7,7,7,7,7,7,7,7,7,7,7,7,7,7,7,7,7,7,7,7,7,7,7,7,7,7,7,7,7,7,7,7,7,7,7,7,7,7,7,7,7,7,7,7,7,7,7,7,7,7,7,7,7,8,8,8,8,8,8,8,8,8,8,8,8,8,8,8,8,8,8,8,8,8,8,8,8,8,8,8,8,8,8,8,8,8,8,8,8,8,8,8,8,8,8,8,8,8,8,8,8,8,8,8,8,8,8,8,8,8,8,8,8,8,8,8,8,8,8,8,8,8,8,8,8,8,8,8,8,8,8,8,8,8,8,8,8,8,8,8,8,8,8,8,8,8,8,8,8,8,8,8,8,8,8,8,8,8,8,8,8,8,8,8,8,8,8,8,8,8,8,8,8,8,8,8,8,8,8,8,8]⟩:ByteArray).size:Nat):Int))) fun _ =>
 .fin (au (b2.2+(au ((((⟨#[0,1,2,2,3,3,3,3,4,4,4,4,4,4,4,4,5,5,5,5,5,5,5,5,5,5,5,5,5,5,5,5,6,6,6,6,6,6,6,6,6,6,6,6,6,6,6,6,6,6,6,6,6,6,6,6,6,6,6,6,6,6,6,6,7,7,7,7,7,7,7,7,7,7,7,7,7,7,7,7,7,7,7,7,7,7,7,7,7,7,7,7,7,7,7,7,7,7,7,7,7,7,7,7,7,7,7,7,7,7,7,7,7,7,7,7,7,7,7,7,7,7,7,7,7,7,7,7,8,8,8,8,8,8,8,8,8,8,8,8,8,8,8,8,8,8,8,8,8,8,8,8,8,8,8,8,8,8,8,8,8,8,8,8,8,8,8,8,8,8,8,8,8,8,8,8,8,8,8,8,8,8,8,8,8,8,8,8,8,8,8,8,8,8,8,8,8,8,8,8,8,8,8,8,8,8,8,8,8,8,8,8,8,8,8,8,8,8,8,8,8,8,8,8,8,8,8,8,8,8,8,8,8,8,8,8,8,8,8,8,8,8,8,8,8,8,8,8,8,8,8,8,8,8,8,8]⟩:ByteArray).data.toList.getD ((IntKind.u8.wrap (b2.1)).toNat) 0).toNat:Int))))))
def bits_Len64 x_:=(lA x_).val
theorem NB (x_:Int) (hP:0 < x_∧x_ < 18446744073709551616):(lA x_).cC (fun (x:Int)=>1≤x∧x≤64∧2 ^ (x.toNat - 1)≤x_∧x_ < 2 ^ x.toNat):=by
 refine Sk.aP _ ?_
 unfold lA
 simp only [Sk.ct,Sk.aA,reduceCtorEq,ON,kk,kp,maxLen]
 simp only [Yl,adO,agu,ar (n:=(32:Int)) (by decide) (by decide)] at *
 refine ⟨⟨fun hc _=>?_,fun hc=>?_⟩,fun b _ hb=>⟨⟨fun hc _=>?_,fun hc=>?_⟩,fun d _ hd=>⟨fun hc _ _=>?_,fun hc _=>?_⟩⟩⟩
 all_goals simp only [LN] at hc
 ·(try simp only [true_or,or_true,and_true,true_and]); omega
 ·(try simp only [true_or,or_true,and_true,true_and]); omega
 ·have e:au (b.2+16)=b.2+16:=ar (by omega) (by omega)
  rw [e]
  omega
 ·omega
 ·rw [QG,Int.emod_eq_of_lt (by omega) (by omega),abx _ (by omega)]
  have ht:=abw (x:=d.1 / 256) (by omega) (by omega)
  rw [ar (n:=d.2+8) (by omega) (by omega),ar (n:=((T8.getD (d.1 / 256).toNat 0:Nat):Int)) (by omega) (by omega),ar (by omega) (by omega)]
  rcases hd.2.2.2 with ⟨h1,h2⟩ | ⟨h1,h2⟩ | ⟨h1,h2⟩ | ⟨h1,h2⟩
  ·exact vR (n:=8) (d:=256) (t:=T8.getD (d.1 / 256).toNat 0) (by decide) (by rw [← h2]; exact ht.2.2.1) (by rw [← h2]; exact ht.2.2.2) ht.1 ht.2.1 (by omega) (by omega)
  ·exact vR (n:=24) (d:=16777216) (t:=T8.getD (d.1 / 256).toNat 0) (by decide) (by rw [show x_ / 16777216=d.1 / 256 by omega]; exact ht.2.2.1) (by rw [show x_ / 16777216=d.1 / 256 by omega]; exact ht.2.2.2) ht.1 ht.2.1 (by omega) (by omega)
  ·exact vR (n:=40) (d:=1099511627776) (t:=T8.getD (d.1 / 256).toNat 0) (by decide) (by rw [show x_ / 1099511627776=d.1 / 256 by omega]; exact ht.2.2.1) (by rw [show x_ / 1099511627776=d.1 / 256 by omega]; exact ht.2.2.2) ht.1 ht.2.1 (by omega) (by omega)
  ·exact vR (n:=56) (d:=72057594037927936) (t:=T8.getD (d.1 / 256).toNat 0) (by decide) (by rw [show x_ / 72057594037927936=d.1 / 256 by omega]; exact ht.2.2.1) (by rw [show x_ / 72057594037927936=d.1 / 256 by omega]; exact ht.2.2.2) ht.1 ht.2.1 (by omega) (by omega)
 ·rw [QG,Int.emod_eq_of_lt (by omega) (by omega),abx _ (by omega)]
  have ht:=abw (x:=d.1) (by omega) (by omega)
  rw [ar (n:=((T8.getD d.1.toNat 0:Nat):Int)) (by omega) (by omega),ar (by omega) (by omega)]
  rcases hd.2.2.2 with ⟨h1,h2⟩ | ⟨h1,h2⟩ | ⟨h1,h2⟩ | ⟨h1,h2⟩
  ·exact vR (n:=0) (d:=1) (t:=T8.getD d.1.toNat 0) (by decide) (by rw [show x_ / 1=d.1 by omega]; exact ht.2.2.1) (by rw [show x_ / 1=d.1 by omega]; exact ht.2.2.2) ht.1 ht.2.1 (by omega) (by omega)
  ·exact vR (n:=16) (d:=65536) (t:=T8.getD d.1.toNat 0) (by decide) (by rw [← h2]; exact ht.2.2.1) (by rw [← h2]; exact ht.2.2.2) ht.1 ht.2.1 (by omega) (by omega)
  ·exact vR (n:=32) (d:=4294967296) (t:=T8.getD d.1.toNat 0) (by decide) (by rw [← h2]; exact ht.2.2.1) (by rw [← h2]; exact ht.2.2.2) ht.1 ht.2.1 (by omega) (by omega)
  ·exact vR (n:=48) (d:=281474976710656) (t:=T8.getD d.1.toNat 0) (by decide) (by rw [← h2]; exact ht.2.2.1) (by rw [← h2]; exact ht.2.2.2) ht.1 ht.2.1 (by omega) (by omega)
theorem Ko (x_:Int):(fun (x:Int)=>(0 < x_∧x_ < 18446744073709551616)→(1≤x∧x≤64∧2 ^ (x.toNat - 1)≤x_∧x_ < 2 ^ x.toNat)) (bits_Len64 x_):=fun hP=>Sk.cI _ (NB x_ hP)
theorem PO (x_:Int) (hx:0≤x_∧x_ < 18446744073709551616):(lA x_).a6 (fun _=>True):=by
 refine Sk.aG _ ?_
 unfold lA
 simp only [Sk.gL,Sk.aA,reduceCtorEq,ON,kk,kp,maxLen]
 simp only [Yl,adO,agu,ar (n:=(32:Int)) (by decide) (by decide)] at *
 refine ⟨⟨fun hc=>⟨by decide,fun _=>?_⟩,fun hc=>?_⟩,fun b _ hb=>⟨⟨fun hc=>⟨by decide,fun _=>?_⟩,fun hc=>?_⟩,fun d _ hd=>⟨fun hc=>⟨by decide,fun _=>⟨?_,?_⟩⟩,fun hc=>⟨?_,?_⟩⟩⟩⟩
 all_goals simp only [LN] at hc
 ·(try simp only [true_or,or_true,and_true,true_and]); omega
 ·(try simp only [true_or,or_true,and_true,true_and]); omega
 ·have e:au (b.2+16)=b.2+16:=ar (by omega) (by omega)
  rw [e]
  omega
 ·omega
 ·rw [QG]; omega
 ·rw [QG,Int.emod_eq_of_lt (by omega) (by omega)]; exact (show _ < ((256:Nat):Int) by omega)
 ·rw [QG]; omega
 ·rw [QG,Int.emod_eq_of_lt (by omega) (by omega)]; exact (show _ < ((256:Nat):Int) by omega)
def yM x_:=kk tok mixed Tryz.func223 [.d (.v (.int .u64 x_))] (fun x=>iv x) true (lA x_) (bits_Len64 x_) (PO x_) (fun (x:Int)=>(0 < x_∧x_ < 18446744073709551616)→(1≤x∧x≤64∧2 ^ (x.toNat - 1)≤x_∧x_ < 2 ^ x.toNat)) (Ko x_)
def dr (x_:Int):Sk (Int) :=
 .r 1 ((yM x_).c) fun x1 =>
 .fin (au ((64:Int) - x1))
def s6 x_:=(dr x_).val
theorem xO (x_:Int) (hP:0 < x_∧x_ < 18446744073709551616):(dr x_).cC (fun (x:Int)=>0≤x∧x≤63∧9223372036854775808≤x_ * 2 ^ x.toNat∧x_ * 2 ^ x.toNat < 18446744073709551616):=by
 refine Sk.aP _ ?_
 unfold dr
 simp only [Sk.ct,Sk.aA,reduceCtorEq,ON,kk,kp,yM,maxLen]
 intro x _ h
 obtain ⟨h1,h2,h3,h4⟩:=h hP
 rw [ar (by omega) (by omega)]
 have e1:x.toNat - 1+(64 - x).toNat=63:=by omega
 have e2:x.toNat+(64 - x).toNat=64:=by omega
 have p:(0:Int) < 2 ^ (64 - x).toNat:=Int.pow_pos (by omega)
 have q1:=Int.mul_le_mul_of_nonneg_right h3 (Int.le_of_lt p)
 have q2:=Int.mul_lt_mul_of_pos_right h4 p
 rw [← Int.pow_add,e1] at q1
 rw [← Int.pow_add,e2] at q2
 refine ⟨by omega,by omega,?_,?_⟩
 ·exact q1
 ·exact q2
theorem wO (x_:Int):(fun (x:Int)=>(0 < x_∧x_ < 18446744073709551616)→(0≤x∧x≤63∧9223372036854775808≤x_ * 2 ^ x.toNat∧x_ * 2 ^ x.toNat < 18446744073709551616)) (s6 x_):=fun hP=>Sk.cI _ (xO x_ hP)
theorem yN (x_:Int) (hx:0≤x_∧x_ < 18446744073709551616):(dr x_).a6 (fun _=>True):=by
 unfold dr
 try simp only [yM]
 exact nF
def lN x_:=kk tok mixed Tryz.func228 [.d (.v (.int .u64 x_))] (fun x=>iv x) true (dr x_) (s6 x_) (yN x_) (fun (x:Int)=>(0 < x_∧x_ < 18446744073709551616)→(0≤x∧x≤63∧9223372036854775808≤x_ * 2 ^ x.toNat∧x_ * 2 ^ x.toNat < 18446744073709551616)) (wO x_)
end
end Go.Proofs.YtkbkoaoolojhaaaGreatDoor
