/- Functions, as sketches. -/
import Derived.Test.YtkbkoaoolojhaaaGreatDoorLi
namespace Go.Proofs.YtkbkoaoolojhaaaGreatDoor
noncomputable section
open Go Go.Av
set_option linter.unusedSimpArgs false
set_option linter.unusedVariables false
set_option maxHeartbeats 1000000
set_option maxRecDepth 100000
inductive GA:List Fact→List Fact→Prop
 | nil:GA [] []
 | skip {r x:List Fact} (y:Fact):GA r x→GA (y :: r) x
 | take {r x:List Fact} (y:Fact) (b:Int):GA r x→(b=0∨b=1)→GA (y :: r) ({ y with n:=b } :: x)
theorem GB {s n k:Nat} (h:s < 2 ^ n):(s+2 ^ n).testBit k=if k=n then true else s.testBit k:=by
 rw [Nat.add_comm]
 by_cases e:k=n
 ·subst e
  rw [if_pos rfl,Nat.testBit_two_pow_add_eq,Nat.testBit_lt_two_pow h]
  rfl
 ·rw [if_neg e]
  by_cases hl:k < n
  ·rw [Nat.testBit_two_pow_add_gt hl]
  ·rw [Nat.testBit_lt_two_pow (Nat.lt_of_lt_of_le h (Nat.pow_le_pow_right (by omega) (by omega)))]
   refine Nat.testBit_lt_two_pow ?_
   have:=Nat.pow_le_pow_right (show 0 < 2 by omega) (show n+1≤k by omega)
   rw [Nat.pow_succ] at this
   omega
theorem IU {s s':Nat}:∀ n,(∀ k,k < n→s.testBit k=s'.testBit k)→pb s n=pb s' n
 | 0,_=>rfl
 | n+1,h=>by rw [pb,pb,IU n (fun k hk=>h k (by omega)),h n (by omega)]
theorem Rl {s s' v v':Nat}:∀ l:List Fact,(∀ k,k < l.length→s.testBit k=s'.testBit k)→(∀ k,k < pb s l.length→v.testBit k=v'.testBit k)→tC l s v=tC l s' v'
 | [],_,_=>rfl
 | x :: r,h,hv=>by
  have h1:pb s r.length=pb s' r.length:=IU _ fun k hk=>h k (by rw [List.length_cons]; omega)
  have h2:s.testBit r.length=s'.testBit r.length:=h _ (by rw [List.length_cons]; omega)
  have h3:tC r s v=tC r s' v':=Rl r (fun k hk=>h k (by rw [List.length_cons]; omega)) (fun k hk=>hv k (by rw [List.length_cons,pb]; omega))
  rw [tC,tC,h3,← h2,← h1]
  cases hb:s.testBit r.length with
  | false=>rfl
  | true=>rw [hv (pb s r.length) (by rw [List.length_cons,pb,hb]; simp)]
theorem GA.Xz {l x:List Fact} (h:GA l x):∃ s v:Nat,s < 2 ^ l.length∧v < 2 ^ pb s l.length∧tC l s v=x:=by
 induction h with
 | nil=>exact ⟨0,0,by decide,by decide,rfl⟩
 | @skip r x y _ ih =>
  obtain ⟨s,v,h1,h2,h3⟩:=ih
  have hb:s.testBit r.length=false:=Nat.testBit_lt_two_pow h1
  refine ⟨s,v,by rw [List.length_cons,Nat.pow_succ]; omega,by rw [List.length_cons,pb,hb]; exact h2,?_⟩
  rw [tC,hb]
  exact h3
 | @take r x y b _ hb ih =>
  obtain ⟨s,v,h1,h2,h3⟩:=ih
  have hp:pb (s+2 ^ r.length) r.length=pb s r.length:=IU _ fun k hk=>by rw [GB h1,if_neg (by omega)]
  have ht:(s+2 ^ r.length).testBit r.length=true:=by rw [GB h1,if_pos rfl]
  have hq:pb (s+2 ^ r.length) (r.length+1)=pb s r.length+1:=by rw [pb,hp,ht]; rfl
  refine ⟨s+2 ^ r.length,if b=1 then v+2 ^ pb s r.length else v,by rw [List.length_cons,Nat.pow_succ]; omega,?_,?_⟩
  ·rw [List.length_cons,hq,Nat.pow_succ]
   have hz:∀ P:Nat,v < P→(if b=1 then v+P else v) < P * 2:=fun P hP=>by split <;> omega
   exact hz _ h2
  ·have hc:tC r (s+2 ^ r.length) (if b=1 then v+2 ^ pb s r.length else v)=x:=by
    rw [← h3]
    refine Rl r (fun k hk=>by rw [GB h1,if_neg (by omega)]) (fun k hk=>?_)
    rw [hp] at hk
    split
    ·rw [GB h2,if_neg (by omega)]
    ·rfl
   rw [tC,if_pos ht,hc,hp]
   congr 1
   rcases hb with rfl | rfl
   ·have e:(if (0:Int)=1 then v+2 ^ pb s r.length else v)=v:=if_neg (by decide)
    rw [e,Nat.testBit_lt_two_pow h2]; rfl
   ·have e:(if (1:Int)=1 then v+2 ^ pb s r.length else v)=v+2 ^ pb s r.length:=if_pos rfl
    rw [e,GB h2,if_pos rfl]; rfl
def pD (l:List Fact) (n:Int):Sk ((List Fact)) :=
 .bind true (fun b1=>GA l b1)
 (.loop (default:Sum ((List Fact)) ((List Fact))) (fun i2=>-1≤i2.2.2∧i2.2.2 < (l.length:Int)∧GA (l.drop (i2.2.2+1).toNat) i2.2.1∧i2.2.1.length≤l.length - (i2.2.2+1).toNat) (fun i2=>(i2.2.2+1).toNat) ((n,[],au (((l.length:Nat):Int) - 1)):Int × (List Fact) × Int)
 (fun (i2:Int × (List Fact) × Int)=>⟨[(1,iv i2.1),(5,ow 100002 i2.2.1),(6,iv i2.2.2)],[(100002,aU 37 3 Fact.cells i2.2.1)]⟩) fun i2 =>
 .br (decide (i2.2.2≥0))
 (.r 5 (.p ((3:Int)≠0)) fun _ =>
 .br (decide ((i2.1.tmod 3) > 0))
 (.r 6 (.p (bN i2.2.2 l.length)) fun _ =>
 .r 7 (.p ((3:Int)≠0)) fun _ =>
 .r 8 (.al (.o [.dn (dH Fact.E [{ l.getD i2.2.2.toNat default with n:=au ((i2.1.tmod 3) - 1) }])]) (.al (.o [.dn (kE Fact.E [{ l.getD i2.2.2.toNat default with n:=au ((i2.1.tmod 3) - 1) }] i2.2.1)]) (.al (.t (Fact.E.mT i2.2.1)) (.p (vE ([{ l.getD i2.2.2.toNat default with n:=au ((i2.1.tmod 3) - 1) }].length) i2.2.1.length 24))))) fun _ =>
 .r 9 (.p ((3:Int)≠0)) fun _ =>
 .fin (.inr (au (i2.1.tdiv 3),[{ l.getD i2.2.2.toNat default with n:=au ((i2.1.tmod 3) - 1) }]++i2.2.1,au (i2.2.2 - 1))))
 (.r 9 (.p ((3:Int)≠0)) fun _ =>
 .fin (.inr (au (i2.1.tdiv 3),i2.2.1,au (i2.2.2 - 1)))))
 (.fin (.inl (.inr i2.2.1))))
 (fun (b1:(List Fact))=>⟨[(5,ow 100001 b1)],[(100001,aU 37 3 Fact.cells b1)]⟩) fun b1 =>
 .fin b1
def VK l n:=(pD l n).val
theorem S9 (l:List Fact) (n:Int) (hP:l.length≤1000000):(pD l n).cC (fun (x:(List Fact))=>GA l x):=by
 refine Sk.aP _ ?_
 unfold pD
 simp only [Sk.ct,Sk.aA,reduceCtorEq,ON,kk,kp,maxLen]
 have hl:l.length≤1000000:=hP
 have e0:au ((l.length:Int) - 1)=(l.length:Int) - 1:=ar (by omega) (by omega)
 rw [e0]
 refine ⟨⟨⟨by omega,by omega,?_,by simp⟩,fun i hi=>⟨fun hc=>?_,fun hc=>?_⟩⟩,fun b hb=>hb⟩
 ·rw [show ((l.length:Int) - 1+1).toNat=l.length by omega,List.drop_length]; exact .nil
 ·simp only [LN] at hc
  have e1:au (i.2.2 - 1)=i.2.2 - 1:=ar (by omega) (by omega)
  have dK:i.2.2.toNat < l.length:=by omega
  have hd:l.drop i.2.2.toNat=l.getD i.2.2.toNat default :: l.drop (i.2.2+1).toNat:=by
   rw [List.drop_eq_getElem_cons dK,show (i.2.2+1).toNat=i.2.2.toNat+1 by omega,show l[i.2.2.toNat]=l.getD i.2.2.toNat default by simp [List.getD,dK]]
  rw [e1,show (i.2.2 - 1+1).toNat=i.2.2.toNat by omega,hd]
  refine fun _=>⟨fun hq _ _ _ _=>⟨⟨by omega,by omega,?_,by simp only [List.length_append,List.length_cons,List.length_nil]; omega⟩,by omega⟩,fun _ _=>⟨⟨by omega,by omega,.skip _ hi.2.2.1,by omega⟩,by omega⟩⟩
  have h3:=Int.tmod_lt_of_pos i.1 (show (0:Int) < 3 by omega)
  have hq:0 < i.1.tmod 3:=by simpa using hq
  rw [ar (by omega) (by omega)]
  exact .take _ _ hi.2.2.1 (by omega)
 ·simp only [LN] at hc
  have:=hi.2.2.1
  rwa [show (i.2.2+1).toNat=0 by omega,List.drop_zero] at this
theorem Qh (l:List Fact) (n:Int):(fun (x:(List Fact))=>(l.length≤1000000)→(GA l x)) (VK l n):=fun hP=>Sk.cI _ (S9 l n hP)
theorem VL (l:List Fact) (n:Int) (hl:l.length≤1000000):(pD l n).a6 (fun _=>True):=by
 refine Sk.aG _ ?_
 unfold pD
 simp only [Sk.gL,Sk.aA,reduceCtorEq,ON,kk,kp,maxLen]
 have e0:au ((l.length:Int) - 1)=(l.length:Int) - 1:=ar (by omega) (by omega)
 rw [e0]
 refine ⟨⟨by omega,by omega,?_,by simp⟩,fun i hi=>⟨fun hc=>?_,fun hc=>?_⟩⟩
 ·rw [show ((l.length:Int) - 1+1).toNat=l.length by omega,List.drop_length]; exact .nil
 ·simp only [LN] at hc
  have e1:au (i.2.2 - 1)=i.2.2 - 1:=ar (by omega) (by omega)
  have dK:i.2.2.toNat < l.length:=by omega
  have hd:l.drop i.2.2.toNat=l.getD i.2.2.toNat default :: l.drop (i.2.2+1).toNat:=by
   rw [List.drop_eq_getElem_cons dK,show (i.2.2+1).toNat=i.2.2.toNat+1 by omega,show l[i.2.2.toNat]=l.getD i.2.2.toNat default by simp [List.getD,dK]]
  rw [e1,show (i.2.2 - 1+1).toNat=i.2.2.toNat by omega,hd]
  refine ⟨by omega,fun _=>⟨fun hq=>⟨by omega,fun _=>⟨by omega,fun _=>⟨by simp only [List.length_cons,List.length_nil]; omega,fun _=>⟨by omega,fun _=>⟨⟨by omega,by omega,?_,by simp only [List.length_append,List.length_cons,List.length_nil]; omega⟩,by omega⟩⟩⟩⟩⟩,fun _=>⟨by omega,fun _=>⟨⟨by omega,by omega,.skip _ hi.2.2.1,by omega⟩,by omega⟩⟩⟩⟩
  have h3:=Int.tmod_lt_of_pos i.1 (show (0:Int) < 3 by omega)
  have hq:0 < i.1.tmod 3:=by simpa using hq
  rw [ar (by omega) (by omega)]
  exact .take _ _ hi.2.2.1 (by omega)
 ·simp only [LN] at hc
  have:=hi.2.2.1
  rwa [show (i.2.2+1).toNat=0 by omega,List.drop_zero] at this
def DS l n:=kk tok mixed Tryz.func18 [lv Fact.cells l,iv n] (fun x=>lv Fact.cells x) false (pD l n) (VK l n) (VL l n) (fun (x:(List Fact))=>(l.length≤1000000)→(GA l x)) (Qh l n)
theorem OU {α:Type} [Inhabited α] {l:List α} {i:Nat} (h:i < l.length) (p:α→Bool):(l.drop i).any p=(p (l.getD i default)||(l.drop (i+1)).any p):=by
 rw [List.drop_eq_getElem_cons h,List.any_cons,show l[i]=l.getD i default by simp [List.getD,h]]
theorem OV {α:Type} [Inhabited α] {l:List α} {i:Nat} (h:i < l.length) (p:α→Bool):(l.drop i).all p=(p (l.getD i default)&&(l.drop (i+1)).all p):=by
 rw [List.drop_eq_getElem_cons h,List.all_cons,show l[i]=l.getD i default by simp [List.getD,h]]
theorem OW (y x:Fact):(ch y == ch x)=((y.kind == x.kind)&&(y.at_ == x.at_)):=by
 rw [Bool.eq_iff_iff,beq_iff_eq,Bool.and_eq_true,beq_iff_eq,beq_iff_eq]
 unfold ch
 rw [Prod.mk.injEq]
 exact ⟨fun h=>⟨h.2,h.1⟩,fun h=>⟨h.2,h.1⟩⟩
def vh (l:List Fact) (x_:Fact):Sk (Bool) :=
 .bind true (fun b1=>l.any (fun y=>ch y == ch x_)=false)
 (.loop (default:Sum (Bool) (Unit)) (fun i2=>i2≤l.length∧l.any (fun y=>ch y == ch x_)=(l.drop i2).any (fun y=>ch y == ch x_)) (fun i2=>l.length - i2) (0:Nat)
 (fun (i2:Nat)=>⟨[(5,iv (i2:Int))],[]⟩) fun i2 =>
 .lt 0 0 i2 l.length
 (.r 4 (.al (.p (bN (i2:Int) l.length)) (.wh (((l.getD i2 default).kind) == x_.kind) true (.p (bN (i2:Int) l.length)))) fun _ =>
 .br ((((l.getD i2 default).kind) == x_.kind)&&(((l.getD i2 default).at_) == x_.at_))
 (.fin (.inl (.inl true)))
 (.nx 3 5 i2 (i2+1)))
 (.fin (.inl (.inr ()))))
 (fun (_:Unit)=>⟨[],[]⟩) fun _ =>
 .fin false
def adm l x_:=(vh l x_).val
theorem VM (l:List Fact) (x_:Fact):(vh l x_).cC (fun (x:Bool)=>x=l.any (fun y=>ch y == ch x_)):=by
 refine Sk.aP _ ?_
 unfold vh
 simp only [Sk.ct,Sk.aA,reduceCtorEq,ON,kk,kp,maxLen]
 refine ⟨⟨⟨Nat.zero_le _,rfl⟩,fun i hi=>⟨fun hc _=>⟨fun h=>?_,fun h _=>⟨⟨?_,?_⟩,?_⟩⟩,fun hc=>?_⟩⟩,fun _ hb=>hb.symm⟩
 all_goals simp only [LN] at hc
 ·rw [hi.2,OU (by omega),OW,h]; rfl
 ·omega
 ·rw [hi.2,OU (by omega),OW,h]; rfl
 ·omega
 ·rw [hi.2,show i=l.length by omega,List.drop_length]; rfl
theorem XC (l:List Fact) (x_:Fact):(vh l x_).a6 (fun _=>True):=by
 refine Sk.aG _ ?_
 unfold vh
 simp only [Sk.gL,Sk.aA,reduceCtorEq,ON,kk,kp,maxLen]
 refine ⟨⟨Nat.zero_le _,rfl⟩,fun i hi hm=>⟨fun hc=>⟨?_,fun _ h _=>⟨?_,⟨?_,?_⟩,?_⟩⟩,fun hc=>?_⟩⟩
 all_goals simp only [LN] at hc
 ·omega
 ·exact (ar (by omega) (by omega)).trans (by omega)
 ·omega
 ·rw [hi.2,OU (by omega),OW,h]; rfl
 ·omega
 ·rw [hi.2,show i=l.length by omega,List.drop_length]; rfl
def IV l x_:=kp tok mixed Tryz.func44 [lv Fact.cells l,av x_.cells] (fun x=>bv x) true (adm l x_) (u0 (XC l x_)) (VM l x_)
def lx (l:List Fact) (other:List Fact):Sk (Bool) :=
 .bind true (fun b1=>other.all (fun z=>l.any (fun y=>ch y == ch z))=true)
 (.loop (default:Sum (Bool) (Unit)) (fun i2=>i2≤other.length∧other.all (fun z=>l.any (fun y=>ch y == ch z))=(other.drop i2).all (fun z=>l.any (fun y=>ch y == ch z))) (fun i2=>other.length - i2) (0:Nat)
 (fun (i2:Nat)=>⟨[(5,iv (i2:Int))],[]⟩) fun i2 =>
 .lt 1 0 i2 other.length
 (.r 4 (.al (.p (bN (i2:Int) other.length)) ((IV l (other.getD i2 default)).c)) fun x3 =>
 .br (!x3)
 (.fin (.inl (.inl false)))
 (.nx 3 5 i2 (i2+1)))
 (.fin (.inl (.inr ()))))
 (fun (_:Unit)=>⟨[],[]⟩) fun _ =>
 .fin true
def tI l other:=(lx l other).val
theorem yg (l:List Fact) (other:List Fact):(lx l other).cC (fun (x:Bool)=>x=other.all (fun z=>l.any (fun y=>ch y == ch z))):=by
 refine Sk.aP _ ?_
 unfold lx
 simp only [Sk.ct,Sk.aA,reduceCtorEq,ON,kk,kp,IV,maxLen]
 refine ⟨⟨⟨Nat.zero_le _,rfl⟩,fun i hi=>⟨fun hc x _ hx=>⟨fun h=>?_,fun h _=>⟨⟨?_,?_⟩,?_⟩⟩,fun hc=>?_⟩⟩,fun _ hb=>hb.symm⟩
 all_goals simp only [LN] at hc
 ·rw [hi.2,OV (by omega),← hx,show x=false by simpa using h]; rfl
 ·omega
 ·rw [hi.2,OV (by omega),← hx,show x=true by simpa using h]; rfl
 ·omega
 ·rw [hi.2,show i=other.length by omega,List.drop_length]; rfl
theorem FX (l:List Fact) (other:List Fact):(fun (x:Bool)=>x=other.all (fun z=>l.any (fun y=>ch y == ch z))) (tI l other):=have h:=Sk.cI _ (yg l other); h
theorem Lm (l:List Fact) (other:List Fact):(lx l other).a6 (fun _=>True):=by
 refine Sk.aG _ ?_
 unfold lx
 simp only [Sk.gL,Sk.aA,reduceCtorEq,ON,kk,kp,IV,maxLen]
 refine ⟨⟨Nat.zero_le _,rfl⟩,fun i hi hm=>⟨fun hc=>⟨?_,fun x _ hx h _=>⟨?_,⟨?_,?_⟩,?_⟩⟩,fun hc=>?_⟩⟩
 all_goals simp only [LN] at hc
 ·omega
 ·exact (ar (by omega) (by omega)).trans (by omega)
 ·omega
 ·rw [hi.2,OV (by omega),← hx,show x=true by simpa using h]; rfl
 ·omega
 ·rw [hi.2,show i=other.length by omega,List.drop_length]; rfl
def qy l other:=kp tok mixed Tryz.func19 [lv Fact.cells l,lv Fact.cells other] (fun x=>bv x) true (tI l other) (u0 (Lm l other)) (yg l other)
theorem ab7 {t s:Nat} (ht:t < 256) (hs:s < 256):aD .u64 (t:Int) (s:Int)=((t &&& s:Nat):Int):=by
 have h:t &&& s < 256:=Nat.lt_of_le_of_lt Nat.and_le_left ht
 have e:(BitVec.ofInt IntKind.u64.bits (t:Int) &&& BitVec.ofInt IntKind.u64.bits (s:Int)).toNat=t &&& s:=by
  have hb:IntKind.u64.bits=64:=rfl
  rw [hb,BitVec.ofInt_natCast,BitVec.ofInt_natCast,BitVec.toNat_and,BitVec.toNat_ofNat,BitVec.toNat_ofNat,Nat.mod_eq_of_lt (by omega),Nat.mod_eq_of_lt (by omega)]
 unfold aD
 rw [e,c6 (by omega) (by omega)]
theorem ab8 {t s:Nat} (ht:t < 256) (hs:s < 256):aD .u64 (t:Int) (s:Int)=(t:Int)↔∀ k,t.testBit k=true→s.testBit k=true:=by
 rw [ab7 ht hs]
 constructor
 ·intro h k hk
  have h:t &&& s=t:=by omega
  rw [← h,Nat.testBit_and] at hk
  simp only [Bool.and_eq_true] at hk
  exact hk.2
 ·intro h
  have:t &&& s=t:=Nat.eq_of_testBit_eq fun k=>by
   rw [Nat.testBit_and]
   cases hk:t.testBit k with
   | false=>rfl
   | true=>rw [h k hk]; rfl
  rw [this]
theorem Rm {t s:Int} (ht:0≤t∧t < 256) (hs:0≤s∧s < 256):aD .u64 t s=t↔∀ k,t.toNat.testBit k=true→s.toNat.testBit k=true:=by
 have:=ab8 (t:=t.toNat) (s:=s.toNat) (by omega) (by omega)
 rwa [show ((t.toNat:Nat):Int)=t by omega,show ((s.toNat:Nat):Int)=s by omega] at this
theorem YK {t s:Nat} (h:∀ k,t.testBit k=true→s.testBit k=true):∀ n,pb t n≤pb s n
 | 0=>Nat.le_refl _
 | n+1=>by
  have:=YK h n
  rw [pb,pb]
  cases hb:t.testBit n with
  | false=>simp only [Bool.false_eq_true,if_false]; split <;> omega
  | true=>rw [h n hb]; omega
def IW (l other:List Fact):Prop:=∀ k,k∈other.map ch→k∈l.map ch
theorem Rj {l other:List Fact}:(other.all fun z=>l.any fun y=>ch y == ch z)=true↔IW l other:=by
 unfold IW
 simp only [List.all_eq_true,List.any_eq_true,beq_iff_eq,List.mem_map]
 constructor
 ·rintro h k ⟨z,hz,rfl⟩
  exact h z hz
 ·exact fun h z hz=>h _ ⟨z,hz,rfl⟩
theorem XD {l:List Fact} {s t v w:Nat} (h:∀ k,t.testBit k=true→s.testBit k=true):IW (tC l s v) (tC l t w):=fun k hk=>by
 obtain ⟨i,hi,e,hb⟩:=SH hk
 rw [← e]
 exact SI hi (h _ hb)
theorem XE {l:List Fact} {s t v w:Nat} (hn:(l.map ch).Nodup) (hs:s < 2 ^ l.length) (h:IW (tC l t w) (tC l s v)):∀ k,s.testBit k=true→t.testBit k=true:=fun k hk=>by
 have Wa:k < l.length:=by
  apply Classical.byContradiction
  intro hh
  rw [Nat.testBit_lt_two_pow (Nat.lt_of_lt_of_le hs (Nat.pow_le_pow_right (by omega) (by omega)))] at hk
  cases hk
 have h1:=SI (v:=v) (show l.length - 1 - k < l.length by omega) (show s.testBit (l.length - 1 - (l.length - 1 - k))=true by rw [show l.length - 1 - (l.length - 1 - k)=k by omega]; exact hk)
 obtain ⟨i,hi,e,hb⟩:=SH (h _ h1)
 have:i=l.length - 1 - k:=by
  rw [List.Nodup,List.pairwise_iff_getElem] at hn
  have e1:∀ j (hj:j < l.length),ch (l.getD j default)=(l.map ch)[j]'(by simpa using hj):=fun j hj=>by simp [List.getD,hj]
  rw [e1 i hi,e1 _ (by omega)] at e
  rcases Nat.lt_trichotomy i (l.length - 1 - k) with hl | hl | hl
  ·exact absurd e (hn _ _ _ _ hl)
  ·exact hl
  ·exact absurd e.symm (hn _ _ _ _ hl)
 rw [this,show l.length - 1 - (l.length - 1 - k)=k by omega] at hb
 exact hb
structure nE (r:ah) (forum:Int) (f:ai) (day:Int) (c:Claim) (U:List Fact) (L:List (List Fact)) (F:List Int):Prop where
 found:fg (O0 r forum f day c U) (cF .u64 1 ((U.length:Nat):Int)) (fun _=>True) L F
 few:U.length≤8
 apart:qp f U
theorem nE.rng {r:ah} {forum:Int} {f:ai} {day:Int} {c:Claim} {U:List Fact} {L:List (List Fact)} {F:List Int} (h:nE r forum f day c U L F) {t:Int} (ht:t∈F):(0 < t∧t < 256)∧t.toNat < 2 ^ U.length∧cx t=((pb t.toNat U.length:Nat):Int):=by
 have h1:=h.found.2.1 t ht
 rw [BP _ h.few] at h1
 have h2:=yY h.few
 have h3:t.toNat < 2 ^ U.length:=by omega
 exact ⟨by omega,h3,Q3 (by omega) h3 h.few⟩
theorem nE.at_ {r:ah} {forum:Int} {f:ai} {day:Int} {c:Claim} {U:List Fact} {L:List (List Fact)} {F:List Int} (h:nE r forum f day c U L F) {i:Nat} (hi:i < L.length) :
  F.getD i default∈F∧(L.getD i default).length≠0∧(∃ v,L.getD i default=tC U (F.getD i default).toNat v)∧bH r forum (cP f (L.getD i default)) day c≠2:=by
 have hl:i < F.length:=by have:=h.found.1; rw [this,List.length_map] at hi; exact hi
 have hm:=gH hl default
 have e:L.getD i default=O0 r forum f day c U (F.getD i default):=by
  rw [h.found.1]
  simp [List.getD,hl]
 obtain ⟨h0,h1,-⟩:=h.rng hm
 have hn:=(h.found.2.1 _ hm).2.2.2
 have hp:=jD r forum f day c U (F.getD i default) ⟨h.few,by omega,h1⟩
 rw [e]
 refine ⟨hm,hn,?_⟩
 unfold O0 at hn ⊢
 cases ee:dQ r forum f day c U (F.getD i default) with
 | none=>rw [ee] at hn; exact absurd rfl hn
 | some y=>exact hp.1 y ee
theorem nE.apt {r:ah} {forum:Int} {f:ai} {day:Int} {c:Claim} {U:List Fact} {L:List (List Fact)} {F:List Int} (h:nE r forum f day c U L F) {i:Nat} (hi:i < L.length):qp f (L.getD i default)∧(L.getD i default).length≤U.length:=by
 obtain ⟨-,-,⟨v,hv⟩,-⟩:=h.at_ hi
 rw [hv,vZ]
 exact ⟨h.apart.sub (uV _ _ _),DG _ _⟩
theorem nE.under {r:ah} {forum:Int} {f:ai} {day:Int} {c:Claim} {U:List Fact} {L:List (List Fact)} {F:List Int} (h:nE r forum f day c U L F) (h2:bH r forum f day c=2) {s v:Nat} (hs:s < 2 ^ U.length) (hv:v < 2 ^ pb s U.length) (hd:bH r forum (cP f (tC U s v)) day c≠2) :
  ∃ t,t∈F∧∀ k,t.toNat.testBit k=true→s.testBit k=true:=by
 have agE:=yY h.few
 have h0:s≠0:=fun e=>by
  have hz:(tC U s v).length=0:=by
   rw [vZ,e]
   have:∀ n,pb 0 n=0:=fun n=>by
    induction n with
    | zero=>rfl
    | succ n ih=>rw [pb,ih,Nat.zero_testBit]; rfl
   exact this _
  rw [List.length_eq_zero_iff.1 hz] at hd
  exact hd h2
 have hp:=jD r forum f day c U (s:Int) ⟨h.few,by omega,by simpa using hs⟩
 obtain ⟨v1,v2⟩:=SR (r:=r) (forum:=forum) (f:=f) (day:=day) (c:=c) h.few (show (0:Int) < (s:Int) by omega) (by simpa using hs)
 have hn:(dQ r forum f day c U (s:Int)).isNone=false:=by
  cases e:dQ r forum f day c U (s:Int) with
  | some y=>rfl
  | none =>
   have:=hp.2 e v (by simpa using hv)
   rw [Int.toNat_natCast] at this
   exact absurd this hd
 obtain ⟨t,ht,e⟩:=h.found.2.2.2 (s:Int) (by omega) (by rw [BP _ h.few]; omega) trivial (v2 hn)
 have hr:=h.rng ht
 have:=(Rm (by omega) (by omega)).1 e
 rw [Int.toNat_natCast] at this
 exact ⟨t,ht,this⟩
theorem nE.C9 {r:ah} {forum:Int} {f:ai} {day:Int} {c:Claim} {U:List Fact} {L:List (List Fact)} {F:List Int} (h:nE r forum f day c U L F) (h2:bH r forum f day c=2) {x:List Fact} (hx:GA U x) (hd:bH r forum (cP f x) day c≠2) :
  ∃ q,q < L.length∧IW x (L.getD q default):=by
 obtain ⟨s,v,hs,hv,rfl⟩:=hx.Xz
 obtain ⟨t,ht,hb⟩:=h.under h2 hs hv hd
 obtain ⟨q,hq,e⟩:=List.getElem_of_mem ht
 have hl:q < L.length:=by rw [h.found.1,List.length_map]; exact hq
 refine ⟨q,hl,?_⟩
 obtain ⟨-,-,⟨w,hw⟩,-⟩:=h.at_ hl
 rw [hw,show F.getD q default=t by simp [List.getD,hq,e]]
 exact XD hb
theorem nE.least {r:ah} {forum:Int} {f:ai} {day:Int} {c:Claim} {U:List Fact} {L:List (List Fact)} {F:List Int} (h:nE r forum f day c U L F) (h2:bH r forum f day c=2) {x:List Fact} (hx:GA U x) (hd:bH r forum (cP f x) day c≠2)
  {i:Nat} (hi:i < L.length) (hl:x.length < (L.getD i default).length):¬ IW (L.getD i default) x:=by
 obtain ⟨s,v,hs,hv,rfl⟩:=hx.Xz
 obtain ⟨t,ht,hb⟩:=h.under h2 hs hv hd
 obtain ⟨hm,-,⟨w,hw⟩,-⟩:=h.at_ hi
 intro hc
 rw [hw] at hc hl
 have Ez:=XE h.apart.1 hs hc
 rw [vZ,vZ] at hl
 have h3:=YK hb U.length
 obtain ⟨r1,r2,r3⟩:=h.rng ht
 obtain ⟨m1,m2,m3⟩:=h.rng hm
 have e:aD .u64 t (F.getD i default)=t:=(Rm (by omega) (by omega)).2 fun k hk=>Ez k (hb k hk)
 have hpw:=h.found.2.2.1
 rw [List.pairwise_iff_getElem] at hpw
 obtain ⟨a,ha,rfl⟩:=List.getElem_of_mem ht
 have hiF:i < F.length:=by have:=h.found.1; rw [this,List.length_map] at hi; exact hi
 have ei:F.getD i default=F[i]:=by simp [List.getD,hiF]
 rw [ei] at e m3 hl
 rcases Nat.lt_trichotomy a i with dK | rfl | hgt
 ·exact (hpw a i ha hiF dK).2 e
 ·omega
 ·have:=(hpw i a hiF ha hgt).1
  omega
end
end Go.Proofs.YtkbkoaoolojhaaaGreatDoor
