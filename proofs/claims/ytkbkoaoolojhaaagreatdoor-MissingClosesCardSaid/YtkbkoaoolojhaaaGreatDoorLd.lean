/- What printed sketches are made of. -/
import Derived.Test.YtkbkoaoolojhaaaGreatDoorLc
import Derived.Sort.OwnSortedInts
set_option linter.unusedSimpArgs false
set_option linter.unusedVariables false
set_option linter.unusedSectionVars false
namespace Go.Av
open Go
variable [vr]
instance {α β:Type} [Inhabited α]:Inhabited (Sum α β):=⟨.inl default⟩
abbrev iv (n:Int):AV:=.d (.v (.int .i64 n))
abbrev bv (b:Bool):AV:=.d (.v (.bool b))
abbrev sv (s:ByteArray):AV:=.d (.v (.string s))
abbrev av (cs:List D):AV:=.d (.agg cs)
abbrev lv {α:Type} [Inhabited α] (cells:α→List D) (l:List α):AV:=.d (mR cells l)
abbrev nv:AV:=.d (.v (.slice none 0 0))
abbrev ow {α:Type} (κ:Nat) (l:List α):AV:=.own κ l.length
abbrev aU {α:Type} [Inhabited α] (e k:Nat) (cells:α→List D) (l:List α):bw:=.row e k l.length fun i=>cells (l.getD i default)
abbrev dI (n:Int):D:=.v (.int .i64 n)
abbrev dB (b:Bool):D:=.v (.bool b)
def au (n:Int):Int:=IntKind.i64.wrap n
def aD (k:IntKind) (a b:Int):Int:=k.wrap (BitVec.ofInt k.bits a &&& BitVec.ofInt k.bits b).toNat
def VR (k:IntKind) (a b:Int):Int:=k.wrap (BitVec.ofInt k.bits a ||| BitVec.ofInt k.bits b).toNat
def cF (k:IntKind) (a b:Int):Int:=k.wrap (a * 2 ^ (min b.toNat k.bits))
def a8 (k:IntKind) (a b:Int):Int:=a.fdiv (2 ^ (min b.toNat k.bits))
theorem ar {n:Int} (h1 : -9223372036854775808≤n) (h2:n≤9223372036854775807):au n=n:=Zi h1 h2
structure MK (α:Type) where
 cells:α→List D
 k:Nat
 len:∀ x,(cells x).length=k
 one:∀ x,(cells x).all zD=true
def LC {α:Type} [Inhabited α] (E:MK α):MK (List α):=⟨fun l=>[mR E.cells l],1,fun _=>rfl,fun _=>rfl⟩
def Zj (n:Int):List D:=[.v (.int .u64 n)]
def Zk:MK Int:=⟨Zj,1,fun _=>rfl,fun _=>rfl⟩
def dV:MK Int:=⟨bS,1,fun _=>rfl,fun _=>rfl⟩
def JI:MK ByteArray:=⟨kJ,1,fun _=>rfl,fun _=>rfl⟩
def u8C (n:Int):List D:=[.v (.int .u8 n)]
def nA (s:ByteArray):List Int:=s.data.toList.map fun b=>(b.toNat:Int)
def aer (s:ByteArray):qD:=⟨s.size,(nA s).length,fun i=>[.v (.int .u8 (s.data.toList.getD i 0).toNat)],fun i=>u8C ((nA s).getD i default),by
 refine ⟨by simp [nA],fun i hi=>?_⟩
 have fp:i < s.data.size:=hi
 have e:(nA s).getD i default=((s.data.toList.getD i 0).toNat:Int):=by
  simp only [nA,List.getD,List.getElem?_map,Array.getElem?_toList,Array.getElem?_eq_getElem fp,Option.map_some,Option.getD_some]
 rw [e]
 exact wY.rfl'⟩
abbrev mpB {α:Type} [Inhabited α] (enc:α→D) (ks:List Int) (vs:List α):bw:=.mp ks.length fun i=>(.int .i64 (ks.getD i 0),enc (vs.getD i default))
def GZ {α:Type} [Inhabited α] (enc:α→D) (ks:List Int) (vs:List α) (h:ks.length=vs.length) (k:Int) (v:α):EC:=⟨ks.length+1,(ks++[k]).length,fun q=>if q < ks.length then (.int .i64 (ks.getD q 0),enc (vs.getD q default)) else (.int .i64 k,enc v),fun i=>(.int .i64 ((ks++[k]).getD i 0),enc ((vs++[v]).getD i default)),by
 refine ⟨by simp,fun i hi=>?_⟩
 by_cases c:i < ks.length
 ·simp only [c,if_true,List.getD,List.getElem?_append_left c,List.getElem?_append_left (h ▸ c:i < vs.length)]
 ·obtain rfl:i=ks.length:=by omega
  simp only [Nat.lt_irrefl,if_false]
  simp [List.getD,h]⟩
def af2 {α:Type} [Inhabited α] (enc:α→D) (k:Int) (v:α):EC:=⟨0+1,1,fun q=>if q < 0 then (.bool false,default) else (.int .i64 k,enc v),fun i=>(.int .i64 ([k].getD i 0),enc ([v].getD i default)),by
 refine ⟨rfl,fun i hi=>?_⟩
 obtain rfl:i=0:=by omega
 rfl⟩
abbrev OY {α:Type} [Inhabited α] (enc:α→D) (m:List (Int × α)):Nat→Value × D:=fun i=>(.int .i64 (m.getD i default).1,enc (m.getD i default).2)
abbrev mpM {α:Type} [Inhabited α] (enc:α→D) (m:List (Int × α)):bw:=.mp m.length (OY enc m)
abbrev pmM {α:Type} [Inhabited α] (enc:α→D) (m:List (Int × α)):AV:=.Bj m.length (OY enc m)
def tc {α:Type}:List (Int × α)→Int→α→List (Int × α)
 | [],k,v=>[(k,v)]
 | p :: r,k,v=>bif k == p.1 then (p.1,v) :: r else p :: tc r k v
def pM {α:Type}:List (Int × α)→Int→Option α
 | [],_=>none
 | p :: r,k=>bif k == p.1 then some p.2 else pM r k
def EO {α:Type} (m:List (Int × α)) (k:Int) (z:α):α:=(pM m k).getD z
theorem I7 {α:Type} [Inhabited α] (enc:α→D) (m:List (Int × α)):∀ i,i < m.length→∃ b,(OY enc m i).1=.int .i64 b:=fun i _=>⟨_,rfl⟩
theorem G0 {α:Type} [Inhabited α] (enc:α→D) (k:Int):∀ (m:List (Int × α)),match nJ (.int .i64 k) m.length (OY enc m) with
  | some p=>p < m.length∧(OY enc m p).1=.int .i64 k∧pM m k=some (m.getD p default).2∧∀ v,tc m k v=m.set p ((m.getD p default).1,v)
  | none=>pM m k=none∧∀ v,tc m k v=m++[(k,v)]
 | []=>⟨rfl,fun _=>rfl⟩
 | p :: r=>by
  have ih:=G0 enc k r
  have e:(fun i=>OY enc (p :: r) (i+1))=OY enc r:=by funext i; simp [OY]
  have e0:(OY enc (p :: r) 0).1=.int .i64 p.1:=rfl
  simp only [List.length_cons,nJ,e,e0,CY,decide_true,Bool.true_and,List.getD_cons_zero]
  cases hk:(k == p.1) with
  | true =>
   have fS:k=p.1:=by simpa using hk
   simp only [cond_true]
   refine ⟨by omega,by rw [fS]; rfl,by simp [pM,hk],fun v=>by simp [tc,hk]⟩
  | false =>
   simp only [cond_false]
   cases hq:nJ (.int .i64 k) r.length (OY enc r) with
   | none =>
    rw [hq] at ih
    simp only [Option.map_none]
    exact ⟨by simp only [pM,hk,cond_false]; exact ih.1,fun v=>by simp only [tc,hk,cond_false,ih.2 v,List.cons_append]⟩
   | some q =>
    rw [hq] at ih
    obtain ⟨i1,i2,i3,i4⟩:=ih
    simp only [Option.map_some]
    refine ⟨by simpa using i1,?_,?_,fun v=>?_⟩
    ·rw [← i2]; rfl
    ·simp only [pM,hk,cond_false]; rw [i3]; simp
    ·simp only [tc,hk,cond_false,i4 v]; simp
def af3:EC:=⟨0,0,fun _=>(.bool false,default),fun _=>(.bool false,default),rfl,fun _ _=>rfl⟩
def mkM {α:Type} [Inhabited α] (enc:α→D):EC:=⟨0,([]:List (Int × α)).length,fun _=>(.bool false,default),OY enc ([]:List (Int × α)),rfl,fun i hi=>absurd hi (by omega)⟩
def acG {α:Type} [Inhabited α] (enc:α→D) (m:List (Int × α)) (k:Int) (v:α):EC:=⟨mpN (.int .i64 k) m.length (OY enc m),(tc m k v).length,mpF (.int .i64 k) (enc v) m.length (OY enc m),OY enc (tc m k v),by
 have h:=G0 enc k m
 unfold mpN mpF
 cases hq:nJ (.int .i64 k) m.length (OY enc m) with
 | none =>
  rw [hq] at h
  simp only
  rw [h.2 v]
  refine ⟨by simp,fun i hi=>?_⟩
  by_cases c:i < m.length
  ·simp [OY,c,List.getD,List.getElem?_append_left c]
  ·obtain rfl:i=m.length:=by omega
   simp [OY,List.getD]
 | some p =>
  rw [hq] at h
  obtain ⟨h1,h2,h3,h4⟩:=h
  simp only
  rw [h4 v]
  refine ⟨by simp,fun i hi=>?_⟩
  by_cases c:i=p
  ·subst c
   simp [OY,List.getD,h1]
  ·simp [OY,c,List.getD,List.getElem?_set_ne (fun e=>c e.symm)]⟩
theorem Zl {α:Type} [Inhabited α] (enc:α→D) (m:List (Int × α)) (k:Int) (z:α):vw (.int .i64 k) m.length (OY enc m) (enc z)=enc (EO m k z):=by
 have h:=G0 enc k m
 unfold vw EO
 cases hq:nJ (.int .i64 k) m.length (OY enc m) with
 | none=>rw [hq] at h; simp only [h.1]; rfl
 | some p=>rw [hq] at h; simp only [h.2.2.1]; rfl
def getM {α:Type} [Inhabited α] (enc:α→D) (m:List (Int × α)) (k:Int) (z:α):TN:=⟨.d (vw (.int .i64 k) m.length (OY enc m) (enc z)),.d (enc (EO m k z)),fun _ _ _ _ _ h=>by rw [← Zl enc m k z]; exact h⟩
theorem G1 {n n':Nat} {f f':Nat→List D} (h:n=n'∧∀ i,i < n→f i=f' i):n=n'∧∀ i,i < n→wY (f i) (f' i):=⟨h.1,fun i hi=>wY.of_eq (h.2 i hi)⟩
section
variable {α : Type} [Inhabited α] (E : MK α)
theorem MK.src (M:List α):(∀ i,i < M.length→(E.cells (M.getD i default)).length=E.k)∧∀ i,i < M.length→(E.cells (M.getD i default)).all zD=true:=⟨fun _ _=>E.len _,fun _ _=>E.one _⟩
theorem MK.mT (M:List α):∀ i,i < M.length→(E.cells (M.getD i default)).all zD=true:=fun _ _=>E.one _
theorem MK.lens (M:List α):∀ i,i < M.length→(E.cells (M.getD i default)).length=E.k:=fun _ _=>E.len _
def kE (L M:List α):qD:=⟨L.length+M.length,(L++M).length,fun q=>if q < L.length then E.cells (L.getD q default) else E.cells (M.getD (q - L.length) default),fun i=>E.cells ((L++M).getD i default),G1 (acu E.cells L M)⟩
def uj (L:List α) (p:Nat) (y:α):qD:=⟨L.length,(L.set p y).length,fun q=>if q=p then E.cells y else E.cells (L.getD q default),fun i=>E.cells ((L.set p y).getD i default),G1 <| by
 refine ⟨by simp,fun i hi=>?_⟩
 split
 ·rename_i h
  subst h
  simp [List.getD,hi]
 ·rename_i h
  simp [List.getD,List.getElem?_set_ne (fun e=>h e.symm)]⟩
def mkC (n:Nat) (z:α):qD:=⟨n,(List.replicate n z).length,fun _=>E.cells z,fun i=>E.cells ((List.replicate n z).getD i default),G1 <| by
 refine ⟨by simp,fun i hi=>?_⟩
 simp [List.getD,hi]⟩
def fa (L:List α) (lo n:Nat):List α:=(List.range n).map fun i=>L.getD (lo+i) default
def aa0 (L:List α) (lo n:Nat):qD:=⟨n,(fa L lo n).length,fun i=>E.cells (L.getD (lo+i) default),fun i=>E.cells ((fa L lo n).getD i default),G1 <| by
 refine ⟨by simp [fa],fun i hi=>?_⟩
 have:(fa L lo n).getD i default=L.getD (lo+i) default:=by simp [fa,List.getD,hi]
 rw [this]⟩
def af4 (L:List α) (h:Nat):qD:=⟨h,(fa L 0 h).length,fun i=>E.cells (L.getD i default),fun i=>E.cells ((fa L 0 h).getD i default),G1 <| by
 refine ⟨by simp [fa],fun i hi=>?_⟩
 have:(fa L 0 h).getD i default=L.getD i default:=by simp [fa,List.getD,hi]
 rw [this]⟩
theorem ML (k:Nat) (hk:∀ x,(E.cells x).length=k):∀ (xs:List α) (i j:Nat),i < xs.length→j < k→(xs.flatMap E.cells).getD (i * k+j) default=(E.cells (xs.getD i default)).getD j default
 | [],i,j,hi,_=>absurd hi (by simp)
 | x :: r,0,j,_,hj=>by
  simp only [List.flatMap_cons,Nat.zero_mul,Nat.zero_add,List.getD_cons_zero]
  rw [List.getD,List.getElem?_append_left (by rw [hk]; exact hj)]
  rfl
 | x :: r,i+1,j,hi,hj=>by
  have ih:=ML k hk r i j (by simpa using hi) hj
  simp only [List.flatMap_cons,List.getD_cons_succ]
  rw [List.getD,List.getElem?_append_right (by rw [hk,Nat.add_mul,Nat.one_mul]; omega),hk,show (i+1) * k+j - k=i * k+j by rw [Nat.add_mul,Nat.one_mul]; omega]
  exact ih
theorem MM (k:Nat) (hk:∀ x,(E.cells x).length=k):∀ (xs:List α),(xs.flatMap E.cells).length=xs.length * k
 | []=>by simp
 | x :: r=>by simp [List.flatMap_cons,hk,MM k hk r,Nat.add_mul,Nat.add_comm]
def dH (xs:List α):qD:=⟨xs.length,xs.length,BT E.k xs.length (xs.flatMap E.cells),fun i=>E.cells (xs.getD i default),G1 <| by
 refine ⟨rfl,fun i hi=>?_⟩
 obtain ⟨h1,h2⟩:=xg (k:=E.k) (len:=xs.length) (ds:=xs.flatMap E.cells) (MM E E.k E.len xs) hi
 apply List.ext_getElem?
 intro j
 by_cases hj:j < E.k
 ·have h3:=h2 j hj
  rw [ML E E.k E.len xs i j hi hj] at h3
  have l1:j < (BT E.k xs.length (xs.flatMap E.cells) i).length:=by omega
  have l2:j < (E.cells (xs.getD i default)).length:=by rw [E.len]; exact hj
  rw [List.getD,List.getD,List.getElem?_eq_getElem l1,List.getElem?_eq_getElem l2] at h3
  rw [List.getElem?_eq_getElem l1,List.getElem?_eq_getElem l2]
  simpa using h3
 ·rw [List.getElem?_eq_none (by omega),List.getElem?_eq_none (by rw [E.len]; omega)]⟩
def aes (xs:List α) (ds:List D) (h:RT ds (xs.flatMap E.cells)=(RT ds (xs.flatMap E.cells)).diag):qD:=⟨xs.length,xs.length,BT E.k xs.length ds,fun i=>E.cells (xs.getD i default),by
 have hle:=Bw (CT.Ak h)
 refine ⟨rfl,fun i hi=>?_⟩
 have hl:ds.length=xs.length * E.k:=hle.1.trans (MM E E.k E.len xs)
 obtain ⟨h1,h2⟩:=xg (k:=E.k) (len:=xs.length) (ds:=ds) hl hi
 refine ⟨h1.trans (E.len _).symm,fun j hj=>?_⟩
 have hj:j < E.k:=by omega
 have hb:i * E.k+j < ds.length:=by
  rw [hl]
  have q1:(i+1) * E.k≤xs.length * E.k:=Nat.mul_le_mul_right _ hi
  rw [Nat.add_mul,Nat.one_mul] at q1
  omega
 have h3:=hle.2 _ hb
 rw [ML E E.k E.len xs i j hi hj] at h3
 rw [h2 j hj]
 exact h3⟩
def mkN (n:Nat) (z:α) (ds:List D) (h:RT ds (E.cells z)=(RT ds (E.cells z)).diag):qD:=⟨n,(List.replicate n z).length,fun _=>ds,fun i=>E.cells ((List.replicate n z).getD i default),by
 refine ⟨by simp,fun i hi=>?_⟩
 have e:(List.replicate n z).getD i default=z:=by simp [List.getD,hi]
 rw [e]
 exact Bw (CT.Ak h)⟩
def G2 (L:List α) (x:Nat) (z:α):List α:=L.take x++List.replicate (L.length - x) z
theorem Am (L:List α) (x:Nat) (z:α):(G2 L x z).length=L.length:=by
 simp [G2]
 omega
def ahO (L:List α) (x:Nat) (z:α) (ds:List D) (h:RT ds (E.cells z)=(RT ds (E.cells z)).diag):qD:=⟨L.length,(G2 L x z).length,wm x (fun i=>E.cells (L.getD i default)) ds,fun i=>E.cells ((G2 L x z).getD i default),by
 refine ⟨(Am L x z).symm,fun i hi=>?_⟩
 unfold wm
 split
 ·rename_i h
  have e:(G2 L x z).getD i default=L.getD i default:=by
   simp only [G2,List.getD]
   rw [List.getElem?_append_left (by simp; omega),List.getElem?_take,if_pos h]
  rw [e]
  exact wY.rfl'
 ·rename_i h'
  have e:(G2 L x z).getD i default=z:=by
   simp only [G2,List.getD]
   have h1:(L.take x).length=x:=by simp; omega
   have h2:i - x < L.length - x:=by omega
   rw [List.getElem?_append_right (by omega),h1,List.getElem?_replicate,if_pos h2]
   rfl
  rw [e]
  exact Bw (CT.Ak h)⟩
end
def acH {cs ds:List D} (h:wY cs ds):TN:=⟨.ref cs,.ref ds,fun w S μ ν v hr=>by
 cases hr with
 | ref df bL hh=>exact .ref df (fun j hj=>bL j (by rw [h.1]; exact hj)) (fun j hj=>h.2 j (by rw [h.1]; exact hj) _ _ _ (hh j (by rw [h.1]; exact hj)))⟩
abbrev bN (i:Int) (n:Nat):Prop:=0≤i∧i < (n:Int)
abbrev vE (n m bytes:Nat):Prop:=n+m≤maxLen∧(n+m) * bytes≤140737488355328
abbrev mkP (n:Int) (bytes:Nat):Prop:=0≤n∧n.toNat≤maxLen∧n.toNat * bytes≤140737488355328
def bn.z:bn Unit:=⟨(),fun _=>[],fun _=>none,True,fun _ _ h=>(by cases h),fun _=>True,trivial⟩
abbrev Sk.nx {α ι:Type} (id t n:Nat) (a:ι):Sk (α ⊕ ι):=.r id .z fun _=>.wi t (au ((n:Int)+1)) ((n+1:Nat):Int) (.fin (.inr a))
def bn.p (p:Prop):bn Unit:=⟨(),fun _=>[],fun _=>some p,p,fun h _ e=>by cases e; exact h,fun _=>True,trivial⟩
def bn.t {p:Prop} (h:p):bn Unit:=⟨(),fun _=>[],fun _=>some p,True,fun _ _ e=>by cases e; exact h,fun _=>True,trivial⟩
def bn.pt (p:Prop) {q:Prop} (h:q):bn Unit:=⟨(),fun _=>[],fun _=>some (p∧q),p,fun hp _ e=>by cases e; exact ⟨hp,h⟩,fun _=>True,trivial⟩
def bn.o (l:List Bq):bn Unit:=⟨(),fun _=>l,fun _=>none,True,fun _ _ h=>(by cases h),fun _=>True,trivial⟩
theorem EP {x y:Option Prop} (h1:∀ p,x=some p→p) (h2:∀ p,y=some p→p) (p:Prop) (e:GW x y=some p):p:=by
 cases x with
 | none=>exact h2 p (by simpa [GW] using e)
 | some a =>
  cases y with
  | none=>exact h1 p (by simpa [GW] using e)
  | some b =>
   simp only [GW,Option.some.injEq] at e
   subst e
   exact ⟨h1 a rfl,h2 b rfl⟩
def aet (e w:Bool):Option Prop→Option Prop
 | none=>none
 | some p=>some (e=w→p)
theorem acI {x:Option Prop} {e w:Bool} (h:e=w→∀ p,x=some p→p) (p:Prop) (hp:aet e w x=some p):p:=by
 cases x with
 | none=>cases hp
 | some a =>
  simp only [aet,Option.some.injEq] at hp
  subst hp
  exact fun he=>h he a rfl
def bn.and {α β:Type} (a:bn α) (b:bn β):bn (α × β):=⟨(a.v,b.v),fun x=>a.jN x.1++b.jN x.2,fun x=>GW (a.jL x.1) (b.jL x.2),a.pre∧b.pre,fun h=>EP (a.pf h.1) (b.pf h.2),fun x=>a.post x.1∧b.post x.2,⟨a.hp,b.hp⟩⟩
def bn.al {β:Type} (a:bn Unit) (b:bn β):bn β:=⟨b.v,fun x=>a.jN ()++b.jN x,fun x=>GW (a.jL ()) (b.jL x),a.pre∧b.pre,fun h=>EP (a.pf h.1) (b.pf h.2),b.post,b.hp⟩
def bn.ER {α:Type} (a:bn α) (b:bn Unit):bn α:=⟨a.v,fun x=>a.jN x++b.jN (),fun x=>GW (a.jL x) (b.jL ()),a.pre∧b.pre,fun h=>EP (a.pf h.1) (b.pf h.2),a.post,a.hp⟩
def bn.wh {β:Type} (e w:Bool) (a:bn β):bn β:=⟨a.v,a.jN,fun x=>aet e w (a.jL x),e=w→a.pre,fun h=>acI fun he=>a.pf (h he),a.post,a.hp⟩
def bn.dep {α β:Type} (a:bn α) (b:α→bn β):bn (α × β):=⟨(a.v,(b a.v).v),fun x=>a.jN x.1++(b x.1).jN x.2,fun x=>GW (a.jL x.1) ((b x.1).jL x.2),a.pre∧∀ x,x=a.v→a.post x→(b x).pre,fun h=>EP (a.pf h.1) ((b a.v).pf (h.2 _ rfl a.hp)),fun x=>a.post x.1∧(b x.1).post x.2,⟨a.hp,(b a.v).hp⟩⟩
def bn.nK {α:Type} (a:bn α) (b:α→bn Unit):bn α:=⟨a.v,fun x=>a.jN x++(b x).jN (),fun x=>GW (a.jL x) ((b x).jL ()),a.pre∧∀ x,x=a.v→a.post x→(b x).pre,fun h=>EP (a.pf h.1) ((b a.v).pf (h.2 _ rfl a.hp)),a.post,a.hp⟩
structure iI (β:Type) where
 P:Program
 f:FuncId
 args:List AV
 enc:β→AV
 fl:Bool
 v:β
 pre:Prop
 pf:pre→eC P f args [] (enc v) []
 post:β→Prop:=fun _=>True
 hp:post v:=by trivial
def iI.c {β:Type} (c:iI β):bn β:=⟨c.v,fun x=>[bif c.fl then .flat (c.enc x) else .gen [] (c.enc x) []],fun x=>some (eC c.P c.f c.args [] (c.enc x) []),c.pre,fun hp _ e=>by cases e; exact c.pf hp,c.post,c.hp⟩
theorem uh.refl:∀ (l:List AV),uh l l
 | []=>trivial
 | _ :: r=>⟨lL.rfl',uh.refl r⟩
theorem uh.set:∀ (l:List AV) (i:Nat) (x y:AV),l[i]? = some y→lL x y→uh (l.set i x) l
 | [],i,_,_,h,_=>by simp at h
 | z :: r,0,x,y,h,hle=>by
  simp only [List.getElem?_cons_zero,Option.some.injEq] at h
  subst h
  exact ⟨hle,uh.refl r⟩
 | z :: r,i+1,x,y,h,hle=>⟨lL.rfl',uh.set r i x y (by simpa using h) hle⟩
def iI.nil {β:Type} (c:iI β) (i:Nat) (h:∃ g,c.args[i]? = some (.d (.sl 0 g))):iI β :=
 { c with args:=c.args.set i nv,pf:=fun hp=>(c.pf hp).Mz (let ⟨g,hg⟩:=h; uh.set c.args i _ _ hg (lL.d (su.nil g))) }
def iI.ES {β:Type} (c:iI β) (i j:Nat) (cs:List D) (h:c.args[i]? = some (.d (.agg cs))) (h2:∃ g,cs[j]? = some (.sl 0 g)):iI β :=
 {c with args:=c.args.set i (.d (.agg (cs.set j (.v (.slice none 0 0))))),pf:=fun hp=>(c.pf hp).Mz (uh.set c.args i _ _ h (lL.d (su.agg (by simp) (fun q hq=>by
   obtain ⟨g,hg⟩:=h2
   by_cases e:j=q
   ·subst e
    have hj:j < cs.length:=by simpa using hq
    have e1:(cs.set j (.v (.slice none 0 0))).getD j default=.v (.slice none 0 0):=by simp [List.getD,hj]
    have e2:cs.getD j default=.sl 0 g:=by simp [List.getD,hg]
    rw [e1,e2]
    exact su.nil g
   ·have e1:(cs.set j (.v (.slice none 0 0))).getD q default=cs.getD q default:=by simp [List.getD,List.getElem?_set_ne e]
    rw [e1]
    exact su.rfl')))) }
@[simp] theorem bn.ahP (x:Unit):bn.z.post x=True:=rfl
@[simp] theorem bn.ahQ (p:Prop) (x:Unit):(bn.p p).post x=True:=rfl
@[simp] theorem bn.ahR {p:Prop} (h:p) (x:Unit):(bn.t h).post x=True:=rfl
@[simp] theorem bn.agG (p:Prop) {q:Prop} (h:q) (x:Unit):(bn.pt p h).post x=True:=rfl
@[simp] theorem bn.ahS (l:List Bq) (x:Unit):(bn.o l).post x=True:=rfl
@[simp] theorem bn.af5 {α β:Type} (a:bn α) (b:bn β) (x:α × β):(a.and b).post x=(a.post x.1∧b.post x.2):=rfl
@[simp] theorem bn.aff {β:Type} (a:bn Unit) (b:bn β) (x:β):(a.al b).post x=b.post x:=rfl
@[simp] theorem bn.afg {β:Type} (a:bn β) (b:bn Unit) (x:β):(a.ER b).post x=a.post x:=rfl
@[simp] theorem bn.agH {β:Type} (e w:Bool) (a:bn β) (x:β):(a.wh e w).post x=a.post x:=rfl
@[simp] theorem bn.af6 {α β:Type} (a:bn α) (b:α→bn β) (x:α × β):(a.dep b).post x=(a.post x.1∧(b x.1).post x.2):=rfl
@[simp] theorem bn.afh {α:Type} (a:bn α) (b:α→bn Unit) (x:α):(a.nK b).post x=a.post x:=rfl
@[simp] theorem iI.RW {β:Type} (c:iI β) (x:β):c.c.post x=c.post x:=rfl
@[simp] theorem iI.aa1 {β:Type} (c:iI β) (i:Nat) (h:∃ g,c.args[i]? = some (.d (.sl 0 g))) (x:β):(c.nil i h).post x=c.post x:=rfl
@[simp] theorem iI.afi {β:Type} (c:iI β) (i j:Nat) (cs:List D) (h:c.args[i]? = some (.d (.agg cs))) (h2:∃ g,cs[j]? = some (.sl 0 g)) (x:β):(c.ES i j cs h h2).post x=c.post x:=rfl
@[simp] theorem bn.aiL:bn.z.pre=True:=rfl
@[simp] theorem bn.aiM (p:Prop):(bn.p p).pre=p:=rfl
@[simp] theorem bn.aiN {p:Prop} (h:p):(bn.t h).pre=True:=rfl
@[simp] theorem bn.ahT (p:Prop) {q:Prop} (h:q):(bn.pt p h).pre=p:=rfl
@[simp] theorem bn.aiO (l:List Bq):(bn.o l).pre=True:=rfl
@[simp] theorem bn.agI {α β:Type} (a:bn α) (b:bn β):(a.and b).pre=(a.pre∧b.pre):=rfl
@[simp] theorem bn.af7 {β:Type} (a:bn Unit) (b:bn β):(a.al b).pre=(a.pre∧b.pre):=rfl
@[simp] theorem bn.af8 {β:Type} (a:bn β) (b:bn Unit):(a.ER b).pre=(a.pre∧b.pre):=rfl
@[simp] theorem bn.ahU {β:Type} (e w:Bool) (a:bn β):(a.wh e w).pre=(e=w→a.pre):=rfl
@[simp] theorem bn.agJ {α β:Type} (a:bn α) (b:α→bn β):(a.dep b).pre=(a.pre∧∀ x,x=a.v→a.post x→(b x).pre):=rfl
@[simp] theorem bn.af9 {α:Type} (a:bn α) (b:α→bn Unit):(a.nK b).pre=(a.pre∧∀ x,x=a.v→a.post x→(b x).pre):=rfl
@[simp] theorem bn.aga {α β:Type} (a:bn α) (b:α→bn β):(a.dep b).v=(a.v,(b a.v).v):=rfl
@[simp] theorem bn.ahV {α:Type} (a:bn α) (b:α→bn Unit):(a.nK b).v=a.v:=rfl
@[simp] theorem iI.X8 {β:Type} (c:iI β):c.c.pre=c.pre:=rfl
@[simp] theorem iI.G3 {β:Type} (c:iI β):c.c.v=c.v:=rfl
@[simp] theorem iI.acJ {β:Type} (c:iI β) (i:Nat) (h:∃ g,c.args[i]? = some (.d (.sl 0 g))):(c.nil i h).pre=c.pre:=rfl
@[simp] theorem iI.agb {β:Type} (c:iI β) (i:Nat) (h:∃ g,c.args[i]? = some (.d (.sl 0 g))):(c.nil i h).v=c.v:=rfl
@[simp] theorem iI.agc {β:Type} (c:iI β) (i j:Nat) (cs:List D) (h:c.args[i]? = some (.d (.agg cs))) (h2:∃ g,cs[j]? = some (.sl 0 g)):(c.ES i j cs h h2).pre=c.pre:=rfl
@[simp] theorem iI.ahW {β:Type} (c:iI β) (i j:Nat) (cs:List D) (h:c.args[i]? = some (.d (.agg cs))) (h2:∃ g,cs[j]? = some (.sl 0 g)):(c.ES i j cs h h2).v=c.v:=rfl
@[simp] theorem bn.aiP {α β:Type} (a:bn α) (b:bn β):(a.and b).v=(a.v,b.v):=rfl
@[simp] theorem bn.Ao {β:Type} (a:bn Unit) (b:bn β):(a.al b).v=b.v:=rfl
@[simp] theorem bn.ahX {β:Type} (a:bn β) (b:bn Unit):(a.ER b).v=a.v:=rfl
@[simp] theorem bn.aeu {β:Type} (e w:Bool) (a:bn β):(a.wh e w).v=a.v:=rfl
structure iJ (β:Type) where
 P:Program
 f:FuncId
 args:List AV
 enc:β→AV
 BZ:β→List (Nat × bw)
 v:β
 pre:Prop
 pf:pre→eC P f args [] (enc v) (BZ v)
 post:β→Prop:=fun _=>True
 hp:post v:=by trivial
def iJ.c {β:Type} (c:iJ β):bn β:=⟨c.v,fun x=>[.gen [] (c.enc x) (c.BZ x)],fun x=>some (eC c.P c.f c.args [] (c.enc x) (c.BZ x)),c.pre,fun hp _ e=>by cases e; exact c.pf hp,c.post,c.hp⟩
@[simp] theorem iJ.X8 {β:Type} (c:iJ β):c.c.pre=c.pre:=rfl
@[simp] theorem iJ.G3 {β:Type} (c:iJ β):c.c.v=c.v:=rfl
def iJ.nil {β:Type} (c:iJ β) (i:Nat) (h:∃ g,c.args[i]? = some (.d (.sl 0 g))):iJ β :=
 { c with args:=c.args.set i nv,pf:=fun hp=>(c.pf hp).Mz (let ⟨g,hg⟩:=h; uh.set c.args i _ _ hg (lL.d (su.nil g))) }
@[simp] theorem iJ.acJ {β:Type} (c:iJ β) (i:Nat) (h:∃ g,c.args[i]? = some (.d (.sl 0 g))):(c.nil i h).pre=c.pre:=rfl
@[simp] theorem iJ.agb {β:Type} (c:iJ β) (i:Nat) (h:∃ g,c.args[i]? = some (.d (.sl 0 g))):(c.nil i h).v=c.v:=rfl
@[simp] theorem iJ.RW {β:Type} (c:iJ β) (x:β):c.c.post x=c.post x:=rfl
@[simp] theorem iJ.aa1 {β:Type} (c:iJ β) (i:Nat) (h:∃ g,c.args[i]? = some (.d (.sl 0 g))) (x:β):(c.nil i h).post x=c.post x:=rfl
structure Uq (β:Type) where
 P:Program
 f:FuncId
 args:List AV
 cR:List (Nat × bw)
 mQ:List (Nat × Nat)
 enc:β→AV
 BZ:β→List (Nat × bw)
 v:β
 pre:Prop
 pf:pre→FnB P f args cR (enc v) (BZ v) mQ
 post:β→Prop:=fun _=>True
 hp:post v:=by trivial
def Uq.c {β:Type} (c:Uq β):bn β:=⟨c.v,fun x=>[.bx (c.cR.map (·.1)) c.mQ (c.enc x) (c.BZ x)],fun x=>some (FnB c.P c.f c.args c.cR (c.enc x) (c.BZ x) c.mQ),c.pre,fun hp _ e=>by cases e; exact c.pf hp,c.post,c.hp⟩
@[simp] theorem Uq.X8 {β:Type} (c:Uq β):c.c.pre=c.pre:=rfl
@[simp] theorem Uq.G3 {β:Type} (c:Uq β):c.c.v=c.v:=rfl
@[simp] theorem Uq.RW {β:Type} (c:Uq β) (x:β):c.c.post x=c.post x:=rfl
theorem eC.Ur {P:Program} {f:FuncId} {args:List AV} {K n e k m:Nat} {r:Nat→List D} (κ:Nat) (h:eC P f args [] (.own K n) [(K,.row e k m r)]):eC P f args [] (.own κ n) [(κ,.row e k m r)]:=by
 refine ⟨h.1,fun w S μ vs h1 h2 h3 h4 h5=>(h.2 w S μ vs h1 h2 h3 h4 h5).mono ?_⟩
 rintro e0 w' ⟨v,S',μ',rfl,B⟩
 have lk:∀ q b,look [(κ,bw.row e k m r)] q=some b→q=κ∧b=.row e k m r:=fun q b hq=>by
  rw [bC] at hq
  split at hq
  ·rename_i e; simp only [Option.some.injEq] at hq; exact ⟨e.symm,hq.symm⟩
  ·simp [look] at hq
 have lK:look [(K,bw.row e k m r)] K=some (.row e k m r):=by rw [bC,if_pos rfl]
 refine ⟨v,S',fun _=>μ' K,rfl,⟨fun ν=>?_,fun q b hq=>?_,fun q1 q2 b1 b2 g c c' x1 x2 _ _=>by rw [(lk q1 b1 x1).1,(lk q2 b2 x2).1],fun q b g c x1 x2=>B.own K _ g c lK x2,B.sub,B.new,B.bound,B.kept⟩⟩
 ·cases B.res ν with
  | cN hμ=>exact .cN hμ
  | own hμ=>exact .own hμ
 ·obtain ⟨rfl,rfl⟩:=lk q b hq
  exact (B.mem K _ lK).agree (fun k hk=>by simp [bw.keys] at hk)
theorem eC.aa2 {P:Program} {f:FuncId} {args rs:List AV} {K n e k m:Nat} {r:Nat→List D} (κ:Nat) (hk:AV.qB rs=[]) (h:eC P f args [] (.fj (.own K n :: rs)) [(K,.row e k m r)]):eC P f args [] (.fj (.own κ n :: rs)) [(κ,.row e k m r)]:=by
 refine ⟨h.1,fun w S μ vs h1 h2 h3 h4 h5=>(h.2 w S μ vs h1 h2 h3 h4 h5).mono ?_⟩
 rintro e0 w' ⟨v,S',μ',rfl,B⟩
 have lk:∀ q b,look [(κ,bw.row e k m r)] q=some b→q=κ∧b=.row e k m r:=fun q b hq=>by
  rw [bC] at hq
  split at hq
  ·rename_i e; simp only [Option.some.injEq] at hq; exact ⟨e.symm,hq.symm⟩
  ·simp [look] at hq
 have lK:look [(K,bw.row e k m r)] K=some (.row e k m r):=by rw [bC,if_pos rfl]
 refine ⟨v,S',fun _=>μ' K,rfl,⟨fun ν=>?_,fun q b hq=>?_,fun q1 q2 b1 b2 g c c' x1 x2 _ _=>by rw [(lk q1 b1 x1).1,(lk q2 b2 x2).1],fun q b g c x1 x2=>B.own K _ g c lK x2,B.sub,B.new,B.bound,B.kept⟩⟩
 ·cases B.res ν with
  | @fj _ vs hl hr =>
   refine .fj hl (fun i hi=>?_)
   have hq:=hr i hi
   cases i with
   | zero =>
    simp only [List.getD_cons_zero] at hq ⊢
    generalize vs.getD 0 undef=v0 at hq ⊢
    cases hq with
    | cN hμ=>exact .cN hμ
    | own hμ=>exact .own hμ
   | succ i =>
    simp only [List.getD_cons_succ] at hq ⊢
    refine hq.agree (fun k' fS=>absurd fS (AV.tX rs i (by rw [hk]; simp) (by simpa using hi)))
 ·obtain ⟨rfl,rfl⟩:=lk q b hq
  exact (B.mem K _ lK).agree (fun k hk=>by simp [bw.keys] at hk)
structure JJ (β:Type) where
 P:Program
 f:FuncId
 args:List AV
 κ:Nat
 b:bw
 enc:β→bw
 v:β
 pre:Prop
 pf:pre→FnS P f args κ b (enc v)
 post:β→Prop:=fun _=>True
 hp:post v:=by trivial
def JJ.c {β:Type} (c:JJ β):bn β:=⟨c.v,fun x=>[.same c.κ (c.enc x)],fun x=>some (FnS c.P c.f c.args c.κ c.b (c.enc x)),c.pre,fun hp _ e=>by cases e; exact c.pf hp,c.post,c.hp⟩
@[simp] theorem JJ.X8 {β:Type} (c:JJ β):c.c.pre=c.pre:=rfl
@[simp] theorem JJ.G3 {β:Type} (c:JJ β):c.c.v=c.v:=rfl
@[simp] theorem JJ.RW {β:Type} (c:JJ β) (x:β):c.c.post x=c.post x:=rfl
structure uk (β:Type) where
 P:Program
 f:FuncId
 args:List AV
 cR:List (Nat × bw)
 enc:β→AV
 BZ:β→List (Nat × bw)
 v:β
 pre:Prop
 pf:pre→eC P f args cR (enc v) (BZ v)
 post:β→Prop:=fun _=>True
 hp:post v:=by trivial
def uk.c {β:Type} (c:uk β):bn β:=⟨c.v,fun x=>[.gen (c.cR.map (·.1)) (c.enc x) (c.BZ x)],fun x=>some (eC c.P c.f c.args c.cR (c.enc x) (c.BZ x)),c.pre,fun hp _ e=>by cases e; exact c.pf hp,c.post,c.hp⟩
@[simp] theorem uk.X8 {β:Type} (c:uk β):c.c.pre=c.pre:=rfl
@[simp] theorem uk.G3 {β:Type} (c:uk β):c.c.v=c.v:=rfl
@[simp] theorem uk.RW {β:Type} (c:uk β) (x:β):c.c.post x=c.post x:=rfl
theorem xn {K q:Nat} {b0 b:bw} (h:look [(K,b0)] q=some b):q=K∧b=b0:=by
 rw [bC] at h
 split at h
 ·rename_i e; simp only [Option.some.injEq] at h; exact ⟨e.symm,h.symm⟩
 ·simp [look] at h
theorem eC.WB {P:Program} {f:FuncId} {args:List AV} {cR:List (Nat × bw)} {K n e k m:Nat} {r:Nat→List D} (κ:Nat) (h:eC P f args cR (.own K n) [(K,.row e k m r)]):eC P f args cR (.own κ n) [(κ,.row e k m r)]:=by
 refine ⟨h.1,fun w S μ vs h1 h2 h3 h4 h5=>(h.2 w S μ vs h1 h2 h3 h4 h5).mono ?_⟩
 rintro e0 w' ⟨v,S',μ',rfl,B⟩
 have lK:look [(K,bw.row e k m r)] K=some (.row e k m r):=by rw [bC,if_pos rfl]
 refine ⟨v,S',fun _=>μ' K,rfl,⟨fun ν=>?_,fun q b hq=>?_,fun q1 q2 b1 b2 g c c' x1 x2 _ _=>by rw [(xn x1).1,(xn x2).1],fun q b g c x1 x2=>B.own K _ g c lK x2,B.sub,B.new,B.bound,B.kept⟩⟩
 ·cases B.res ν with
  | cN hμ=>exact .cN hμ
  | own hμ=>exact .own hμ
 ·obtain ⟨rfl,rfl⟩:=xn hq
  exact (B.mem K _ lK).agree (fun k hk=>by simp [bw.keys] at hk)
theorem eC.WC {P:Program} {f:FuncId} {Ly:List AV} {K n e k m:Nat} {r:Nat→List D} {res:AV} {gp:List (Nat × bw)} (κ:Nat) (hk:AV.qB Ly=[]) (h:eC P f (.own K n :: Ly) [(K,.row e k m r)] res gp):eC P f (.own κ n :: Ly) [(κ,.row e k m r)] res gp:=by
 refine ⟨h.1,fun w S μ vs h1 h2 h3 h4 h5=>?_⟩
 have lK:∀ K',look [(K',bw.row e k m r)] K'=some (.row e k m r):=fun K'=>by rw [bC,if_pos rfl]
 refine (h.2 w S (fun _=>μ κ) vs h1 h2 (fun ν=>?_) (fun q b hq=>?_) (fun q1 q2 b1 b2 g c c' x1 x2 _ _=>by rw [(xn x1).1,(xn x2).1])).mono ?_
 ·obtain ⟨hl,hi⟩:=h3 ν
  refine ⟨by simpa using hl,fun i fp=>?_⟩
  have hq:=hi i (by simpa using fp)
  cases i with
  | zero =>
   simp only [List.getD_cons_zero] at hq ⊢
   generalize vs.toList.getD 0 undef=v at hq ⊢
   cases hq with
   | cN hμ=>exact .cN hμ
   | own hμ=>exact .own hμ
  | succ i =>
   simp only [List.getD_cons_succ] at hq ⊢
   refine hq.agree (fun k' fS=>absurd fS (AV.tX Ly i (by rw [hk]; simp) (by simpa using fp)))
 ·obtain ⟨rfl,rfl⟩:=xn hq
  exact (h4 κ _ (lK κ)).agree (fun k hk=>by simp [bw.keys] at hk)
 ·rintro e' w' ⟨v,S',μ',rfl,B⟩
  exact ⟨v,S',μ',rfl,B.XO (fun b ⟨q,bk,c,x1,x2⟩=>⟨κ,_,c,lK κ,x2⟩)⟩
section
variable {α β ι : Type}
@[simp] theorem Sk.gN (a:α):(Sk.fin a).val=a:=rfl
@[simp] theorem Sk.kL (e:Bool) (x y:Sk α):(Sk.br e x y).val=bif e then x.val else y.val:=rfl
@[simp] theorem Sk.qF (id:Nat) (c:bn β) (k:β→Sk α):(Sk.r id c k).val=(k c.v).val:=rfl
@[simp] theorem Sk.sA (t:Nat) (m n:Int) (k:Sk α):(Sk.wi t m n k).val=k.val:=rfl
@[simp] theorem Sk.oa (t j n:Nat) (k:Sk α):(Sk.Eo t j n k).val=k.val:=rfl
@[simp] theorem Sk.WD (κ n n':Nat) (k:Sk α):(Sk.wn κ n n' k).val=k.val:=rfl
@[simp] theorem Sk.acK (k:Sk α):(Sk.JG k).val=k.val:=rfl
@[simp] theorem Sk.acL (k:Sk α):(Sk.JH k).val=k.val:=rfl
@[simp] theorem Sk.agd (a:α):(Sk.dead a).val=a:=rfl
@[simp] theorem Sk.agK (t:Nat) (c:Bool) (x y:AV) (k1 k2:Sk α):(Sk.Uj t c x y k1 k2).val=bif c then k1.val else k2.val:=rfl
@[simp] theorem Sk.agL (t n:Nat) (k1 k2:Sk α):(Sk.Uk t n k1 k2).val=k2.val:=rfl
@[simp] theorem Sk.aev (κ:Nat) (k:List (Int × Int)→Sk α):(Sk.op κ k).val=(k []).val:=rfl
@[simp] theorem Sk.aew (κ:Nat) (m:List (Int × Int)) (k:Sk α):(Sk.cl κ m k).val=k.val:=rfl
@[simp] theorem Sk.ahY (κ:Nat) (q:List (Int × Int)→Prop) (k:List (Int × Int)→Sk α):(Sk.oq κ q k).val=(k (canon q)).val:=rfl
@[simp] theorem Sk.ahZ (κ:Nat) (m:List (Int × Int)) (q:List (Int × Int)→Prop) (k:Sk α):(Sk.cq κ m q k).val=k.val:=rfl
@[simp] theorem Sk.agM (id:Nat) (x:Int) (c:qD) (k:Sk α):(Sk.Qz id x c k).val=k.val:=rfl
@[simp] theorem Sk.ah0 (κ:Nat) (k:Sk α):(Sk.fz κ k).val=k.val:=rfl
@[simp] theorem Sk.j3 (b:Bool) (J:β→Prop) (s:Sk (α ⊕ β)) (u:β→Z8) (k:β→Sk α):(Sk.bind b J s u k).val=j2 s.val fun b=>(k b).val:=rfl
@[simp] theorem Sk.aa3 {σ β Y:Type} (it:ItC Y) (I:Nat→σ→Prop) (B:β→Prop) (id:Nat) (s0:σ) (u:σ→List (Nat × bw)) (v:β→List (Nat × bw)) (b:σ→Y→Sk (β ⊕ σ)) (k:β ⊕ σ→Sk α):(Sk.rf it I B id s0 u v b k).val=(k (pJ (fun s y=>(b s y).val) it.ys s0)).val:=rfl
@[simp] theorem Sk.lf (d:α) (I:ι→Prop) (m:ι→Nat) (i0:ι) (u:ι→Z8) (b:ι→Sk (α ⊕ ι)):(Sk.loop d I m i0 u b).val=iter (fun i=>(b i).val) d (m i0+1) i0:=rfl
variable (L : α → Prop)
@[simp] theorem Sk.agN (a:α):(Sk.fin a).a6 L=L a:=rfl
@[simp] theorem Sk.ah1 (e:Bool) (x y:Sk α):(Sk.br e x y).a6 L=((e=true→x.a6 L)∧(e=false→y.a6 L)):=rfl
@[simp] theorem Sk.aiQ (id:Nat) (c:bn β) (k:β→Sk α):(Sk.r id c k).a6 L=(c.pre∧∀ x,x=c.v→c.post x→(k x).a6 L):=rfl
@[simp] theorem Sk.ah2 (t:Nat) (m n:Int) (k:Sk α):(Sk.wi t m n k).a6 L=(m=n∧k.a6 L):=rfl
@[simp] theorem Sk.agO (t j n:Nat) (k:Sk α):(Sk.Eo t j n k).a6 L=(n≤maxLen→k.a6 L):=rfl
@[simp] theorem Sk.ah3 (κ n n':Nat) (k:Sk α):(Sk.wn κ n n' k).a6 L=(n=n'∧k.a6 L):=rfl
@[simp] theorem Sk.agP (k:Sk α):(Sk.JG k).a6 L=k.a6 L:=rfl
@[simp] theorem Sk.agQ (k:Sk α):(Sk.JH k).a6 L=k.a6 L:=rfl
@[simp] theorem Sk.age (a:α):(Sk.dead a).a6 L=False:=rfl
@[simp] theorem Sk.agR (t:Nat) (c:Bool) (x y:AV) (k1 k2:Sk α):(Sk.Uj t c x y k1 k2).a6 L=((c=true→k1.a6 L)∧(c=false→k2.a6 L)):=rfl
@[simp] theorem Sk.agS (t n:Nat) (k1 k2:Sk α):(Sk.Uk t n k1 k2).a6 L=((n=0→k1.a6 L∧k1.val=k2.val)∧k2.a6 L):=rfl
@[simp] theorem Sk.agT (id:Nat) (x:Int) (c:qD) (k:Sk α):(Sk.Qz id x c k).a6 L=((0≤x∧x≤(c.n:Int))∧k.a6 L):=rfl
@[simp] theorem Sk.ah4 (κ:Nat) (k:Sk α):(Sk.fz κ k).a6 L=k.a6 L:=rfl
@[simp] theorem Sk.agf (b:Bool) (J:β→Prop) (s:Sk (α ⊕ β)) (u:β→Z8) (k:β→Sk α):(Sk.bind b J s u k).a6 L=(s.a6 (qE L J)∧∀ b,s.val=.inr b→J b→(k b).a6 L):=rfl
@[simp] theorem Sk.agh (d:α) (I:ι→Prop) (m:ι→Nat) (i0:ι) (u:ι→Z8) (b:ι→Sk (α ⊕ ι)):(Sk.loop d I m i0 u b).a6 L=(I i0∧∀ i,I i→(b i).a6 (gW L fun j=>I j∧m j < m i)):=rfl
end
section
variable {α β ι : Type} (L : α → Prop)
@[simp] theorem Sk.agU (a:α):(Sk.fin a).cC L=L a:=rfl
@[simp] theorem Sk.ah5 (e:Bool) (x y:Sk α):(Sk.br e x y).cC L=((e=true→x.cC L)∧(e=false→y.cC L)):=rfl
@[simp] theorem Sk.aiR (id:Nat) (c:bn β) (k:β→Sk α):(Sk.r id c k).cC L=(∀ x,x=c.v→c.post x→(k x).cC L):=rfl
@[simp] theorem Sk.ah6 (t:Nat) (m n:Int) (k:Sk α):(Sk.wi t m n k).cC L=k.cC L:=rfl
@[simp] theorem Sk.agV (t j n:Nat) (k:Sk α):(Sk.Eo t j n k).cC L=k.cC L:=rfl
@[simp] theorem Sk.ah7 (κ n n':Nat) (k:Sk α):(Sk.wn κ n n' k).cC L=k.cC L:=rfl
@[simp] theorem Sk.agW (k:Sk α):(Sk.JG k).cC L=k.cC L:=rfl
@[simp] theorem Sk.agX (k:Sk α):(Sk.JH k).cC L=k.cC L:=rfl
@[simp] theorem Sk.agi (a:α):(Sk.dead a).cC L=L a:=rfl
@[simp] theorem Sk.agY (t:Nat) (c:Bool) (x y:AV) (k1 k2:Sk α):(Sk.Uj t c x y k1 k2).cC L=((c=true→k1.cC L)∧(c=false→k2.cC L)):=rfl
@[simp] theorem Sk.agZ (t n:Nat) (k1 k2:Sk α):(Sk.Uk t n k1 k2).cC L=k2.cC L:=rfl
@[simp] theorem Sk.ag0 (id:Nat) (x:Int) (c:qD) (k:Sk α):(Sk.Qz id x c k).cC L=k.cC L:=rfl
@[simp] theorem Sk.ah8 (κ:Nat) (k:Sk α):(Sk.fz κ k).cC L=k.cC L:=rfl
@[simp] theorem Sk.agj (b:Bool) (J:β→Prop) (s:Sk (α ⊕ β)) (u:β→Z8) (k:β→Sk α):(Sk.bind b J s u k).cC L=(s.cC (qE L J)∧∀ b,s.val=.inr b→J b→(k b).cC L):=rfl
@[simp] theorem Sk.agk (d:α) (I:ι→Prop) (m:ι→Nat) (i0:ι) (u:ι→Z8) (b:ι→Sk (α ⊕ ι)):(Sk.loop d I m i0 u b).cC L=(I i0∧∀ i,I i→(b i).cC (gW L fun j=>I j∧m j < m i)):=rfl
end
@[simp] theorem afj {α β:Type} (L:α→Prop) (J:β→Prop) (a:α):qE L J (.inl a)=L a:=rfl
@[simp] theorem afk {α β:Type} (L:α→Prop) (J:β→Prop) (b:β):qE L J (.inr b)=J b:=rfl
@[simp] theorem afl {α β:Type} (L:α→Prop) (J:β→Prop) (a:α):gW L J (.inl a)=L a:=rfl
@[simp] theorem afm {α β:Type} (L:α→Prop) (J:β→Prop) (b:β):gW L J (.inr b)=J b:=rfl
@[simp] theorem Zm {α β:Type} (a:α) (f:β→α):j2 (.inl a) f=a:=rfl
@[simp] theorem tP {α β:Type} (b:β) (f:β→α):j2 (.inr b) f=f b:=rfl
theorem yy {α:Type} (k:Int) (v:α) (q:Int):∀ (m:List (Int × α)),pM (tc m k v) q=if q=k then some v else pM m q
 | []=>by
  simp only [tc,pM]
  by_cases h:q=k
  ·subst h; simp
  ·have:(q == k)=false:=by simpa using h
   simp [h,this]
 | p :: r=>by
  have ih:=yy k v q r
  simp only [tc]
  by_cases hk:k=p.1
  ·subst hk
   by_cases h:q=p.1
   ·subst h; simp [pM]
   ·have:(q == p.1)=false:=by simpa using h
    simp [pM,h,this]
  ·have h1:(k == p.1)=false:=by simpa using hk
   by_cases h:q=p.1
   ·have h2:¬ q=k:=fun e=>hk (e.symm.trans h)
    subst h
    simp [pM,h1,h2]
   ·have h2:(q == p.1)=false:=by simpa using h
    simp only [h1,cond_false,pM,h2]
    exact ih
def Sk.aA:{α:Type}→Sk α→Bool
 | _,.loop ..=>true
 | _,_=>false
def Sk.ct:{α:Type}→Sk α→(α→Prop)→Prop
 | _,.fin a,L=>L a
 | _,.br e x y,L=>(e=true→x.ct L)∧(e=false→y.ct L)
 | _,.r _ c k,L=>∀ x,x=c.v→c.post x→(k x).ct L
 | _,.wi _ _ _ k,L=>k.ct L
 | _,.wn _ _ _ k,L=>k.ct L
 | _,.JG k,L=>k.ct L
 | _,.JH k,L=>k.ct L
 | _,.dead a,L=>L a
 | _,.Eo _ _ _ k,L=>k.ct L
 | _,.Uj _ c _ _ x y,L=>(c=true→x.ct L)∧(c=false→y.ct L)
 | _,.Uk _ _ _ k,L=>k.ct L
 | _,.fz _ k,L=>k.ct L
 | _,.op _ k,L=>(k []).ct L
 | _,.cl _ _ k,L=>k.ct L
 | _,.oq _ q k,L=>(∃ m,q m)∧∀ m,q m→(k m).ct L
 | _,.cq _ _ _ k,L=>k.ct L
 | _,.Qz _ _ _ k,L=>k.ct L
 | _,.mr n V init _ _ b k,L=>V init∧(∀ g i,V g→i < n→(b g i).ct V)∧∀ g,g=(List.range n).foldr (fun i g=>(b g i).val) init→V g→(k g).ct L
 | _,.bind _ J s _ k,L=>s.ct (qE L J)∧∀ b,(s.aA=false→s.val=.inr b)→J b→(k b).ct L
 | _,.loop _ I m i0 _ b,L=>I i0∧∀ i,I i→(b i).ct (gW L fun j=>I j∧m j < m i)
 | _,.rf it I B _ s0 _ _ b k,L=>I 0 s0∧(∀ i s y,I i s→it.ys[i]? = some y→(b s y).ct (gW B (I (i+1))))∧∀ r,gW B (I it.ys.length) r→(k r).ct L
def Sk.gL:{α:Type}→Sk α→(α→Prop)→Prop
 | _,.fin a,L=>L a
 | _,.br e x y,L=>(e=true→x.gL L)∧(e=false→y.gL L)
 | _,.r _ c k,L=>c.pre∧∀ x,x=c.v→c.post x→(k x).gL L
 | _,.wi _ m n k,L=>m=n∧k.gL L
 | _,.wn _ n n' k,L=>n=n'∧k.gL L
 | _,.JG k,L=>k.gL L
 | _,.JH k,L=>k.gL L
 | _,.dead _,_=>False
 | _,.Eo _ _ n k,L=>n≤maxLen→k.gL L
 | _,.Uj _ c _ _ x y,L=>(c=true→x.gL L)∧(c=false→y.gL L)
 | _,.Uk _ n k1 k2,L=>(n=0→k1.gL L∧k1.val=k2.val)∧k2.gL L
 | _,.fz _ k,L=>k.gL L
 | _,.op _ k,L=>∀ m,(k m).val=(k []).val∧(k m).gL L
 | _,.cl _ _ k,L=>k.gL L
 | _,.oq _ q k,L=>∀ m,q m→(k m).val=(k (canon q)).val∧(k m).gL L
 | _,.cq _ m q k,L=>q m∧k.gL L
 | _,.Qz _ x c k,L=>(0≤x∧x≤(c.n:Int))∧k.gL L
 | _,.mr n V init _ _ b k,L=>V init∧(∀ g i,V g→i < n→(b g i).cC V∧(b g i).gL fun _=>True)∧(∀ g i j,V g→i < n→j < n→i≠j→(b (b g j).val i).val=(b (b g i).val j).val)∧∀ g,g=(List.range n).foldr (fun i g=>(b g i).val) init→V g→(k g).gL L
 | _,.bind _ J s _ k,L=>s.gL (qE L J)∧∀ b,(s.aA=false→s.val=.inr b)→J b→(k b).gL L
 | _,.loop _ I m i0 _ b,L=>I i0∧∀ i,I i→(b i).gL (gW L fun j=>I j∧m j < m i)
 | _,.rf it I B _ s0 _ _ b k,L=>it.pre∧I 0 s0∧(∀ i s y,I i s→it.ys[i]? = some y→(b s y).ct (gW B (I (i+1)))∧(b s y).gL (gW B (I (i+1))))∧∀ r,gW B (I it.ys.length) r→(k r).gL L
theorem Sk.aP:{α:Type}→(s:Sk α)→{L:α→Prop}→s.ct L→s.cC L
 | _,.fin _,_,h=>h
 | _,.br _ x y,_,h=>⟨fun e=>x.aP (h.1 e),fun e=>y.aP (h.2 e)⟩
 | _,.r _ _ k,_,h=>fun x e p=>(k x).aP (h x e p)
 | _,.wi _ _ _ k,L,h=>k.aP (L:=L) h
 | _,.wn _ _ _ k,L,h=>k.aP (L:=L) h
 | _,.JG k,L,h=>k.aP (L:=L) h
 | _,.JH k,L,h=>k.aP (L:=L) h
 | _,.dead _,_,h=>h
 | _,.Eo _ _ _ k,L,h=>k.aP (L:=L) h
 | _,.Uj _ _ _ _ x y,_,h=>⟨fun e=>x.aP (h.1 e),fun e=>y.aP (h.2 e)⟩
 | _,.Uk _ _ _ k,L,h=>k.aP (L:=L) h
 | _,.fz _ k,L,h=>k.aP (L:=L) h
 | _,.op _ k,L,h=>(k []).aP (L:=L) h
 | _,.cl _ _ k,L,h=>k.aP (L:=L) h
 | _,.oq _ _ k,L,h=>⟨h.1,fun m hm=>(k m).aP (L:=L) (h.2 m hm)⟩
 | _,.cq _ _ _ k,L,h=>k.aP (L:=L) h
 | _,.Qz _ _ _ k,L,h=>k.aP (L:=L) h
 | _,.mr _ _ _ _ _ b k,_,h=>⟨h.1,fun g i hg hi=>(b g i).aP (h.2.1 g i hg hi),fun g e hg=>(k g).aP (h.2.2 g e hg)⟩
 | _,.bind _ _ s _ k,_,h=>⟨s.aP h.1,fun b e hb=>(k b).aP (h.2 b (fun _=>e) hb)⟩
 | _,.loop _ _ _ _ _ b,_,h=>⟨h.1,fun i hi=>(b i).aP (h.2 i hi)⟩
 | _,.rf _ _ _ _ _ _ _ b k,_,h=>⟨h.1,fun i s y hs hy=>(b s y).aP (h.2.1 i s y hs hy),fun r _ hr=>(k r).aP (h.2.2 r hr)⟩
theorem Sk.aG:{α:Type}→(s:Sk α)→{L:α→Prop}→s.gL L→s.a6 L
 | _,.fin _,_,h=>h
 | _,.br _ x y,_,h=>⟨fun e=>x.aG (h.1 e),fun e=>y.aG (h.2 e)⟩
 | _,.r _ _ k,_,h=>⟨h.1,fun x e p=>(k x).aG (h.2 x e p)⟩
 | _,.wi _ _ _ k,L,h=>⟨h.1,k.aG (L:=L) h.2⟩
 | _,.wn _ _ _ k,L,h=>⟨h.1,k.aG (L:=L) h.2⟩
 | _,.JG k,L,h=>k.aG (L:=L) h
 | _,.JH k,L,h=>k.aG (L:=L) h
 | _,.dead _,_,h=>h.elim
 | _,.Eo _ _ _ k,L,h=>fun hn=>k.aG (L:=L) (h hn)
 | _,.Uj _ _ _ _ x y,_,h=>⟨fun e=>x.aG (h.1 e),fun e=>y.aG (h.2 e)⟩
 | _,.Uk _ _ k1 k2,L,h=>⟨fun e=>⟨k1.aG (L:=L) (h.1 e).1,(h.1 e).2⟩,k2.aG (L:=L) h.2⟩
 | _,.fz _ k,L,h=>k.aG (L:=L) h
 | _,.op _ k,L,h=>fun m=>⟨(h m).1,(k m).aG (h m).2⟩
 | _,.cl _ _ k,L,h=>k.aG (L:=L) h
 | _,.oq _ _ k,L,h=>fun m hm=>⟨(h m hm).1,(k m).aG (h m hm).2⟩
 | _,.cq _ _ _ k,L,h=>⟨h.1,k.aG (L:=L) h.2⟩
 | _,.Qz _ _ _ k,L,h=>⟨h.1,k.aG (L:=L) h.2⟩
 | _,.mr _ _ _ _ _ b k,_,h=>⟨h.1,fun g i hg hi=>⟨(h.2.1 g i hg hi).1,(b g i).aG (h.2.1 g i hg hi).2⟩,h.2.2.1,fun g e hg=>(k g).aG (h.2.2.2 g e hg)⟩
 | _,.bind _ _ s _ k,_,h=>⟨s.aG h.1,fun b e hb=>(k b).aG (h.2 b (fun _=>e) hb)⟩
 | _,.loop _ _ _ _ _ b,_,h=>⟨h.1,fun i hi=>(b i).aG (h.2 i hi)⟩
 | _,.rf _ _ _ _ _ _ _ b k,_,h=>⟨h.1,h.2.1,fun i s y hs hy=>⟨(b s y).aP (h.2.2.1 i s y hs hy).1,(b s y).aG (h.2.2.1 i s y hs hy).2⟩,fun r _ hr=>(k r).aG (h.2.2.2 r hr)⟩
theorem vF {α:Type} (l:List α) {i:Nat} (h:i < l.length) (x d:α):(l.set i x).getD i d=x:=by simp [List.getD,h]
theorem vG {α:Type} (l:List α) {i j:Nat} (h:j≠i) (x d:α):(l.set i x).getD j d=l.getD j d:=by simp [List.getD,List.getElem?_set_ne (fun e=>h e.symm)]
def walk {α σ β:Type} (step:α→σ→β ⊕ σ) (fin:σ→β):List α→σ→β
 | [],s=>fin s
 | x :: r,s=>match step x s with
  | .inl b=>b
  | .inr s'=>walk step fin r s'
theorem iter_walk {α σ β ι:Type} [Inhabited α] (l:List α) (pack:σ→Nat→ι) {f:ι→β ⊕ ι} {d:β} (step:α→σ→β ⊕ σ) (fin:σ→β)
  (hs:∀ s i,i < l.length→f (pack s i)=match step (l.getD i default) s with | .inl b=>.inl b | .inr s'=>.inr (pack s' (i+1)))
  (he:∀ s,f (pack s l.length)=.inl (fin s)):∀ (n i:Nat) (s:σ),i≤l.length→l.length - i < n→iter f d n (pack s i)=walk step fin (l.drop i) s
 | 0,i,s,_,hn=>absurd hn (by omega)
 | n+1,i,s,hi,hn=>by
  simp only [iter]
  by_cases h:i < l.length
  ·rw [hs s i h,List.drop_eq_getElem_cons h,show l.getD i default=l[i] from by simp [List.getD,h]]
   simp only [walk]
   cases jK:step l[i] s with
   | inl b=>rfl
   | inr s'=>exact iter_walk l pack step fin hs he n (i+1) s' h (by omega)
  ·obtain rfl:i=l.length:=by omega
   rw [he s,List.drop_length]
   rfl
theorem oV {α σ β ι:Type} [Inhabited α] (l:List α) (pack:σ→Nat→ι) {f:ι→β ⊕ ι} {d:β} (step:α→σ→β ⊕ σ) (fin:σ→β)
  (hs:∀ s i,i < l.length→f (pack s i)=match step (l.getD i default) s with | .inl b=>.inl b | .inr s'=>.inr (pack s' (i+1)))
  (he:∀ s,f (pack s l.length)=.inl (fin s)) {n:Nat} (hn:l.length < n) (s:σ):iter f d n (pack s 0)=walk step fin l s:=by
 have:=iter_walk (d:=d) l pack step fin hs he n 0 s (Nat.zero_le _) (by omega)
 simpa using this
theorem qS {α σ β:Type} (g:α→σ→σ) (fin:σ→β):∀ (l:List α) (s:σ),walk (fun x s=>.inr (g x s)) fin l s=fin (l.foldl (fun s x=>g x s) s)
 | [],_=>rfl
 | x :: r,s=>by simp only [walk,List.foldl_cons]; exact qS g fin r (g x s)
theorem gH {α:Type} {l:List α} {i:Nat} (h:i < l.length) (d:α):l.getD i d∈l:=by
 rw [show l.getD i d=l[i] from by simp [List.getD,h]]
 exact List.getElem_mem h
theorem pj {α:Type} [Inhabited α] (L:List α) (lo n:Nat):(fa L lo n).length=n:=by simp [fa]
theorem MN (n:Int):IntKind.u64.wrap n=n % 18446744073709551616:=rfl
theorem jO (n:Int):0≤IntKind.u64.wrap n∧IntKind.u64.wrap n < 18446744073709551616:=by
 rw [MN]; omega
theorem c6 {n:Int} (h:0≤n) (h2:n < 18446744073709551616):IntKind.u64.wrap n=n:=by
 rw [MN]; omega
theorem QG (n:Int):IntKind.u8.wrap n=n % 256:=rfl
theorem G4 {a b:Int} (k:IntKind) (h:0≤b∧b≤k.bits):a8 k a b=a / 2 ^ b.toNat:=by
 unfold a8
 rw [Nat.min_eq_left (by omega),Int.fdiv_eq_ediv_of_nonneg _ (Int.le_of_lt (Int.pow_pos (by omega)))]
theorem WE {a b:Int} (h:0≤b∧b≤64):cF .u64 a b=(a * 2 ^ b.toNat) % 18446744073709551616:=by
 unfold cF
 have:IntKind.u64.bits=64:=rfl
 rw [this,Nat.min_eq_left (by omega),MN]
theorem LN:(∀ (p:Prop) [Decidable p],(decide p=true)=p)∧(∀ (p:Prop) [Decidable p],decide p=false↔¬ p) ∧
  (∀ (α:Type) (a b:List α),(a++b).length=a.length+b.length)∧(∀ (α:Type) (x:α) (a:List α),(x :: a).length=a.length+1)∧(∀ α:Type,([]:List α).length=0) ∧
  (∀ (α:Type) (a:List α) (i:Nat) (x:α),(a.set i x).length=a.length)∧(∀ (α:Type) (n:Nat) (x:α),(List.replicate n x).length=n) ∧
  (∀ b:Bool,(¬ b=true)=(b=false))∧(∀ b:Bool,(¬ b=false)=(b=true))∧(∀ a b:Int,¬ a < b↔b≤a)∧(∀ a b:Int,¬ a≤b↔b < a) ∧
  (∀ a b:Bool,((a&&b)=true)=(a=true∧b=true))∧(∀ a b:Bool,((a||b)=true)=(a=true∨b=true))∧(∀ a b:Bool,(a&&b)=false↔a=false∨b=false)∧(∀ a b:Bool,(a||b)=false↔a=false∧b=false) ∧
  (∀ a b:Bool,(!a)=b↔a = !b)∧((!true)=false)∧((!false)=true) ∧
  (∀ (α:Type) [BEq α] [LawfulBEq α] (a b:α),(a == b)=true↔a=b)∧(∀ (α:Type) [BEq α] [LawfulBEq α] (a b:α),(a != b)=true↔a≠b) ∧
  (∀ (α:Type) [BEq α] [LawfulBEq α] (a b:α),(a == b)=false↔a≠b)∧(∀ (α:Type) [BEq α] [LawfulBEq α] (a b:α),(a != b)=false↔a=b) ∧
  (∀ (α:Type) (a b:α),(a≠b) = ¬ a=b)∧(∀ (α:Type) [Inhabited α] (L:List α) (lo n:Nat),(fa L lo n).length=n) :=
 ⟨fun _ _=>decide_eq_true_eq,fun _ _=>decide_eq_false_iff_not,fun _ _ _=>List.length_append,fun _ _ _=>rfl,fun _=>rfl,fun _ _ _ _=>List.length_set,fun _ _ _=>List.length_replicate,
  Bool.not_eq_true,Bool.not_eq_false,fun _ _=>Int.not_lt,fun _ _=>Int.not_le,Bool.and_eq_true,Bool.or_eq_true,fun _ _=>Bool.and_eq_false_iff,fun _ _=>Bool.or_eq_false_iff,
  fun _ _=>Bool.not_eq_eq_eq_not,rfl,rfl,fun _ _ _ _ _=>beq_iff_eq,fun _ _ _ _ _=>bne_iff_ne,fun _ _ _ _ _=>beq_eq_false_iff_ne,fun _ _ _ _ _=>bne_eq_false_iff_eq,fun _ _ _=>rfl,fun _ _=>pj⟩
theorem ON:(∀ (x:Unit),bn.z.post x=True) ∧
 (∀ (p:Prop) (x:Unit),(bn.p p).post x=True) ∧
 (∀ {p:Prop} (h:p) (x:Unit),(bn.t h).post x=True) ∧
 (∀ (p:Prop) {q:Prop} (h:q) (x:Unit),(bn.pt p h).post x=True) ∧
 (∀ (l:List Bq) (x:Unit),(bn.o l).post x=True) ∧
 (∀ {α β:Type} (a:bn α) (b:bn β) (x:α × β),(a.and b).post x=(a.post x.1∧b.post x.2)) ∧
 (∀ {β:Type} (a:bn Unit) (b:bn β) (x:β),(a.al b).post x=b.post x) ∧
 (∀ {β:Type} (a:bn β) (b:bn Unit) (x:β),(a.ER b).post x=a.post x) ∧
 (∀ {β:Type} (e w:Bool) (a:bn β) (x:β),(a.wh e w).post x=a.post x) ∧
 (∀ {α β:Type} (a:bn α) (b:α→bn β) (x:α × β),(a.dep b).post x=(a.post x.1∧(b x.1).post x.2)) ∧
 (∀ {α:Type} (a:bn α) (b:α→bn Unit) (x:α),(a.nK b).post x=a.post x) ∧
 (∀ {β:Type} (c:iI β) (x:β),c.c.post x=c.post x) ∧
 (∀ {β:Type} (c:iI β) (i:Nat) (h:∃ g,c.args[i]? = some (.d (.sl 0 g))) (x:β),(c.nil i h).post x=c.post x) ∧
 (∀ {β:Type} (c:iI β) (i j:Nat) (cs:List D) (h:c.args[i]? = some (.d (.agg cs))) (h2:∃ g,cs[j]? = some (.sl 0 g)) (x:β),(c.ES i j cs h h2).post x=c.post x) ∧
 (bn.z.pre=True) ∧
 (∀ (p:Prop),(bn.p p).pre=p) ∧
 (∀ {p:Prop} (h:p),(bn.t h).pre=True) ∧
 (∀ (p:Prop) {q:Prop} (h:q),(bn.pt p h).pre=p) ∧
 (∀ (l:List Bq),(bn.o l).pre=True) ∧
 (∀ {α β:Type} (a:bn α) (b:bn β),(a.and b).pre=(a.pre∧b.pre)) ∧
 (∀ {β:Type} (a:bn Unit) (b:bn β),(a.al b).pre=(a.pre∧b.pre)) ∧
 (∀ {β:Type} (a:bn β) (b:bn Unit),(a.ER b).pre=(a.pre∧b.pre)) ∧
 (∀ {β:Type} (e w:Bool) (a:bn β),(a.wh e w).pre=(e=w→a.pre)) ∧
 (∀ {α β:Type} (a:bn α) (b:α→bn β),(a.dep b).pre=(a.pre∧∀ x,x=a.v→a.post x→(b x).pre)) ∧
 (∀ {α:Type} (a:bn α) (b:α→bn Unit),(a.nK b).pre=(a.pre∧∀ x,x=a.v→a.post x→(b x).pre)) ∧
 (∀ {α β:Type} (a:bn α) (b:α→bn β),(a.dep b).v=(a.v,(b a.v).v)) ∧
 (∀ {α:Type} (a:bn α) (b:α→bn Unit),(a.nK b).v=a.v) ∧
 (∀ {β:Type} (c:iI β),c.c.pre=c.pre) ∧
 (∀ {β:Type} (c:iI β),c.c.v=c.v) ∧
 (∀ {β:Type} (c:iI β) (i:Nat) (h:∃ g,c.args[i]? = some (.d (.sl 0 g))),(c.nil i h).pre=c.pre) ∧
 (∀ {β:Type} (c:iI β) (i:Nat) (h:∃ g,c.args[i]? = some (.d (.sl 0 g))),(c.nil i h).v=c.v) ∧
 (∀ {β:Type} (c:iI β) (i j:Nat) (cs:List D) (h:c.args[i]? = some (.d (.agg cs))) (h2:∃ g,cs[j]? = some (.sl 0 g)),(c.ES i j cs h h2).pre=c.pre) ∧
 (∀ {β:Type} (c:iI β) (i j:Nat) (cs:List D) (h:c.args[i]? = some (.d (.agg cs))) (h2:∃ g,cs[j]? = some (.sl 0 g)),(c.ES i j cs h h2).v=c.v) ∧
 (∀ {α β:Type} (a:bn α) (b:bn β),(a.and b).v=(a.v,b.v)) ∧
 (∀ {β:Type} (a:bn Unit) (b:bn β),(a.al b).v=b.v) ∧
 (∀ {β:Type} (a:bn β) (b:bn Unit),(a.ER b).v=a.v) ∧
 (∀ {β:Type} (e w:Bool) (a:bn β),(a.wh e w).v=a.v) ∧
 (∀ {β:Type} (c:iJ β),c.c.pre=c.pre) ∧
 (∀ {β:Type} (c:iJ β),c.c.v=c.v) ∧
 (∀ {β:Type} (c:iJ β) (i:Nat) (h:∃ g,c.args[i]? = some (.d (.sl 0 g))),(c.nil i h).pre=c.pre) ∧
 (∀ {β:Type} (c:iJ β) (i:Nat) (h:∃ g,c.args[i]? = some (.d (.sl 0 g))),(c.nil i h).v=c.v) ∧
 (∀ {β:Type} (c:iJ β) (x:β),c.c.post x=c.post x) ∧
 (∀ {β:Type} (c:iJ β) (i:Nat) (h:∃ g,c.args[i]? = some (.d (.sl 0 g))) (x:β),(c.nil i h).post x=c.post x) ∧
 (∀ {α β:Type} (L:α→Prop) (J:β→Prop) (a:α),qE L J (.inl a)=L a) ∧
 (∀ {α β:Type} (L:α→Prop) (J:β→Prop) (b:β),qE L J (.inr b)=J b) ∧
 (∀ {α β:Type} (L:α→Prop) (J:β→Prop) (a:α),gW L J (.inl a)=L a) ∧
 (∀ {α β:Type} (L:α→Prop) (J:β→Prop) (b:β),gW L J (.inr b)=J b) ∧
 (∀ (i:Int) (n:Nat),bN i n=(0≤i∧i < (n:Int))) ∧
 (∀ n m bytes:Nat,vE n m bytes=(n+m≤maxLen∧(n+m) * bytes≤140737488355328)) ∧
 (∀ (n:Int) (bytes:Nat),mkP n bytes=(0≤n∧n.toNat≤maxLen∧n.toNat * bytes≤140737488355328)) ∧
 (∀ α:Prop,(α→True)=True) ∧
 (∀ α:Type,(α→True)=True) ∧
 (∀ p:Prop,(True∧p)=p) ∧
 (∀ p:Prop,(p∧True)=p) ∧
 (∀ p:Prop,(p∧p)=p) ∧
 (∀ p:Prop,(True→p)=p) ∧
 (∀ p:Prop,(False→p)=True):=by
 refine ⟨?_,?_,?_,?_,?_,?_,?_,?_,?_,?_,?_,?_,?_,?_,?_,?_,?_,?_,?_,?_,?_,?_,?_,?_,?_,?_,?_,?_,?_,?_,?_,?_,?_,?_,?_,?_,?_,?_,?_,?_,?_,?_,?_,?_,?_,?_,?_,?_,?_,?_,?_,?_,?_,?_,?_,?_,?_⟩
 all_goals first | rfl | (intros; rfl) | (intros; simp)
def kk {P:Program} {T:List (Nat × TI)} (hT:nz P T) (hm:P.follows .mixedOrders=true) {f:FuncId} {fn:Func} (hf:P.funcs[f]? = some fn) (args:List AV) {α:Type} (enc:α→AV) (fl:Bool) (s:Sk α) (v:α) {pre:Prop} (ok:pre→s.a6 fun _=>True)
  (post:α→Prop:=fun _=>True) (hp:post v:=by trivial) (hv:v=s.val:=by exact id rfl) (n:Nat:=3000) (hb:fn.body.isSome=true:=by exact id (by kernel_rfl)) (hc:(fq P f&&Nat.ble args.length fn.ntmps)=true:=by exact id (by kernel_rfl))
  (h:pE P T fn.ntmps fn.results.toList (EM fn.results.toList) 0 [] n [.code (fn.body.get hb)] ⟨dW 0 args,[]⟩ (fun a=>.ret (enc a) []) s=(pE P T fn.ntmps fn.results.toList (EM fn.results.toList) 0 [] n [.code (fn.body.get hb)] ⟨dW 0 args,[]⟩ (fun a=>.ret (enc a) []) s).diag:=by exact id (by kernel_rfl)):iI α :=
 ⟨P,f,args,enc,fl,v,pre,fun hp=>hv ▸ eC.sk hT hm enc (fun _=>[]) hf (Option.some_get hb).symm hc n s h (ok hp),post,hp⟩
theorem u0 {c:Prop} (f:c) (_:True):c:=f
theorem u2 {a b c:Prop} (f:a→b→c) (h:a∧b):c:=f h.1 h.2
theorem u3 {a b c d:Prop} (f:a→b→c→d) (h:a∧b∧c):d:=f h.1 h.2.1 h.2.2
theorem u4 {a b c d e:Prop} (f:a→b→c→d→e) (h:a∧b∧c∧d):e:=f h.1 h.2.1 h.2.2.1 h.2.2.2
theorem u5 {a b c d e g:Prop} (f:a→b→c→d→e→g) (h:a∧b∧c∧d∧e):g:=f h.1 h.2.1 h.2.2.1 h.2.2.2.1 h.2.2.2.2
theorem u6 {a b c d e g i:Prop} (f:a→b→c→d→e→g→i) (h:a∧b∧c∧d∧e∧g):i:=f h.1 h.2.1 h.2.2.1 h.2.2.2.1 h.2.2.2.2.1 h.2.2.2.2.2
theorem u7 {a b c d e g i j:Prop} (f:a→b→c→d→e→g→i→j) (h:a∧b∧c∧d∧e∧g∧i):j:=f h.1 h.2.1 h.2.2.1 h.2.2.2.1 h.2.2.2.2.1 h.2.2.2.2.2.1 h.2.2.2.2.2.2
def kp {P:Program} {T:List (Nat × TI)} (hT:nz P T) (hm:P.follows .mixedOrders=true) {f:FuncId} {fn:Func} (hf:P.funcs[f]? = some fn) (args:List AV) {α:Type} (enc:α→AV) (fl:Bool) {s:Sk α} (v:α) {pre:Prop} (ok:pre→s.a6 fun _=>True)
  {post:α→Prop} (hq:s.cC post) (hv:v=s.val:=by exact id rfl) (n:Nat:=3000) (hb:fn.body.isSome=true:=by exact id (by kernel_rfl)) (hc:(fq P f&&Nat.ble args.length fn.ntmps)=true:=by exact id (by kernel_rfl))
  (h:pE P T fn.ntmps fn.results.toList (EM fn.results.toList) 0 [] n [.code (fn.body.get hb)] ⟨dW 0 args,[]⟩ (fun a=>.ret (enc a) []) s=(pE P T fn.ntmps fn.results.toList (EM fn.results.toList) 0 [] n [.code (fn.body.get hb)] ⟨dW 0 args,[]⟩ (fun a=>.ret (enc a) []) s).diag:=by exact id (by kernel_rfl)):iI α :=
 ⟨P,f,args,enc,fl,v,pre,fun hp=>hv ▸ eC.sk hT hm enc (fun _=>[]) hf (Option.some_get hb).symm hc n s h (ok hp),post,hv ▸ Sk.cI s hq⟩
@[simp] theorem ai3 {P:Program} {T:List (Nat × TI)} (hT:nz P T) (hm:P.follows .mixedOrders=true) {f:FuncId} {fn:Func} (hf:P.funcs[f]? = some fn) (args:List AV) {α:Type} (enc:α→AV) (fl:Bool) (s:Sk α) (v:α) {pre:Prop} (ok:pre→s.a6 fun _=>True) (post:α→Prop) (hp:post v) (hv:v=s.val) (n:Nat) (hb:fn.body.isSome=true) (hc:(fq P f&&Nat.ble args.length fn.ntmps)=true) (h:pE P T fn.ntmps fn.results.toList (EM fn.results.toList) 0 [] n [.code (fn.body.get hb)] ⟨dW 0 args,[]⟩ (fun a=>.ret (enc a) []) s=(pE P T fn.ntmps fn.results.toList (EM fn.results.toList) 0 [] n [.code (fn.body.get hb)] ⟨dW 0 args,[]⟩ (fun a=>.ret (enc a) []) s).diag):(kk hT hm hf args enc fl s v ok post hp hv n hb hc h).v=v:=rfl
@[simp] theorem ah9 {P:Program} {T:List (Nat × TI)} (hT:nz P T) (hm:P.follows .mixedOrders=true) {f:FuncId} {fn:Func} (hf:P.funcs[f]? = some fn) (args:List AV) {α:Type} (enc:α→AV) (fl:Bool) (s:Sk α) (v:α) {pre:Prop} (ok:pre→s.a6 fun _=>True) (post:α→Prop) (hp:post v) (hv:v=s.val) (n:Nat) (hb:fn.body.isSome=true) (hc:(fq P f&&Nat.ble args.length fn.ntmps)=true) (h:pE P T fn.ntmps fn.results.toList (EM fn.results.toList) 0 [] n [.code (fn.body.get hb)] ⟨dW 0 args,[]⟩ (fun a=>.ret (enc a) []) s=(pE P T fn.ntmps fn.results.toList (EM fn.results.toList) 0 [] n [.code (fn.body.get hb)] ⟨dW 0 args,[]⟩ (fun a=>.ret (enc a) []) s).diag):(kk hT hm hf args enc fl s v ok post hp hv n hb hc h).pre=pre:=rfl
@[simp] theorem ag1 {P:Program} {T:List (Nat × TI)} (hT:nz P T) (hm:P.follows .mixedOrders=true) {f:FuncId} {fn:Func} (hf:P.funcs[f]? = some fn) (args:List AV) {α:Type} (enc:α→AV) (fl:Bool) (s:Sk α) (v:α) {pre:Prop} (ok:pre→s.a6 fun _=>True) (post:α→Prop) (hp:post v) (hv:v=s.val) (n:Nat) (hb:fn.body.isSome=true) (hc:(fq P f&&Nat.ble args.length fn.ntmps)=true) (h:pE P T fn.ntmps fn.results.toList (EM fn.results.toList) 0 [] n [.code (fn.body.get hb)] ⟨dW 0 args,[]⟩ (fun a=>.ret (enc a) []) s=(pE P T fn.ntmps fn.results.toList (EM fn.results.toList) 0 [] n [.code (fn.body.get hb)] ⟨dW 0 args,[]⟩ (fun a=>.ret (enc a) []) s).diag):(kk hT hm hf args enc fl s v ok post hp hv n hb hc h).post=post:=rfl
theorem okT {p:Prop} (h:p:=by
 all_goals (repeat' first | assumption | (apply And.intro) | (intro h))
 all_goals first | trivial | assumption | omega | ((try simp only [LN] at *) <;> first | omega | (refine (ar ?_ ?_).trans ?_ <;> omega) | (simp (disch:=omega) only [ar] at *; omega) | (grind) | (simp_all; done) | (simp_all; omega))):p:=h
theorem od {p:Prop} (h:p:=by
 refine Sk.aG _ ?_
 simp only [Sk.gL,Sk.aA,reduceCtorEq,qE,gW,bn.z,bn.p,bn.t,bn.pt,bn.o,bn.and,bn.al,bn.ER,bn.wh,bn.dep,bn.nK,iI.c,kk,kp,iI.nil,iI.ES,iJ.c,iJ.nil,Sk.cC,Sk.ct,maxLen,implies_true,true_and,and_true,and_self,true_implies,false_implies,bN,vE,mkP]):p:=h
theorem nF {p:Prop} (h:p:=by
 refine Sk.aG _ ?_
 simp only [Sk.gL,Sk.aA,reduceCtorEq,qE,gW,bn.z,bn.p,bn.t,bn.pt,bn.o,bn.and,bn.al,bn.ER,bn.wh,bn.dep,bn.nK,iI.c,kk,kp,iI.nil,iI.ES,iJ.c,iJ.nil,Sk.cC,Sk.ct,maxLen,implies_true,true_and,and_true,and_self,true_implies,false_implies,bN,vE,mkP]
 all_goals (repeat' first | assumption | (apply And.intro) | (intro h))
 all_goals first | trivial | assumption | omega | ((try simp only [LN] at *) <;> first | omega | (refine (ar ?_ ?_).trans ?_ <;> omega) | (simp (disch:=omega) only [ar] at *; omega) | (grind) | (simp_all; done) | (simp_all; omega))):p:=h
theorem GD {p:Prop} (h:p:=by
 refine Sk.aG _ ?_
 simp only [Sk.gL,Sk.aA,reduceCtorEq,qE,gW,bn.z,bn.p,bn.t,bn.pt,bn.o,bn.and,bn.al,bn.ER,bn.wh,bn.dep,bn.nK,iI.c,kk,kp,iI.nil,iI.ES,iJ.c,iJ.nil,Sk.cC,Sk.ct,forall_eq,Sum.forall,maxLen,implies_true,true_and,and_true,and_self,true_implies,false_implies,bN,vE,mkP]
 all_goals (repeat' first | assumption | (apply And.intro) | (intro h))
 all_goals first | trivial | assumption | omega | ((try simp only [LN] at *) <;> first | omega | (refine (ar ?_ ?_).trans ?_ <;> omega) | (simp (disch:=omega) only [ar] at *; omega) | (grind) | (simp_all; done) | (simp_all; omega))):p:=h
theorem ET {p:Prop} (h:p:=by
 refine Sk.aP _ ?_
 simp only [Sk.aA,reduceCtorEq,qE,gW,bn.z,bn.p,bn.t,bn.pt,bn.o,bn.and,bn.al,bn.ER,bn.wh,bn.dep,bn.nK,iI.c,kk,kp,iI.nil,iI.ES,iJ.c,iJ.nil,Sk.ct,maxLen,implies_true,true_and,and_true,and_self,true_implies,false_implies,bN,vE,mkP]
 all_goals (repeat' first | assumption | (apply And.intro) | (intro h))
 all_goals first | trivial | assumption | omega | ((try simp only [LN] at *) <;> first | omega | (refine (ar ?_ ?_).trans ?_ <;> omega) | (simp (disch:=omega) only [ar] at *; omega) | (grind) | (simp_all; done) | (simp_all; omega))):p:=h
theorem X9 {p:Prop} (h:p:=by
 refine Sk.aP _ ?_
 simp only [Sk.aA,reduceCtorEq,qE,gW,bn.z,bn.p,bn.t,bn.pt,bn.o,bn.and,bn.al,bn.ER,bn.wh,bn.dep,bn.nK,iI.c,kk,kp,iI.nil,iI.ES,iJ.c,iJ.nil,Sk.ct,forall_eq,Sum.forall,maxLen,implies_true,true_and,and_true,and_self,true_implies,false_implies,bN,vE,mkP]
 all_goals (repeat' first | assumption | (apply And.intro) | (intro h))
 all_goals first | trivial | assumption | omega | ((try simp only [LN] at *) <;> first | omega | (refine (ar ?_ ?_).trans ?_ <;> omega) | (simp (disch:=omega) only [ar] at *; omega) | (grind) | (simp_all; done) | (simp_all; omega))):p:=h
theorem WG {α σ β:Type} {step:α→σ→β ⊕ σ} {I:Nat→σ→Prop} {Q:β→Prop}:∀ (l:List α) (k0:Nat) (s:σ),(∀ k x s,x∈l→I k s→match step x s with | .inl b=>Q b | .inr s'=>I (k+1) s')→I k0 s →
  (∃ b,Q b∧∀ fin,walk step fin l s=b)∨∃ s',I (k0+l.length) s'∧∀ fin,walk step fin l s=fin s'
 | [],k0,s,_,h0=>.inr ⟨s,h0,fun _=>rfl⟩
 | x :: r,k0,s,h,h0=>by
  have hx:=h k0 x s (by simp) h0
  simp only [walk]
  cases hs:step x s with
  | inl b=>rw [hs] at hx; exact .inl ⟨b,hx,fun _=>rfl⟩
  | inr s' =>
   rw [hs] at hx
   rcases WG r (k0+1) s' (fun k y t hy=>h k y t (List.mem_cons_of_mem _ hy)) hx with ⟨b,q,e⟩ | ⟨t,q,e⟩
   ·exact .inl ⟨b,q,e⟩
   ·exact .inr ⟨t,by rw [List.length_cons,show k0+(r.length+1)=k0+1+r.length by omega]; exact q,e⟩
theorem mo {α σ γ δ ι:Type} [Inhabited α] (l:List α) (pack:σ→Nat→ι) {f:ι→(γ ⊕ δ) ⊕ ι} {d:γ ⊕ δ} (step:α→σ→γ ⊕ σ) (fin:σ→δ) (g:δ→γ)
  (hs:∀ s i,i < l.length→f (pack s i)=match step (l.getD i default) s with | .inl b=>.inl (.inl b) | .inr s'=>.inr (pack s' (i+1)))
  (he:∀ s,f (pack s l.length)=.inl (.inr (fin s))) {n:Nat} (hn:l.length < n) (s:σ):j2 (iter f d n (pack s 0)) g=walk step (fun s=>g (fin s)) l s:=by
 rw [oV (d:=d) l pack (fun x s=>match step x s with | .inl b=>.inl (.inl b) | .inr s'=>.inr s') (fun s=>.inr (fin s)) (fun s i hi=>by rw [hs s i hi]; cases step (l.getD i default) s <;> rfl) he hn s]
 clear hs he
 induction l generalizing s with
 | nil=>rfl
 | cons x r ih =>
  simp only [walk]
  cases step x s with
  | inl b=>rfl
  | inr s'=>exact ih (by simp at hn; omega) s'
section
structure tf (P:Program) (fi:FuncId) (nt:Nat) (ys:List (List AV)) where
 l:Nat
 w0:World
 S:Nat→Prop
 J:Nat→(Nat→Prop)→World→Prop
 Jx:(Nat→Prop)→World→Prop
 jk:∀ i F W W',J i F W→Kept W W' (fun b=>w0.heap.size≤b∧¬ F b∧¬ S b)→J i F W'
 jxk:∀ F W W',Jx F W→Kept W W' (fun b=>w0.heap.size≤b∧¬ F b∧¬ S b)→Jx F W'
 yl:∀ i F W (vs:Array Value),i < ys.length→J i F W→(∀ ν,dq W (fun _=>False) (fun _=>none) ν (ys.getD i []) vs.toList)→YieldAt Fence.wide 0 P l vs W fun e W'=>∃ F',(∀ b,F' b→F b∨W.heap.size≤b)∧(∀ b,F' b→b < W'.heap.size)∧Kept W W' F∧((e=.returned (.bool true)∧J (i+1) F' W')∨(e=.returned (.bool false)∧Jx F' W'))
variable {P : Program} {fi : FuncId} {nt : Nat} {ys : List (List AV)}
def tf.yv (X:tf P fi nt ys):Value:=.func (.yield X.l) #[] #[]
structure tf.Rt (X:tf P fi nt ys) (F:Nat→Prop) (C:Cx):Prop where
 dl:C.dl=[]
 sz:X.w0.heap.size≤C.w0.heap.size
 sub:∀ b,X.S b→C.S0 b
 dis:∀ b,C.S0 b→¬ F b
 Eo:∀ b,F b→b < C.w0.heap.size
 own:∀ b,C.T0 b→¬ F b∧X.w0.heap.size≤b
def tf.H (X:tf P fi nt ys) (i:Nat) (C:Cx):Prop:=∃ F,X.Rt F C∧X.J i F C.w0
def tf.acM (X:tf P fi nt ys) (C:Cx):Prop:=∃ F,X.Rt F C∧X.Jx F C.w0
def tf.Fin (X:tf P fi nt ys) (cs:List Frame) (m:Machine):Prop:=∃ v w' fr,((∃ F,X.J ys.length F w')∨∃ F,X.Jx F w')∧Steps P m (lone fr cs w')∧fr.fn=fi∧fr.leaving P w' (.returned v)
theorem tf.Fin.steps {X:tf P fi nt ys} {cs:List Frame} {m m':Machine} (hs:Steps P m m') (h:X.Fin cs m'):X.Fin cs m :=
 let ⟨v,w',fr,q1,q2,q3⟩:=h
 ⟨v,w',fr,q1,hs.trans q2,q3⟩
def tf.g (X:tf P fi nt ys) (T:List (Nat × TI)) (fn:Func) (H:Cx→Prop):Goal :=
 ⟨P,T,nt,fi,fn,.any,[],2,[0],#[X.yv],fun C _ cs m=>H C→X.Fin cs m,fun _ _ cs m m' hs hz h=>.steps hs (hz h)⟩
theorem tf.Rt.still {X:tf P fi nt ys} {F:Nat→Prop} {C:Cx} {A:M} {a:Act} {w:World} {S:Nat→Prop} {μ:Mu} {ν:Nat→Bool} (hF:X.Rt F C) (h:cV C A a w S μ ν):Kept C.w0 w (fun b=>X.w0.heap.size≤b∧¬ F b∧¬ X.S b) :=
 h.kept.zn fun b hb=>⟨(hF.own b hb).2,(hF.own b hb).1,fun hs=>C.dis b (hF.sub b hs) hb⟩
theorem tf.yield {X:tf P fi nt ys} {F:Nat→Prop} {C:Cx} {A:M} {a:Act} {w:World} {S:Nat→Prop} {μ:Mu} {i:Nat} (cX:∀ ν,cV C A a w S μ ν) (hF:X.Rt F C) (hJ:X.J i F C.w0) (hi:i < ys.length) {vs:Array Value}
  (hr:∀ ν,dq w (fun _=>False) (fun _=>none) ν (ys.getD i []) vs.toList):YieldAt Fence.wide 0 P X.l vs w fun e W'=>∃ C',C'.P=C.P∧C'.nt=C.nt∧(∀ ν,cV C' A a W' S μ ν)∧((e=.returned (.bool true)∧X.H (i+1) C')∨(e=.returned (.bool false)∧X.acM C')):=by
 have h0:=cX fun _=>false
 obtain ⟨fn,tmps,Ly,body,h1,h2⟩:=X.yl i F w vs hi (X.jk _ _ _ _ hJ (hF.still h0)) hr
 refine ⟨fn,tmps,Ly,body,h1,h2.mono ?_⟩
 rintro e W' ⟨F',q1,q2,q3,q4⟩
 have jF:=h0.kept.size
 have nS:∀ b,S b→¬ F b:=fun b hb hf=>by
  rcases h0.fresh b hb with h | h | h
  ·exact hF.dis b h hf
  ·have:=hF.Eo b hf; omega
  ·exact (hF.own b h).1 hf
 have nO:∀ b,sx A μ b→¬ F b:=fun b hb hf=>by
  rcases h0.Ud hb with h | h
  ·have:=hF.Eo b hf; omega
  ·exact (hF.own b h).1 hf
 have hS:∀ b,S b→W'.heap[b]? = w.heap[b]?:=fun b hb=>q3.block b (h0.bound b hb) (nS b hb)
 have ug:∀ ν,Core A a.tmps W' S μ ν:=fun ν=>(cX ν).core.keep (fun _=>.inr rfl) hS (fun q hq=>q3.block q (by obtain ⟨_,_,hb⟩:=h0.core.rU hq; exact hb.lt) (nO q hq)) q3.size
 have adB:gM W' S:=h0.zU.mono (fun _ x=>x) hS
 have hrt:X.Rt F' (Cx.at C.P C.nt W' S A μ adB (ug fun _=>false).mem (ug fun _=>false).bound [] (fun d h=>by cases h) List.nodup_nil):=by
  refine ⟨rfl,Nat.le_trans hF.sz (Nat.le_trans jF q3.size),fun b hb=>h0.eB b (hF.sub b hb),fun b hb hf=>?_,q2,fun b hb=>⟨fun hf=>?_,?_⟩⟩
  ·rcases q1 b hf with h | h
   ·exact nS b hb h
   ·have:=h0.bound b hb; omega
  ·rcases q1 b hf with h | h
   ·exact nO b hb h
   ·obtain ⟨_,_,mP⟩:=h0.core.rU hb
    have:=mP.lt
    omega
  ·rcases h0.Ud hb with h | h
   ·exact Nat.le_trans hF.sz h
   ·exact (hF.own b h).2
 refine ⟨Cx.at C.P C.nt W' S A μ adB (ug fun _=>false).mem (ug fun _=>false).bound [] (fun d h=>by cases h) List.nodup_nil,rfl,rfl,fun ν=>(ug ν).sim h0.tmps _ _ _ _ _ _ (h0.defers.trans hF.dl),?_⟩
 exact q4.imp (fun ⟨a,b⟩=>⟨a,F',hrt,b⟩) (fun ⟨a,b⟩=>⟨a,F',hrt,b⟩)
def YW (X:tf P fi nt ys) (k:List Item) (ops:Array Oper) (H:Cx→Prop) (ya:List Nat) (kn:Option (Nat × Bool)) (l:List Nat) (st:St):Prop :=
 ∀ C:Cx,C.P=P→C.nt=nt→H C→∀ a w,(∀ u,u∈ya→a.tmps.getD u undef=X.yv)→(∀ s b,kn=some (s,b)→s < nt∧a.tmps.getD s undef=.bool b)→j1 C st a w →
  wpOpsIn Fence.wide 0 P ops (fun e a' w'=>e=.normal∧∀ (b:Frame) (cs:List Frame),b.fn=fi→b.kind=.normal→b.roundOf=none→X.Fin cs (lone (b.atR a' k) cs w')) l a w
variable {X : tf P fi nt ys} {k : List Item} {ops : Array Oper} {H : Cx → Prop} {ya : List Nat} {kn : Option (Nat × Bool)} {l : List Nat} {st st' : St}
theorem YW.le (h:OX st st') (hg:YW X k ops H ya kn l st'):YW X k ops H ya kn l st:=fun C h1 h2 h3 a w h4 h5 h6=>hg C h1 h2 h3 a w h4 h5 (h C a w h6)
theorem YW.nil {T:List (Nat × TI)} {fn:Func} (h0:0∈ya) (h:G (X.g T fn H) k st):YW X k ops H ya kn [] st:=fun C h1 h2 h3 a w h4 _ h6 =>
 ⟨rfl,fun b cs e1 e2 e3=>h C h1 h2 a w (fun u hu=>by
  have hu:u=0:=by simpa [tf.g] using hu
  subst hu
  exact h4 0 h0) h6 b cs e1 e2 ⟨fun _=>by show (2:Nat)≠1; decide,fun _=>e3⟩ h3⟩
theorem QH {P:Program} {o o':Oper} {a:Act} {w:World} {next next':Act→World→Prop} {Q Q':Exit→Act→World→Prop} {n:Nat} (ho:o'.op=o.op) (hd':o'.dst=o.dst) (ht:o'.type=o.type) (hd:∀ c,o.op≠.defer c) (hn:∀ a w,next a w→next' a w) (hq:∀ e a w,Q e a w→e=.normal) (h:o'.wp P a w next Q):o.wpIn Fence.wide n P a w next' Q':=by
 refine ⟨fun _ _=>trivial,?_⟩
 rw [Oper.semAt_eq _ _ _ hd]
 unfold Oper.wp at h
 have he:execOp a.eval o'=execOp a.eval o:=by
  unfold execOp
  rw [ho,ht]
 rw [he] at h
 generalize (execOp a.eval o).run P w=r at *
 have no:¬ LetsOut Q:=fun ⟨_,_,q⟩=>by cases hq _ _ _ q
 have hdp:(Fence.wide.depth.isSome=true→1≤n):=fun h=>by simp [Fence.wide] at h
 cases r with
 | ok x w' =>
  cases x <;> simp only [Oper.upon,Oper.uponIn,hd'] at h ⊢ <;>
   first
    | exact hn _ _ h
    | exact ⟨hdp,(callsIn_wide.2 h).mono (fun e w'' he=>by cases e <;> first | exact hn _ _ he | exact absurd (hq _ _ _ he) (by simp) | exact absurd he no)⟩
    | exact ⟨hdp,fun c cs _=>by obtain ⟨v,w'',q,s⟩:=h c cs; exact ⟨v,w'',hn _ _ q,stepsIn_wide.2 s⟩⟩
 | halt x w'=>cases x <;> simp only [Oper.upon,Oper.uponIn] at h ⊢ <;> first | exact h.elim | exact absurd (hq _ _ _ h) (by simp)
theorem Us {P:Program} {pre ops:Array Oper} {Q Q':Exit→Act→World→Prop} {l:List Nat} (LV:∀ i,i < pre.size→ops[i]? = pre[i]?) (hg:(pre.toList.all fun o=>match o.guard with | some (j,_)=>Nat.blt j pre.size | none=>true)=true) (hd:lU pre=true) (hq:∀ e a w,Q e a w→e=.normal) :
  ∀ (is:List Nat),(∀ i,i∈is→i < pre.size)→∀ a w,wpOps P pre Q is a w→(∀ a' w',Q .normal a' w'→wpOpsIn Fence.wide 0 P ops Q' l a' w')→wpOpsIn Fence.wide 0 P ops Q' (is++l) a w
 | [],_,a,w,h,hk=>hk a w h
 | i :: is,hi,a,w,h,hk=>by
  have dK:=hi i (by simp)
  have ih:=Us (P:=P) (l:=l) (Q':=Q') LV hg hd hq is (fun j hj=>hi j (by simp [hj]))
  simp only [wpOps,List.cons_append,wpOpsIn] at h ⊢
  rw [LV i dK]
  cases ho:pre[i]? with
  | none=>rw [ho] at h; exact ih a w h hk
  | some o =>
   rw [ho] at h
   simp only at h ⊢
   have hw:Region.wanted o (yielded ops a.tmps)=Region.wanted o (yielded pre a.tmps):=by
    unfold Region.wanted
    cases hgd:o.guard with
    | none=>rfl
    | some jw =>
     obtain ⟨j,want⟩:=jw
     simp only [List.all_eq_true] at hg
     have:=hg o (by obtain ⟨hi,rfl⟩:=Array.getElem?_eq_some_iff.1 ho; simp)
     rw [hgd] at this
     have hj:j < pre.size:=by simpa using this
     simp only [yielded,LV j hj]
   rw [hw]
   split
   ·rename_i hw
    rw [if_pos hw] at h
    rcases h with h | ⟨_,_,_,q⟩
    ·exact QH rfl rfl rfl (uf hd ho) (fun a' w' hh=>ih a' w' hh hk) hq h
    ·cases hq _ _ _ q
   ·rename_i hw
    rw [if_neg hw] at h
    exact ⟨fun _ _=>trivial,ih _ w h hk⟩
theorem G5 {l:List Nat} {o:Oper} (h:sR l #[o]=true) {a:Act} {v:Value} {u:Nat} (hu:u∈l):(a.put o.dst v).tmps.getD u undef=a.tmps.getD u undef:=by
 simp only [sR,List.all_eq_true] at h
 have h1:=h u hu o (by simp)
 cases hd:o.dst with
 | none=>rfl
 | some d =>
  rw [hd] at h1
  exact cO _ _ _ _ (fun e=>by subst e; simp at h1)
theorem Ut {l:List Nat} {pre:Array Oper} (h:sR l pre=true) {K:Array Value→Prop} (hK:∀ t t':Array Value,(∀ u,u∈l→t'.getD u undef=t.getD u undef)→K t→K t'):T7 pre K:=fun i o a v ho hk =>
 hK _ _ (fun u hu=>G5 (l:=l) (by
  simp only [sR,List.all_eq_true] at h ⊢
  intro t ht o' XG
  have:o'=o:=by simpa using XG
  subst this
  exact h t ht o' (by obtain ⟨hi,rfl⟩:=Array.getElem?_eq_some_iff.1 ho; simp)) hu) hk
def knL:Option (Nat × Bool)→List Nat
 | some (s,_)=>[s]
 | none=>[]
theorem YW.pre {T:List (Nat × TI)} (hT:nz P T) (hm:P.follows .mixedOrders=true) {pre:Array Oper} {jN:List Bq} {ob:Ob} (LV:∀ i,i < pre.size→ops[i]? = pre[i]?) (hg:(pre.toList.all fun o=>match o.guard with | some (j,_)=>Nat.blt j pre.size | none=>true)=true) (hd:lU pre=true) (hya:sR ya pre=true)
  (hr:pI P T nt pre false none st jN=some (st',ob)) (bT:ob.den) (h:YW X k ops H ya none l st'):YW X k ops H ya none (List.range pre.size++l) st:=by
 intro C h1 h2 h3 a w h4 h5 h6
 have hw:=C4 (C:=C) (T:=T) (by rw [h1]; exact hT) (by rw [h1]; exact hm) (by rw [h1,h2]; exact hr) bT h6
 rcases hw with ⟨-,hw⟩ | ⟨e,-⟩
 ·rw [h1] at hw
  have hw:=tL (K:=fun t=>∀ u,u∈ya→t.getD u undef=X.yv) (Ut hya fun t t' he hk u hu=>(he u hu).trans (hk u hu)) (fun e a w h=>h.1) _ a w h4 hw
  exact Us LV hg hd (fun e a w h=>h.1.1) _ (fun i hi=>List.mem_range.1 hi) a w hw fun a' w' hh=>h C h1 h2 h3 a' w' hh.2 (fun s b e=>by cases e) hh.1.2
 ·cases e
def EU (ops:Array Oper) (kn:Option (Nat × Bool)) (o:Oper):Option Bool :=
 match o.guard with
 | none=>some true
 | some (j,w)=>(match Br ops j,kn with
  | some s,some (s',b)=>bif Nat.beq s s' then some (b == w) else none
  | _,_=>none)
theorem xo {o:Oper} {b:Bool} (h:EU ops kn o=some b) {a:Act} (hk:∀ s b,kn=some (s,b)→s < a.tmps.size∧a.tmps.getD s undef=.bool b):Region.wanted o (yielded ops a.tmps)=b:=by
 unfold EU at h
 unfold Region.wanted
 cases hgd:o.guard with
 | none=>rw [hgd] at h; simpa using h
 | some jw =>
  obtain ⟨j,want⟩:=jw
  rw [hgd] at h
  simp only at h ⊢
  split at h
  ·rename_i s s' b' hs
   rw [Bool.cond_eq_ite] at h
   split at h
   ·rename_i he
    have he:=Nat.eq_of_beq_eq_true he
    subst he
    obtain ⟨q1,q2⟩:=hk _ _ rfl
    rw [T4 hs q1,q2]
    simp only [Option.some.injEq] at h
    subst h
    cases b' <;> cases want <;> rfl
   ·cases h
  ·cases h
theorem j1.drop {C:Cx} {a:Act} {w:World} {d:Nat} (h:j1 C st a w) (hd:d < C.nt) (v:Value):j1 C ⟨aM [d] st.sl,st.lb⟩ (a.put (some d) v) w:=by
 obtain ⟨S,μ,hs⟩:=h
 refine ⟨S,μ,fun ν=>?_⟩
 have:=(hs ν).put (dst:=some d) (x:=.any) (v:=v) (fun t e=>by cases e; exact hd) (.any _)
 refine this.weaken (fun u x hx=>?_) (fun κ b hb=>⟨b,hb,fun _ h=>h⟩)
 simp only [St.fB,M.wZ,M.put] at hx ⊢
 by_cases e:u=d
 ·subst e
  have:St.get (aM [u] st.sl) u=.any:=by simp [St.get,mn]
  rw [this]
  exact .any _
 ·simp only [e,if_false] at hx
  have:St.get (aM [d] st.sl) u=St.get st.sl u:=by simp [St.get,mn,e]
  rw [this]
  exact hx
theorem j1.agl {C:Cx} {a:Act} {w:World} {d:Nat} (h:j1 C st a w) (hd:d < C.nt) {x:AV} {v:Value} (hx:∀ S μ,(∀ ν,cV C st.fB a w S μ ν)→∀ ν,Rel w S μ ν x v):j1 C ⟨(d,x) :: aM [d] st.sl,st.lb⟩ (a.put (some d) v) w:=by
 obtain ⟨S,μ,hs⟩:=h
 refine ⟨S,μ,fun ν=>?_⟩
 have:=(hs ν).put (dst:=some d) (x:=x) (v:=v) (fun t e=>by cases e; exact hd) (hx S μ hs ν)
 refine this.weaken (fun u y hy=>?_) (fun κ b hb=>⟨b,hb,fun _ h=>h⟩)
 simp only [St.fB,M.wZ,M.put] at hy ⊢
 rw [Lw]
 by_cases e:u=d
 ·subst e; simpa using hy
 ·rw [if_neg (fun h=>e h.symm)]; simpa [e] using hy
theorem MO {o:Oper} (h:sR (ya++knL kn) #[o]=true) {a:Act} (v:Value) (h4:∀ u,u∈ya→a.tmps.getD u undef=X.yv) (h5:∀ s b,kn=some (s,b)→s < nt∧a.tmps.getD s undef=.bool b) :
  (∀ u,u∈ya→(a.put o.dst v).tmps.getD u undef=X.yv)∧∀ s b,kn=some (s,b)→s < nt∧(a.put o.dst v).tmps.getD s undef=.bool b :=
 ⟨fun u hu=>(G5 h (by simp [hu])).trans (h4 u hu),fun s b e=>⟨(h5 s b e).1,(G5 h (by simp [knL,e])).trans (h5 s b e).2⟩⟩
theorem tg {P:Program} {Q:Exit→Act→World→Prop} {i:Nat} {o:Oper} {a:Act} {w:World} (ho:ops[i]? = some o) (hw:Region.wanted o (yielded ops a.tmps)=true) (h:o.wpIn Fence.wide 0 P a w (wpOpsIn Fence.wide 0 P ops Q l) Q):wpOpsIn Fence.wide 0 P ops Q (i :: l) a w:=by
 simp only [wpOpsIn,ho,hw,if_true]
 exact h
theorem YW.op {T:List (Nat × TI)} (hT:nz P T) (hm:P.follows .mixedOrders=true) {i:Nat} {o:Oper} {ob:Ob} (ho:ops[i]? = some o) (hw:EU ops kn o=some true) (hd:lU #[o]=true) (hya:sR (ya++knL kn) #[o]=true)
  (hr:pI P T nt #[{ o with guard:=none }] false none st []=some (st',ob)) (bT:ob.den) (h:YW X k ops H ya kn l st'):YW X k ops H ya kn (i :: l) st:=by
 intro C h1 h2 h3 a w h4 h5 h6
 have jF:a.tmps.size=nt:=by obtain ⟨S,μ,hs⟩:=h6; exact (hs fun _=>false).tmps.trans h2
 refine tg ho (xo hw fun s b e=>⟨jF ▸ (h5 s b e).1,(h5 s b e).2⟩) ?_
 have hw:=C4 (C:=C) (T:=T) (by rw [h1]; exact hT) (by rw [h1]; exact hm) (by rw [h1,h2]; exact hr) bT h6
 rcases hw with ⟨-,hw⟩ | ⟨e,-⟩
 ·rw [h1] at hw
  have hw:=tL (K:=fun t=>(∀ u,u∈ya→t.getD u undef=X.yv)∧∀ s b,kn=some (s,b)→s < nt∧t.getD s undef=.bool b) (fun j o' a v XG hk=>by
   have e:o' = { o with guard:=none }:=by
    match j,XG with
    | 0,XG=>simpa using XG.symm
    | j+1,XG=>simp at XG
   subst e
   exact MO (o:=o) hya v hk.1 hk.2) (fun e a w h=>h.1) _ a w ⟨h4,h5⟩ hw
  have e1:List.range (#[{ o with guard:=none }]:Array Oper).size=[0]:=rfl
  rw [e1] at hw
  simp only [wpOps,Region.wanted] at hw
  rcases hw with hw | ⟨_,_,_,q⟩
  ·exact QH (o':={ o with guard:=none }) rfl rfl rfl (uf (ops:=#[o]) hd (i:=0) rfl) (fun a' w' hh=>h C h1 h2 h3 a' w' hh.2.1 hh.2.2 hh.1.2) (fun e a w h=>h.1.1) hw
  ·cases q.1.1
 ·cases e
theorem YW.skip {i d:Nat} {o:Oper} (ho:ops[i]? = some o) (hw:EU ops kn o=some false) (hd:o.dst=some d) (hdn:d < nt) (hya:sR (ya++knL kn) #[o]=true) (h:YW X k ops H ya kn l ⟨aM [d] st.sl,st.lb⟩):YW X k ops H ya kn (i :: l) st:=by
 intro C h1 h2 h3 a w h4 h5 h6
 have jF:a.tmps.size=nt:=by obtain ⟨S,μ,hs⟩:=h6; exact (hs fun _=>false).tmps.trans h2
 have hw:=xo hw (a:=a) fun s b e=>⟨jF ▸ (h5 s b e).1,(h5 s b e).2⟩
 obtain ⟨q1,q2⟩:=MO hya undef h4 h5
 simp only [wpOpsIn,ho,hw]
 exact ⟨fun _ _=>trivial,h C h1 h2 h3 _ w q1 q2 (by rw [hd]; exact h6.drop (by rw [h2]; exact hdn) _)⟩
theorem YW.value {i d:Nat} {o:Oper} {x:AV} (ho:ops[i]? = some o) (hw:EU ops kn o=some true) (hd:o.dst=some d) (hdn:d < nt) (hdf:lU #[o]=true) (hya:sR (ya++knL kn) #[o]=true)
  (hx:∀ (a:Act) (w:World),(∀ u,u∈ya→a.tmps.getD u undef=X.yv)→(∀ s b,kn=some (s,b)→s < nt∧a.tmps.getD s undef=.bool b)→∃ v,(execOp a.eval o).run P w=.ok (.value v) w∧∀ C S μ,C.P=P→(∀ ν,cV C st.fB a w S μ ν)→∀ ν,Rel w S μ ν x v)
  (h:YW X k ops H ya kn l ⟨(d,x) :: aM [d] st.sl,st.lb⟩):YW X k ops H ya kn (i :: l) st:=by
 intro C h1 h2 h3 a w h4 h5 h6
 have jF:a.tmps.size=nt:=by obtain ⟨S,μ,hs⟩:=h6; exact (hs fun _=>false).tmps.trans h2
 refine tg ho (xo hw fun s b e=>⟨jF ▸ (h5 s b e).1,(h5 s b e).2⟩) ⟨fun _ _=>trivial,?_⟩
 obtain ⟨v,q1,q2⟩:=hx a w h4 h5
 obtain ⟨q3,q4⟩:=MO hya v h4 h5
 rw [Oper.semAt_eq _ _ _ (uf (ops:=#[o]) (o:=o) hdf (i:=0) rfl),q1]
 simp only [Oper.uponIn]
 exact h C h1 h2 h3 _ w q3 q4 (by rw [hd]; exact h6.agl (by rw [h2]; exact hdn) (fun S μ hs=>q2 C S μ h1 hs))
theorem YW.mv {i d u:Nat} {o:Oper} (ho:ops[i]? = some o) (hw:EU ops kn o=some true) (hd:o.dst=some d) (hdn:d < nt) (hya:sR (ya++knL kn) #[o]=true) (CU:o.op=.move (.tmp u)) (hu:u∈ya) (h:YW X k ops H (d :: ya) kn l ⟨aM [d] st.sl,st.lb⟩):YW X k ops H ya kn (i :: l) st:=by
 intro C h1 h2 h3 a w h4 h5 h6
 have jF:a.tmps.size=nt:=by obtain ⟨S,μ,hs⟩:=h6; exact (hs fun _=>false).tmps.trans h2
 refine tg ho (xo hw fun s b e=>⟨jF ▸ (h5 s b e).1,(h5 s b e).2⟩) ⟨fun _ _=>trivial,?_⟩
 obtain ⟨q3,q4⟩:=MO hya X.yv h4 h5
 have hv:a.eval (.tmp u)=X.yv:=h4 u hu
 have he:(execOp a.eval o).run P w=.ok (.value X.yv) w:=by
  simp only [execOp,CU,hv]
  rfl
 rw [Oper.semAt_eq _ _ _ (fun c e=>by rw [CU] at e; cases e),he]
 simp only [Oper.uponIn]
 refine h C h1 h2 h3 _ w (fun u' hu'=>?_) q4 (by rw [hd]; exact h6.drop (by rw [h2]; exact hdn) _)
 rcases List.mem_cons.1 hu' with e | e
 ·subst e
  rw [hd]
  exact gV _ _ _ (by rw [jF]; exact hdn)
 ·exact q3 u' e
theorem YW.yl {i d u n:Nat} {o:Oper} {c:Call} {ts:List Nat} {y:List AV} (ho:ops[i]? = some o) (hw:EU ops kn o=some true) (hd:o.dst=some d) (hdn:d < nt) (hya:sR (ya++knL kn) #[o]=true) (CU:o.op=.call c) (hc:c.callee=.value (.tmp u)) (hu:u∈ya)
  (hn:ys[n]? = some y) (ha:c.args.toList=ts.map .tmp) (hy:ts.map (St.get st.sl)=y) (hf:y.all fw=true)
  (hon:YW X k ops (X.H (n+1)) ya kn l ⟨(d,.d (.v (.bool true))) :: aM [d] st.sl,st.lb⟩) (aex:YW X k ops X.acM ya kn l ⟨(d,.d (.v (.bool false))) :: aM [d] st.sl,st.lb⟩):YW X k ops (X.H n) ya kn (i :: l) st:=by
 intro C h1 h2 h3 a w h4 h5 h6
 have jF:a.tmps.size=nt:=by obtain ⟨S,μ,hs⟩:=h6; exact (hs fun _=>false).tmps.trans h2
 refine tg ho (xo hw fun s b e=>⟨jF ▸ (h5 s b e).1,(h5 s b e).2⟩) ⟨fun _ _=>trivial,?_⟩
 obtain ⟨S,μ,cX⟩:=h6
 obtain ⟨F,hF,hJ⟩:=h3
 have dK:n < ys.length:=(List.getElem?_eq_some_iff.1 hn).1
 have hyn:ys.getD n []=y:=by simp [List.getD,hn]
 have lT:(c.args.map a.eval).toList=ts.map fun t=>a.tmps.getD t undef:=by
  rw [Array.toList_map,ha,List.map_map]
  rfl
 have hrel:∀ ν,dq w (fun _=>False) (fun _=>none) ν (ys.getD n []) (c.args.map a.eval).toList:=fun ν=>by
  rw [hyn,lT]
  subst hy
  refine ⟨by simp,fun j hj=>?_⟩
  have Ek:j < ts.length:=by simpa using hj
  have h1:=(cX ν).dG ts[j]
  have h2:fw (St.get st.sl ts[j])=true:=by
   simp only [List.all_eq_true] at hf
   exact hf _ (List.mem_map.2 ⟨_,List.getElem_mem Ek,rfl⟩)
  have h3:=Qs h2 (w':=w) (S':=fun _=>False) (μ':=fun _=>none) (ν':=ν) h1
  simpa [List.getD,Ek,St.fB] using h3
 have hv:a.eval (.tmp u)=X.yv:=h4 u hu
 obtain ⟨fn,tmps,Ly,body,q1,q2⟩:=X.yield cX hF hJ dK hrel
 have he:(execOp a.eval o).run P w=(Instr.yield X.l (c.args.map a.eval)).run P w:=by
  simp only [execOp,CU,resolve,hc,hv,tf.yv,Deferred.ofValue]
  simp [invoke,go_sem]
 rw [Oper.semAt_eq _ _ _ (fun c e=>by rw [CU] at e; cases e),he,q1]
 refine ⟨fun h=>by simp [Fence.wide] at h,q2.mono ?_⟩
 rintro e W' ⟨C',c1,c2,c3,c4⟩
 have fin:∀ (b:Bool) (H':Cx→Prop),H' C'→YW X k ops H' ya kn l ⟨(d,.d (.v (.bool b))) :: aM [d] st.sl,st.lb⟩→wpOpsIn Fence.wide 0 P ops (fun e a' w'=>e=.normal∧∀ (b:Frame) (cs:List Frame),b.fn=fi→b.kind=.normal→b.roundOf=none→X.Fin cs (lone (b.atR a' k) cs w')) l (a.put o.dst (.bool b)) W':=by
  intro b H' hH hYW
  obtain ⟨q3,q4⟩:=MO hya (.bool b) h4 h5
  exact hYW C' (c1.trans h1) (c2.trans h2) hH _ W' q3 q4 (by rw [hd]; exact j1.agl ⟨S,μ,c3⟩ (by rw [c2,h2]; exact hdn) (fun S μ _ ν=>gF rfl))
 rcases c4 with ⟨rfl,hH⟩ | ⟨rfl,hH⟩
 ·exact fin true _ hH hon
 ·exact fin false _ hH aex
def evC (P:Program) (T:List (Nat × TI)) (nt:Nat) (pre:Array Oper) (st:St) (jN:List Bq) (jL:Option Prop) (J:St):CT :=
 match pI P T nt pre false none st jN with
 | some (st',ob)=>.two ob.eqs (.two (.po ob.prop jL) (Pe st' J))
 | none=>.bad
theorem aa4 {P:Program} {T:List (Nat × TI)} {nt:Nat} {pre:Array Oper} {jN:List Bq} {jL:Option Prop} {J:St} (h:(evC P T nt pre st jN jL J).ok) (hc:∀ p,jL=some p→p):∃ st' ob,pI P T nt pre false none st jN=some (st',ob)∧ob.den∧OX st' J:=by
 unfold evC at h
 split at h
 ·rename_i st' ob hr
  obtain ⟨h1,h2,h3⟩:=h
  have h2:ob.prop=jL:=h2
  exact ⟨st',ob,hr,Ob.GX h1 (fun p hp=>hc p (h2 ▸ hp)),vD h3⟩
 ·exact h.elim
def preB (ya:List Nat) (pre:Array Oper):Bool:=(pre.toList.all fun o=>match o.guard with | some (j,_)=>Nat.blt j pre.size | none=>true)&&lU pre&&sR ya pre
theorem YW.aia {T:List (Nat × TI)} (hT:nz P T) (hm:P.follows .mixedOrders=true) {α:Type} (cl:bn α) (j:Nat) (J:α→St) (hb:preB ya ((ops.toList.take j).toArray)=true) (hj:j≤ops.size)
  (h:∀ x,evC P T nt ((ops.toList.take j).toArray) st (cl.jN x) (cl.jL x) (J x)=(evC P T nt ((ops.toList.take j).toArray) st (cl.jN x) (cl.jL x) (J x)).diag) (hp:cl.pre) (hk:YW X k ops H ya none (List.range' j (ops.size - j)) (J cl.v)):YW X k ops H ya none (List.range ops.size) st:=by
 obtain ⟨st',ob,hr,bT,hle⟩:=aa4 (CT.Ak (h cl.v)) (fun p e=>cl.pf hp p e)
 simp only [preB,Bool.and_eq_true] at hb
 have jF:((ops.toList.take j).toArray).size=j:=by simp; omega
 have:=YW.pre (ops:=ops) (H:=H) (k:=k) (l:=List.range' j (ops.size - j)) hT hm (pre:=(ops.toList.take j).toArray) (fun i hi=>by
  rw [jF] at hi
  simp [List.getElem?_take,hi]) hb.1.1 hb.1.2 hb.2 hr bT (hk.le hle)
 rw [jF] at this
 have e:List.range ops.size=List.range j++List.range' j (ops.size - j):=by
  rw [List.range_eq_range',List.range_eq_range']
  have:=List.range'_append (s:=0) (m:=j) (n:=ops.size - j) (step:=1)
  simp only [Nat.zero_add,Nat.one_mul] at this
  rw [this]
  congr 1
  omega
 rw [e]
 exact this
theorem YW.aib {s:Nat} {b:Bool} (hs:St.get st.sl s=.d (.v (.bool b))) (dK:s < nt) (h:YW X k ops H ya (some (s,b)) l st):YW X k ops H ya none l st:=by
 intro C h1 h2 h3 a w h4 h5 h6
 refine h C h1 h2 h3 a w h4 (fun s' b' e=>?_) h6
 simp only [Option.some.injEq,Prod.mk.injEq] at e
 obtain ⟨rfl,rfl⟩:=e
 obtain ⟨S,μ,cX⟩:=h6
 have:=(cX fun _=>false).dG s
 simp only [St.fB,hs] at this
 exact ⟨dK,nH this⟩
def tlB (ops:Array Oper) (nt i:Nat) (ya:List Nat) (kn:Option (Nat × Bool)) (want:Bool):Bool :=
 match ops[i]? with
 | some o=>(match EU ops kn o,o.dst with | some b,some d=>(b == want)&&Nat.ble (d+1) nt | _,_=>false)&&sR (ya++knL kn) #[o]&&lU #[o]
 | none=>false
theorem MP {nt i:Nat} {want:Bool} (h:tlB ops nt i ya kn want=true):∃ o d,ops[i]? = some o∧EU ops kn o=some want∧o.dst=some d∧d < nt∧sR (ya++knL kn) #[o]=true∧lU #[o]=true:=by
 unfold tlB at h
 split at h
 ·rename_i o ho
  simp only [Bool.and_eq_true] at h
  obtain ⟨⟨h1,h2⟩,h3⟩:=h
  split at h1
  ·rename_i b d hb hd
   simp only [Bool.and_eq_true,beq_iff_eq] at h1
   obtain ⟨rfl,h1⟩:=h1
   exact ⟨o,d,ho,hb,hd,Nat.le_of_ble_eq_true h1,h2,h3⟩
  ·cases h1
 ·cases h
theorem YW.opC {T:List (Nat × TI)} (hT:nz P T) (hm:P.follows .mixedOrders=true) {i:Nat} {o:Oper} (J:St) (ho:ops[i]? = some o) (hb:tlB ops nt i ya kn true=true)
  (h:evC P T nt #[{ o with guard:=none }] st [] none J=(evC P T nt #[{ o with guard:=none }] st [] none J).diag) (hk:YW X k ops H ya kn l J):YW X k ops H ya kn (i :: l) st:=by
 obtain ⟨o',d,q1,q2,q3,q4,q5,q6⟩:=MP hb
 rw [ho] at q1
 cases q1
 obtain ⟨st',ob,hr,bT,hle⟩:=aa4 (CT.Ak h) (fun p e=>by cases e)
 exact YW.op hT hm ho q2 q6 q5 hr bT (hk.le hle)
theorem YW.Uu {i d:Nat} {o:Oper} (ho:ops[i]? = some o) (hd:o.dst=some d) (hb:tlB ops nt i ya kn false=true) (hk:YW X k ops H ya kn l ⟨aM [d] st.sl,st.lb⟩):YW X k ops H ya kn (i :: l) st:=by
 obtain ⟨o',d',q1,q2,q3,q4,q5,q6⟩:=MP hb
 rw [ho] at q1
 cases q1
 rw [hd] at q3
 cases q3
 exact YW.skip ho q2 hd q4 q5 hk
theorem YW.mvC {i d u:Nat} {o:Oper} (ho:ops[i]? = some o) (hd:o.dst=some d) (CU:o.op=.move (.tmp u)) (hu:u∈ya) (hb:tlB ops nt i ya kn true=true) (hk:YW X k ops H (d :: ya) kn l ⟨aM [d] st.sl,st.lb⟩):YW X k ops H ya kn (i :: l) st:=by
 obtain ⟨o',d',q1,q2,q3,q4,q5,q6⟩:=MP hb
 rw [ho] at q1
 cases q1
 rw [hd] at q3
 cases q3
 exact YW.mv ho q2 hd q4 q5 CU hu hk
def adC (sl:List (Nat × AV)):Operand→AV
 | .tmp t=>St.get sl t
 | .const v=>.d (.v v)
 | _=>.any
theorem YW.aa5 {i d s:Nat} {b:Bool} {o:Oper} {x y:Operand} (e:Bool) (ho:ops[i]? = some o) (hd:o.dst=some d) (CU:o.op=.pick (.tmp s) x y) (hb:tlB ops nt i ya (some (s,b)) true=true) (he:adC st.sl (bif b then x else y)=.d (.v (.bool e)))
  (hk:YW X k ops H ya (some (s,b)) l ⟨(d,.d (.v (.bool e))) :: aM [d] st.sl,st.lb⟩):YW X k ops H ya (some (s,b)) (i :: l) st:=by
 obtain ⟨o',d',q1,q2,q3,q4,q5,q6⟩:=MP hb
 rw [ho] at q1
 cases q1
 rw [hd] at q3
 cases q3
 refine YW.value ho q2 hd q4 q6 q5 (fun a w h4 h5=>?_) hk
 obtain ⟨hs,hv⟩:=h5 s b rfl
 have hv:a.eval (.tmp s)=.bool b:=hv
 refine ⟨a.eval (bif b then x else y),?_,fun C S μ hC cX ν=>?_⟩
 ·simp only [execOp,CU,hv]
  cases b <;> simp [asBool,go_sem]
 ·generalize (bif b then x else y)=z at he
  rw [← he]
  cases z with
  | tmp t=>exact (cX ν).dG t
  | const v =>
   simp only [adC] at he ⊢
   cases he
   exact gF rfl
  | _=>exact .any _
theorem YW.ylC {i d u n:Nat} {o:Oper} {c:Call} {ts:List Nat} {y:List AV} (ho:ops[i]? = some o) (hd:o.dst=some d) (CU:o.op=.call c) (hc:c.callee=.value (.tmp u)) (hu:u∈ya) (hb:tlB ops nt i ya kn true=true)
  (hn:ys[n]? = some y) (ha:c.args.toList=ts.map .tmp) (hy:ts.map (St.get st.sl)=y) (hf:y.all fw=true)
  (hon:YW X k ops (X.H (n+1)) ya kn l ⟨(d,.d (.v (.bool true))) :: aM [d] st.sl,st.lb⟩) (aex:YW X k ops X.acM ya kn l ⟨(d,.d (.v (.bool false))) :: aM [d] st.sl,st.lb⟩):YW X k ops (X.H n) ya kn (i :: l) st:=by
 obtain ⟨o',d',q1,q2,q3,q4,q5,q6⟩:=MP hb
 rw [ho] at q1
 cases q1
 rw [hd] at q3
 cases q3
 exact YW.yl ho q2 hd q4 q5 CU hc hu hn ha hy hf hon aex
theorem G.yr {T:List (Nat × TI)} {fn:Func} {id:Nat} (h:YW X k ops H [0] none (List.range ops.size) st):G (X.g T fn H) (.code (.region id ops false) :: k) st:=by
 intro C h1 h2 a w hk hs b cs e1 e2 e3 h3
 have hr:b.roundOf=none:=e3.2 (by show (2:Nat)≠1; decide)
 have hw:(Code.region id ops false).wpIn Fence.wide 0 P _ a w:=wpIn_region (h C h1 h2 h3 a w (fun u hu=>by
  have:u=0:=by simpa using hu
  subst this
  exact hk 0 (by simp [tf.g])) (fun s b e=>by cases e) hs)
 obtain ⟨e,a',w',⟨q1,q2⟩,aaE⟩:=hw b k cs hr trivial (room_wide _)
 subst q1
 exact .steps (StepsIn.steps aaE) (q2 b cs e1 e2 hr)
theorem tf.Ya {T:List (Nat × TI)} {fn:Func} (hf:P.funcs[fi]? = some fn) (hrs:fn.results = #[]) {C:Cx} {F:Nat→Prop} (h1:C.P=P) {a:Act} {w:World} (hs:j1 C st a w) (hF:X.Rt F C) (hJ:X.J ys.length F w∨X.Jx F w)
  {todo:List Item} (jK:∀ (b:Frame) (cs:List Frame),b.roundOf=none→Steps P (lone (b.atR a todo) cs w) (lone { b.atR a todo with mode:=.returning } cs w)) (b:Frame) (cs:List Frame) (RM:b.fn=fi) (Ez:b.kind=.normal) (Wk:b.roundOf=none):X.Fin cs (lone (b.atR a todo) cs w):=by
 obtain ⟨S,μ,cX⟩:=hs
 have h0:=cX fun _=>false
 have hr:(results fn a.tmps).run P w=.ok (.tuple #[]) w:=by
  have:=vC (C:=C) (fn:=fn) (a:=a) (w:=w) (vs:=[]) (by rw [hrs]; simp)
  rw [h1] at this
  exact this
 refine ⟨.tuple #[],w,{ b.atR a todo with mode:=.returning },hJ.imp (fun h=>⟨F,h⟩) (fun h=>⟨F,h⟩),jK b cs Wk,RM,rfl,h0.defers.trans hF.dl,Ez,fn,?_,hr⟩
 show P.funcs[b.fn]? = _
 rw [RM]; exact hf
theorem tf.ret {T:List (Nat × TI)} {fn:Func} (hf:P.funcs[fi]? = some fn) (hrs:fn.results = #[]) (hH:∀ C,H C→X.H ys.length C∨X.acM C):G (X.g T fn H) [] st∧∀ k,G (X.g T fn H) (.code .ret :: k) st:=by
 have key:∀ (C:Cx) (a:Act) (w:World),H C→j1 C st a w→∃ F,X.Rt F C∧(X.J ys.length F w∨X.Jx F w):=by
  intro C a w hC hs
  obtain ⟨S,μ,cX⟩:=hs
  have h0:=cX fun _=>false
  rcases hH C hC with ⟨F,hF,hJ⟩ | ⟨F,hF,hJ⟩
  ·exact ⟨F,hF,.inl (X.jk _ _ _ _ hJ (hF.still h0))⟩
  ·exact ⟨F,hF,.inr (X.jxk _ _ _ hJ (hF.still h0))⟩
 exact ⟨fun C h1 h2 a w _ hs b cs e1 e2 e3 hC=>by
   obtain ⟨F,hF,hJ⟩:=key C a w hC hs
   exact tf.Ya (T:=T) hf hrs h1 hs hF hJ (fun b cs hb=>.one (stepR_end hb)) b cs e1 e2 (e3.2 (by show (2:Nat)≠1; decide)),
  fun k C h1 h2 a w _ hs b cs e1 e2 e3 hC=>by
   obtain ⟨F,hF,hJ⟩:=key C a w hC hs
   exact tf.Ya (T:=T) hf hrs h1 hs hF hJ (fun b cs hb=>.one (stepR_ret hb)) b cs e1 e2 (e3.2 (by show (2:Nat)≠1; decide))⟩
theorem Zf.intro {P:Program} {T:List (Nat × TI)} {f:FuncId} {fn:Func} {body:Code} {cy:List AV} {ys:List (List AV)} (hf:P.funcs[f]? = some fn) (hb:fn.body=some body) (hc:fq P f=true) (hn:cy.length+1≤fn.ntmps)
  (h:∀ X:tf P f fn.ntmps ys,G (X.g T fn (X.H 0)) [.code body] ⟨dW 1 cy,[]⟩):Zf P f cy ys:=by
 refine ⟨hc,fun w0 S μ Bp l J Jx F0 hS hgl Y3 hSF hF hJk aic V3 hJ cs=>?_⟩
 let X:tf P f fn.ntmps ys:=⟨l,w0,S,J,Jx,hJk,aic,V3⟩
 let C:Cx:=⟨P,w0,S,fun _=>False,fn.ntmps,hgl,fun b hb h=>h.elim,hS,[],fun d h=>(by cases h),List.nodup_nil⟩
 let b:Frame:={ (default:Frame) with fn:=f,kind:=.normal,roundOf:=none }
 let vs:Array Value:=#[.func (.yield l) #[] #[]]++Bp
 have hl:Bp.size=cy.length:=by have:=(Y3 fun _=>false).1; simpa using this
 have zE:vs.size=cy.length+1:=by simp [vs,hl]; omega
 have Wm:Frame.enter P f vs .normal=b.atR { tmps:=vs++Array.replicate (fn.ntmps - vs.size) undef,defers:=[] } [.code body]:=by
  simp [Frame.enter,Frame.atR,hf,hb,b]
 have cX:j1 C ⟨dW 1 cy,[]⟩ { tmps:=vs++Array.replicate (fn.ntmps - vs.size) undef,defers:=[] } w0:=by
  refine ⟨S,μ,fun ν=>⟨by simp only [C,Array.size_append,Array.size_replicate]; omega,rfl,fun t=>?_,fun κ b h=>by simp [St.fB,look] at h,fun κ κ' b b' g c c' h=>by simp [St.fB,look] at h,fun κ bk q c h1 h2=>by simp [St.fB,look] at h1,fun _ hb=>hb,fun _ hb=>.inl hb,hS,Kept.refl _ _⟩⟩
  simp only [St.fB,St.get,wg]
  by_cases ht:1≤t∧t - 1 < cy.length
  ·rw [if_pos ht.1,List.getElem?_eq_getElem ht.2]
   have h2:=(Y3 ν).2 (t - 1) ht.2
   rw [show cy.getD (t - 1) default=cy[t - 1] from by simp [List.getD,ht.2]] at h2
   have e:(vs++Array.replicate (fn.ntmps - vs.size) undef).getD t undef=Bp.toList.getD (t - 1) undef:=by
    rw [← cM]
    simp only [Array.getD_eq_getD_getElem?]
    rw [Array.getElem?_append_left (by omega)]
    simp only [vs]
    rw [Array.getElem?_append_right (by simp; omega)]
    simp
   rw [e]
   exact h2
  ·by_cases h1:1≤t
   ·rw [if_pos h1,List.getElem?_eq_none (by omega)]
    exact .any _
   ·rw [if_neg h1]
    exact .any _
 obtain ⟨v,w',fr,q1,q2,q3,q4⟩:=h X C rfl rfl _ _ (fun u hu=>by
  have:u=0:=by simpa [tf.g] using hu
  subst this
  simp only [tf.g,tf.yv,Array.getD_eq_getD_getElem?]
  rw [Array.getElem?_append_left (by omega)]
  simp only [vs,X]
  rw [Array.getElem?_append_left (by simp)]) cX b cs rfl rfl ⟨fun _=>by show (2:Nat)≠1; decide,fun _=>rfl⟩
  ⟨F0,⟨rfl,Nat.le_refl _,fun _ h=>h,hSF,hF,fun b h=>h.elim⟩,hJ⟩
 exact ⟨.returned v,w',fr,⟨⟨v,rfl⟩,q1⟩,by show Steps _ _ _; rw [Wm]; exact q2,q3,q4⟩
theorem Yb {st st':St} (h:Pe st st'=(Pe st st').diag):OX st st':=vD (CT.Ak h)
def cA:Code→Code
 | .seq x _=>x
 | .cond _ x _=>x
 | .block _ x=>x
 | .loop x=>x
 | c=>c
def cB:Code→Code
 | .seq _ y=>y
 | .cond _ _ y=>y
 | c=>c
def opsOf:Code→Array Oper
 | .region _ ops _=>ops
 | _=>#[]
theorem tf.sk {T:List (Nat × TI)} {fn:Func} (hT:nz P T) (hm:P.follows .mixedOrders=true) (hf:P.funcs[fi]? = some fn) {α:Type} (todo:List Item) (sk:Sk α) (L:α→aaX) (n:Nat) (h:pE P T nt fn.results.toList 0 2 [0] n todo st L sk=(pE P T nt fn.results.toList 0 2 [0] n todo st L sk).diag) (ho:sk.a6 fun _=>True)
  (hL:∀ a,a=sk.val→WA (X.g T fn H) (L a)):G (X.g T fn H) todo st :=
 Bz n (g:=X.g T fn H) hT hm hf (fun h=>(by cases h)) 0 todo st L sk (fun _=>True) (CT.Ak h) ho (fun a e _=>hL a e)
theorem G.aa6 {g:Goal} {c:Code} (h:G g (.code c :: .inLoop c :: k) st):G g (.code (.loop c) :: k) st:=fun C h1 h2 a w hk hs=>(h C h1 h2 a w hk hs).step fun _ _=>.one stepR_loop
end
section
open Go Go.Sort
def iL (l:List Int):List Int:=l.mergeSort fun x y=>decide (x≤y)
variable {w : World} {S : Nat → Prop} {μ : Mu} {e g c : Nat} {L : List Int}
theorem QI (h:dg w S μ (aU e 1 bS L) g c):Holds (Value.int .i64) w g 0 L.toArray∧∃ cur,w.heap[g]? = some (.cells cur e (0,0))∧L.length≤c∧c≤maxLen∧cur.size=c:=by
 obtain ⟨cur,hg,sQ,we,Ls,O8,oU⟩:=h
 refine ⟨fun j hj=>?_,cur,hg,Ls,O8,by omega⟩
 have Ek:j < L.length:=by simpa using hj
 refine ⟨?_,by simp [World.frozen?,hg]⟩
 obtain ⟨x,hx,hr⟩:=(oU j Ek).2 0 (by omega)
 have hx:cur[j]? = some x:=by simpa using hx
 have hr:Rd w S (.v (.int .i64 (L.getD j default))) x:=by simpa [bS,dI] using hr
 cases hr
 simp only [World.cell?,hg,Nat.zero_add]
 simp only [Option.isSome_none,Bool.false_eq_true,if_false,hx]
 simp [List.getD,Ek]
theorem Yc {k:Nat} {os:Array Obj} {d L':List Int} (h:dg w S μ (aU e 1 bS L) g c) (hd:d.length≤c) (hl:L'.length≤d.length) (he:∀ i,i < L'.length→d.getD i default=L'.getD i default) :
  dg (grow (putRow (Value.int .i64) (Sort.ahead w k) g 0 d.toArray) os) S μ (aU e 1 bS L') g c:=by
 obtain ⟨cur,hg,sQ,we,Ls,O8,oU⟩:=h
 refine ⟨_,heap_sortedI d.toArray hg,sQ,by simpa [putCells] using we,by omega,O8,fun i hi=>⟨rfl,fun j hj=>?_⟩⟩
 have hj0:j=0:=by omega
 subst hj0
 have hid:i < d.length:=by omega
 have hic:i < cur.size:=by omega
 refine ⟨.int .i64 (L'.getD i default),?_,Rd.v _ rfl⟩
 have:=he i hi
 simp only [putCells,Nat.mul_one,Nat.add_zero,Nat.zero_le,Nat.zero_add,Nat.sub_zero,true_and,Array.getElem?_mapIdx,List.size_toArray,hid,if_true]
 rw [Array.getElem?_eq_getElem hic]
 simp only [Option.map_some,Option.some.injEq,Value.int.injEq,true_and]
 rw [← this]
 simp [List.getD,hid]
theorem I8 {k:Nat} {os:Array Obj} {d:Array Int} {κ:Nat} (h:μ κ=some (some (g,c))):Kept w (grow (putRow (Value.int .i64) (Sort.ahead w k) g 0 d) os) (fun q=>∃ c,μ κ=some (some (q,c))):=by
 have hb:=grownBy_sortedI (w:=w) (g:=g) (n:=k) (os:=os) d
 exact ⟨hb.os,hb.tape,hb.output,hb.size,fun b dK mP=>hb.block b dK (fun e=>by cases e; exact mP ⟨c,h⟩)⟩
theorem aa7 {P:Program} {f:FuncId} (hc:fq P f=true)
  (h1:∀ (blk off cap:Nat) (zs:List Int) (w:World),Holds (Value.int .i64) w blk off zs.toArray→blk < w.heap.size→zs.length < 4611686018427387904 →
   Calls P f #[.slice (some ⟨blk,off,none⟩) zs.length cap] w fun e w'=>e=.returned (.tuple #[])∧∃ n os,w'=grow (putRow (Value.int .i64) (Sort.ahead w n) blk off (zs.mergeSort fun x y=>decide (x≤y)).toArray) os)
  (h0:∀ (p:Option Addr) (cap:Nat) (w:World),Calls P f #[.slice p 0 cap] w fun e w'=>e=.returned (.tuple #[])∧w'=w) (κ e:Nat) (L:List Int) (hL:L.length < 4611686018427387904) :
  FnS P f [ow κ L] κ (aU e 1 bS L) (aU e 1 bS (iL L)):=by
 refine ⟨hc,fun w S μ vs hS hg hr hb=>?_⟩
 obtain ⟨v,rfl⟩:∃ v,vs = #[v]:=by
  have:=(hr fun _=>false).1
  match vs,this with
  | ⟨[v]⟩,_=>exact ⟨v,rfl⟩
 have hv:Rel w S μ (fun _=>false) (.own κ L.length) v:=by simpa using (hr fun _=>false).2 0 (by simp)
 have VN:(iL L).length=L.length:=by simp [iL]
 generalize hn:L.length=n at hv
 cases hv with
 | cN hm =>
  refine (h0 _ _ w).mono ?_
  rintro e' w' ⟨rfl,rfl⟩
  refine ⟨⟨_,rfl⟩,?_,Kept.refl _ _⟩
  rw [hm]
  show (iL L).length=0
  omega
 | @own _ _ g cap hm =>
  rw [hm] at hb
  have Tl:dg w S μ (aU e 1 bS L) g cap:=hb
  obtain ⟨q1,cur,q2,q3,q4,q5⟩:=QI Tl
  subst hn
  refine (h1 g 0 cap L w q1 (Array.getElem?_eq_some_iff.1 q2).1 hL).mono ?_
  rintro e' w' ⟨rfl,k,os,rfl⟩
  refine ⟨⟨_,rfl⟩,?_,I8 hm⟩
  rw [hm]
  exact Yc (d:=iL L) (L':=iL L) Tl (by omega) (Nat.le_refl _) (fun _ _=>rfl)
theorem Uv {P:Program} {f:FuncId} (hc:fq P f=true) (L L':List Int) (hl:L'.length≤L.length)
  (h1:∀ (blk cap:Nat) (w:World),Holds (Value.int .i64) w blk 0 L.toArray→L.length≤9223372036854775807→L.length≤cap →
   Calls P f #[.slice (some ⟨blk,0,none⟩) L.length cap] w fun e w'=>e=.returned (.slice (some ⟨blk,0,none⟩) L'.length cap)∧∃ q,w'=putRow (Value.int .i64) (Sort.ahead w q) blk 0 (L'++List.replicate (L.length - L'.length) 0).toArray)
  (h0:∀ (p:Option Addr) (cap:Nat) (w:World),Calls P f #[.slice p 0 cap] w fun e w'=>e=.returned (.slice p 0 cap)∧w'=w) (κ κ' e:Nat) :
  eC P f [ow κ L] [(κ,aU e 1 bS L)] (ow κ' L') [(κ',aU e 1 bS L')]:=by
 refine ⟨hc,fun w S μ vs hS hg hr hb hi=>?_⟩
 obtain ⟨v,rfl⟩:∃ v,vs = #[v]:=by
  have:=(hr fun _=>false).1
  match vs,this with
  | ⟨[v]⟩,_=>exact ⟨v,rfl⟩
 have hv:Rel w S μ (fun _=>false) (.own κ L.length) v:=by simpa using (hr fun _=>false).2 0 (by simp)
 have hb:=hb κ (aU e 1 bS L) (by simp [look])
 have lk:∀ k b,look [(κ',aU e 1 bS L')] k=some b→k=κ'∧b=aU e 1 bS L':=fun k b h=>by
  simp only [bC] at h
  split at h
  ·rename_i e'; exact ⟨e'.symm,by simpa using h.symm⟩
  ·cases h
 have inj:∀ μ':Mu,TG [(κ',aU e 1 bS L')] μ':=fun μ' k1 k2 b1 b2 g c c' h1 h2 _ _=>((lk _ _ h1).1).trans ((lk _ _ h2).1).symm
 generalize hn:L.length=n at hv
 cases hv with
 | @cN _ ad hm =>
  refine (h0 _ _ w).mono ?_
  rintro e' w' ⟨rfl,rfl⟩
  have hz:L'.length=0:=by omega
  refine ⟨_,S,fun k=>if k=κ' then some none else none,rfl,⟨fun ν=>?_,fun k b h=>?_,inj _,fun k b g c h Ad=>?_,fun _ h=>h,fun _ h=>.inl h,hS,Kept.refl _ _⟩⟩
  ·show Rel _ _ _ _ (.own κ' L'.length) _
   rw [hz]
   exact .cN (by simp)
  ·obtain ⟨rfl,rfl⟩:=lk k b h
   simp only [if_true]
   exact hz
  ·obtain ⟨rfl,rfl⟩:=lk k b h
   simp at Ad
 | @own _ _ g cap hm =>
  rw [hm] at hb
  have Tl:dg w S μ (aU e 1 bS L) g cap:=hb
  obtain ⟨q1,cur,q2,q3,q4,q5⟩:=QI Tl
  subst hn
  have h4:=q4
  simp only [maxLen] at h4
  refine (h1 g cap w q1 (by omega) q3).mono ?_
  rintro e' w' ⟨rfl,k,rfl⟩
  have adD:∀ W:World,W=grow W #[]:=fun W=>by simp [grow]
  have aid:dg (putRow (Value.int .i64) (Sort.ahead w k) g 0 (L'++List.replicate (L.length - L'.length) 0).toArray) S (fun k=>if k=κ' then some (some (g,cap)) else none) (aU e 1 bS L') g cap:=by
   rw [adD (putRow _ _ _ _ _)]
   exact Yc (d:=L'++List.replicate (L.length - L'.length) 0) (L':=L') Tl (by simp; omega) (by simp) (fun i hi=>by simp [List.getD,List.getElem?_append_left hi])
  have hk:Kept w (putRow (Value.int .i64) (Sort.ahead w k) g 0 (L'++List.replicate (L.length - L'.length) 0).toArray) (Handed [(κ,aU e 1 bS L)] μ):=by
   rw [adD (putRow _ _ _ _ _)]
   exact (I8 hm).zn (fun q ⟨c,hq⟩=>⟨κ,aU e 1 bS L,c,by simp [look],hq⟩)
  refine ⟨_,S,fun k=>if k=κ' then some (some (g,cap)) else none,rfl,⟨fun ν=>.own (by simp),fun k b h=>?_,inj _,fun k b g' c h Ad=>?_,fun _ h=>h,fun _ h=>.inl h,fun b mP=>Nat.lt_of_lt_of_le (hS b mP) hk.size,hk⟩⟩
  ·obtain ⟨rfl,rfl⟩:=lk k b h
   simp only [if_true]
   exact aid
  ·obtain ⟨rfl,rfl⟩:=lk k b h
   simp only [if_true,Option.some.injEq,Prod.mk.injEq] at Ad
   obtain ⟨rfl,rfl⟩:=Ad
   exact .inr ⟨κ,aU e 1 bS L,cap,by simp [look],hm⟩
end
end Go.Av
