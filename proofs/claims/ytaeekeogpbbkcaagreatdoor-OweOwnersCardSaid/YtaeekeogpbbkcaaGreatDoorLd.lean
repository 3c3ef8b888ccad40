/- What printed sketches are made of. -/
import Derived.Test.YtaeekeogpbbkcaaGreatDoorLc
import Derived.Sort.OwnSortedInts
set_option linter.unusedSimpArgs false
set_option linter.unusedVariables false
set_option linter.unusedSectionVars false
namespace Go.Av
open Go
variable [Ea]
instance {α β:Type} [Inhabited α]:Inhabited (Sum α β):=⟨.inl default⟩
abbrev iv (n:Int):AV:=.d (.v (.int .i64 n))
abbrev bv (b:Bool):AV:=.d (.v (.bool b))
abbrev sv (s:ByteArray):AV:=.d (.v (.string s))
abbrev av (cs:List D):AV:=.d (.agg cs)
abbrev lv {α:Type} [Inhabited α] (cells:α→List D) (l:List α):AV:=.d (mN cells l)
abbrev nv:AV:=.d (.v (.slice none 0 0))
abbrev ow {α:Type} (κ:Nat) (l:List α):AV:=.own κ l.length
abbrev cp {α:Type} [Inhabited α] (e k:Nat) (cells:α→List D) (l:List α):bQ:=.row e k l.length fun i=>cells (l.getD i default)
abbrev dI (n:Int):D:=.v (.int .i64 n)
abbrev dB (b:Bool):D:=.v (.bool b)
def aK (n:Int):Int:=IntKind.i64.wrap n
def dh (k:IntKind) (a b:Int):Int:=k.wrap (BitVec.ofInt k.bits a &&& BitVec.ofInt k.bits b).toNat
def WJ (k:IntKind) (a b:Int):Int:=k.wrap (BitVec.ofInt k.bits a ||| BitVec.ofInt k.bits b).toNat
def fC (k:IntKind) (a b:Int):Int:=k.wrap (a * 2 ^ (min b.toNat k.bits))
def dW (k:IntKind) (a b:Int):Int:=a.fdiv (2 ^ (min b.toNat k.bits))
theorem aq {n:Int} (h1 : -9223372036854775808≤n) (h2:n≤9223372036854775807):aK n=n:=Zs h1 h2
structure Lt (α:Type) where
 cells:α→List D
 k:Nat
 len:∀ x,(cells x).length=k
 one:∀ x,(cells x).all Bu=true
def slE {α:Type} [Inhabited α] (E:Lt α):Lt (List α):=⟨fun l=>[mN E.cells l],1,fun _=>rfl,fun _=>rfl⟩
def cN:Lt Int:=⟨bJ,1,fun _=>rfl,fun _=>rfl⟩
def xT:Lt ByteArray:=⟨jV,1,fun _=>rfl,fun _=>rfl⟩
def abe:Lt Bool:=⟨pU,1,fun _=>rfl,fun _=>rfl⟩
def u8C (n:Int):List D:=[.v (.int .u8 n)]
def l5 (s:ByteArray):List Int:=s.data.toList.map fun b=>(b.toNat:Int)
def aeG (s:ByteArray):rB:=⟨s.size,(l5 s).length,fun i=>[.v (.int .u8 (s.data.toList.getD i 0).toNat)],fun i=>u8C ((l5 s).getD i default),by
 refine ⟨by simp [l5],fun i hi=>?_⟩
 have gv:i < s.data.size:=hi
 have e:(l5 s).getD i default=((s.data.toList.getD i 0).toNat:Int):=by
  simp only [l5,List.getD,List.getElem?_map,Array.getElem?_toList,Array.getElem?_eq_getElem gv,Option.map_some,Option.getD_some]
 rw [e]
 exact zJ.rfl'⟩
abbrev mpB {α:Type} [Inhabited α] (enc:α→D) (ks:List Int) (vs:List α):bQ:=.mp ks.length fun i=>(.int .i64 (ks.getD i 0),enc (vs.getD i default))
def Hs {α:Type} [Inhabited α] (enc:α→D) (ks:List Int) (vs:List α) (h:ks.length=vs.length) (k:Int) (v:α):FE:=⟨ks.length+1,(ks++[k]).length,fun q=>if q < ks.length then (.int .i64 (ks.getD q 0),enc (vs.getD q default)) else (.int .i64 k,enc v),fun i=>(.int .i64 ((ks++[k]).getD i 0),enc ((vs++[v]).getD i default)),by
 refine ⟨by simp,fun i hi=>?_⟩
 by_cases c:i < ks.length
 ·simp only [c,if_true,List.getD,List.getElem?_append_left c,List.getElem?_append_left (h ▸ c:i < vs.length)]
 ·obtain rfl:i=ks.length:=by omega
  simp only [Nat.lt_irrefl,if_false]
  simp [List.getD,h]⟩
def agj {α:Type} [Inhabited α] (enc:α→D) (k:Int) (v:α):FE:=⟨0+1,1,fun q=>if q < 0 then (.bool false,default) else (.int .i64 k,enc v),fun i=>(.int .i64 ([k].getD i 0),enc ([v].getD i default)),by
 refine ⟨rfl,fun i hi=>?_⟩
 obtain rfl:i=0:=by omega
 rfl⟩
abbrev Ns {α:Type} [Inhabited α] (enc:α→D) (m:List (Int × α)):Nat→Value × D:=fun i=>(.int .i64 (m.getD i default).1,enc (m.getD i default).2)
abbrev mpM {α:Type} [Inhabited α] (enc:α→D) (m:List (Int × α)):bQ:=.mp m.length (Ns enc m)
abbrev pmM {α:Type} [Inhabited α] (enc:α→D) (m:List (Int × α)):AV:=.C8 m.length (Ns enc m)
def vB {α:Type}:List (Int × α)→Int→α→List (Int × α)
 | [],k,v=>[(k,v)]
 | p :: r,k,v=>bif k == p.1 then (p.1,v) :: r else p :: vB r k v
def qt {α:Type}:List (Int × α)→Int→Option α
 | [],_=>none
 | p :: r,k=>bif k == p.1 then some p.2 else qt r k
def Ht {α:Type} (m:List (Int × α)) (k:Int) (z:α):α:=(qt m k).getD z
theorem T3 {α:Type} [Inhabited α] (enc:α→D) (m:List (Int × α)):∀ i,i < m.length→∃ b,(Ns enc m i).1=.int .i64 b:=fun i _=>⟨_,rfl⟩
theorem Hu {α:Type} [Inhabited α] (enc:α→D) (k:Int):∀ (m:List (Int × α)),match ot (.int .i64 k) m.length (Ns enc m) with
  | some p=>p < m.length∧(Ns enc m p).1=.int .i64 k∧qt m k=some (m.getD p default).2∧∀ v,vB m k v=m.set p ((m.getD p default).1,v)
  | none=>qt m k=none∧∀ v,vB m k v=m++[(k,v)]
 | []=>⟨rfl,fun _=>rfl⟩
 | p :: r=>by
  have ih:=Hu enc k r
  have e:(fun i=>Ns enc (p :: r) (i+1))=Ns enc r:=by funext i; simp [Ns]
  have e0:(Ns enc (p :: r) 0).1=.int .i64 p.1:=rfl
  simp only [List.length_cons,ot,e,e0,Ew,decide_true,Bool.true_and,List.getD_cons_zero]
  cases hk:(k == p.1) with
  | true =>
   have gE:k=p.1:=by simpa using hk
   simp only [cond_true]
   refine ⟨by omega,by rw [gE]; rfl,by simp [qt,hk],fun v=>by simp [vB,hk]⟩
  | false =>
   simp only [cond_false]
   cases hq:ot (.int .i64 k) r.length (Ns enc r) with
   | none =>
    rw [hq] at ih
    simp only [Option.map_none]
    exact ⟨by simp only [qt,hk,cond_false]; exact ih.1,fun v=>by simp only [vB,hk,cond_false,ih.2 v,List.cons_append]⟩
   | some q =>
    rw [hq] at ih
    obtain ⟨i1,i2,i3,i4⟩:=ih
    simp only [Option.map_some]
    refine ⟨by simpa using i1,?_,?_,fun v=>?_⟩
    ·rw [← i2]; rfl
    ·simp only [qt,hk,cond_false]; rw [i3]; simp
    ·simp only [vB,hk,cond_false,i4 v]; simp
def agk:FE:=⟨0,0,fun _=>(.bool false,default),fun _=>(.bool false,default),rfl,fun _ _=>rfl⟩
def mkM {α:Type} [Inhabited α] (enc:α→D):FE:=⟨0,([]:List (Int × α)).length,fun _=>(.bool false,default),Ns enc ([]:List (Int × α)),rfl,fun i hi=>absurd hi (by omega)⟩
def agl {α:Type} [Inhabited α] (enc:α→D) (m:List (Int × α)) (k:Int) (v:α):FE:=⟨mpN (.int .i64 k) m.length (Ns enc m),(vB m k v).length,mpF (.int .i64 k) (enc v) m.length (Ns enc m),Ns enc (vB m k v),by
 have h:=Hu enc k m
 unfold mpN mpF
 cases hq:ot (.int .i64 k) m.length (Ns enc m) with
 | none =>
  rw [hq] at h
  simp only
  rw [h.2 v]
  refine ⟨by simp,fun i hi=>?_⟩
  by_cases c:i < m.length
  ·simp [Ns,c,List.getD,List.getElem?_append_left c]
  ·obtain rfl:i=m.length:=by omega
   simp [Ns,List.getD]
 | some p =>
  rw [hq] at h
  obtain ⟨h1,h2,h3,h4⟩:=h
  simp only
  rw [h4 v]
  refine ⟨by simp,fun i hi=>?_⟩
  by_cases c:i=p
  ·subst c
   simp [Ns,List.getD,h1]
  ·simp [Ns,c,List.getD,List.getElem?_set_ne (fun e=>c e.symm)]⟩
theorem Zu {α:Type} [Inhabited α] (enc:α→D) (m:List (Int × α)) (k:Int) (z:α):wT (.int .i64 k) m.length (Ns enc m) (enc z)=enc (Ht m k z):=by
 have h:=Hu enc k m
 unfold wT Ht
 cases hq:ot (.int .i64 k) m.length (Ns enc m) with
 | none=>rw [hq] at h; simp only [h.1]; rfl
 | some p=>rw [hq] at h; simp only [h.2.2.1]; rfl
def getM {α:Type} [Inhabited α] (enc:α→D) (m:List (Int × α)) (k:Int) (z:α):Tq:=⟨.d (wT (.int .i64 k) m.length (Ns enc m) (enc z)),.d (enc (Ht m k z)),fun _ _ _ _ _ h=>by rw [← Zu enc m k z]; exact h⟩
theorem EG {n n':Nat} {f f':Nat→List D} (h:n=n'∧∀ i,i < n→f i=f' i):n=n'∧∀ i,i < n→zJ (f i) (f' i):=⟨h.1,fun i hi=>zJ.of_eq (h.2 i hi)⟩
section
variable {α : Type} [Inhabited α] (E : Lt α)
theorem Lt.src (M:List α):(∀ i,i < M.length→(E.cells (M.getD i default)).length=E.k)∧∀ i,i < M.length→(E.cells (M.getD i default)).all Bu=true:=⟨fun _ _=>E.len _,fun _ _=>E.one _⟩
theorem Lt.k6 (M:List α):∀ i,i < M.length→(E.cells (M.getD i default)).all Bu=true:=fun _ _=>E.one _
theorem Lt.lens (M:List α):∀ i,i < M.length→(E.cells (M.getD i default)).length=E.k:=fun _ _=>E.len _
def kx (L M:List α):rB:=⟨L.length+M.length,(L++M).length,fun q=>if q < L.length then E.cells (L.getD q default) else E.cells (M.getD (q - L.length) default),fun i=>E.cells ((L++M).getD i default),EG (acL E.cells L M)⟩
def agm (M:List α):rB:=⟨0+M.length,M.length,fun q=>if q < 0 then [] else E.cells (M.getD (q - 0) default),fun i=>E.cells (M.getD i default),EG (Wv E.cells M)⟩
def j6 (L:List α) (p:Nat) (y:α):rB:=⟨L.length,(L.set p y).length,fun q=>if q=p then E.cells y else E.cells (L.getD q default),fun i=>E.cells ((L.set p y).getD i default),EG <| by
 refine ⟨by simp,fun i hi=>?_⟩
 split
 ·rename_i h
  subst h
  simp [List.getD,hi]
 ·rename_i h
  simp [List.getD,List.getElem?_set_ne (fun e=>h e.symm)]⟩
def mkC (n:Nat) (z:α):rB:=⟨n,(List.replicate n z).length,fun _=>E.cells z,fun i=>E.cells ((List.replicate n z).getD i default),EG <| by
 refine ⟨by simp,fun i hi=>?_⟩
 simp [List.getD,hi]⟩
def mO (L:List α) (lo n:Nat):List α:=(List.range n).map fun i=>L.getD (lo+i) default
def acX (L:List α) (lo n:Nat):rB:=⟨n,(mO L lo n).length,fun i=>E.cells (L.getD (lo+i) default),fun i=>E.cells ((mO L lo n).getD i default),EG <| by
 refine ⟨by simp [mO],fun i hi=>?_⟩
 have:(mO L lo n).getD i default=L.getD (lo+i) default:=by simp [mO,List.getD,hi]
 rw [this]⟩
def aid (L:List α) (h:Nat):rB:=⟨h,(mO L 0 h).length,fun i=>E.cells (L.getD i default),fun i=>E.cells ((mO L 0 h).getD i default),EG <| by
 refine ⟨by simp [mO],fun i hi=>?_⟩
 have:(mO L 0 h).getD i default=L.getD i default:=by simp [mO,List.getD,hi]
 rw [this]⟩
theorem Lu (k:Nat) (hk:∀ x,(E.cells x).length=k):∀ (xs:List α) (i j:Nat),i < xs.length→j < k→(xs.flatMap E.cells).getD (i * k+j) default=(E.cells (xs.getD i default)).getD j default
 | [],i,j,hi,_=>absurd hi (by simp)
 | x :: r,0,j,_,hj=>by
  simp only [List.flatMap_cons,Nat.zero_mul,Nat.zero_add,List.getD_cons_zero]
  rw [List.getD,List.getElem?_append_left (by rw [hk]; exact hj)]
  rfl
 | x :: r,i+1,j,hi,hj=>by
  have ih:=Lu k hk r i j (by simpa using hi) hj
  simp only [List.flatMap_cons,List.getD_cons_succ]
  rw [List.getD,List.getElem?_append_right (by rw [hk,Nat.add_mul,Nat.one_mul]; omega),hk,show (i+1) * k+j - k=i * k+j by rw [Nat.add_mul,Nat.one_mul]; omega]
  exact ih
theorem Lv (k:Nat) (hk:∀ x,(E.cells x).length=k):∀ (xs:List α),(xs.flatMap E.cells).length=xs.length * k
 | []=>by simp
 | x :: r=>by simp [List.flatMap_cons,hk,Lv k hk r,Nat.add_mul,Nat.add_comm]
def dG (xs:List α):rB:=⟨xs.length,xs.length,DI E.k xs.length (xs.flatMap E.cells),fun i=>E.cells (xs.getD i default),EG <| by
 refine ⟨rfl,fun i hi=>?_⟩
 obtain ⟨h1,h2⟩:=yJ (k:=E.k) (len:=xs.length) (ds:=xs.flatMap E.cells) (Lv E E.k E.len xs) hi
 apply List.ext_getElem?
 intro j
 by_cases hj:j < E.k
 ·have h3:=h2 j hj
  rw [Lu E E.k E.len xs i j hi hj] at h3
  have l1:j < (DI E.k xs.length (xs.flatMap E.cells) i).length:=by omega
  have l2:j < (E.cells (xs.getD i default)).length:=by rw [E.len]; exact hj
  rw [List.getD,List.getD,List.getElem?_eq_getElem l1,List.getElem?_eq_getElem l2] at h3
  rw [List.getElem?_eq_getElem l1,List.getElem?_eq_getElem l2]
  simpa using h3
 ·rw [List.getElem?_eq_none (by omega),List.getElem?_eq_none (by rw [E.len]; omega)]⟩
def agn (xs:List α) (ds:List D) (h:Wx ds (xs.flatMap E.cells)=(Wx ds (xs.flatMap E.cells)).diag):rB:=⟨xs.length,xs.length,DI E.k xs.length ds,fun i=>E.cells (xs.getD i default),by
 have hle:=FL (CT.Ee h)
 refine ⟨rfl,fun i hi=>?_⟩
 have hl:ds.length=xs.length * E.k:=hle.1.trans (Lv E E.k E.len xs)
 obtain ⟨h1,h2⟩:=yJ (k:=E.k) (len:=xs.length) (ds:=ds) hl hi
 refine ⟨h1.trans (E.len _).symm,fun j hj=>?_⟩
 have hj:j < E.k:=by omega
 have hb:i * E.k+j < ds.length:=by
  rw [hl]
  have q1:(i+1) * E.k≤xs.length * E.k:=Nat.mul_le_mul_right _ hi
  rw [Nat.add_mul,Nat.one_mul] at q1
  omega
 have h3:=hle.2 _ hb
 rw [Lu E E.k E.len xs i j hi hj] at h3
 rw [h2 j hj]
 exact h3⟩
def mkN (n:Nat) (z:α) (ds:List D) (h:Wx ds (E.cells z)=(Wx ds (E.cells z)).diag):rB:=⟨n,(List.replicate n z).length,fun _=>ds,fun i=>E.cells ((List.replicate n z).getD i default),by
 refine ⟨by simp,fun i hi=>?_⟩
 have e:(List.replicate n z).getD i default=z:=by simp [List.getD,hi]
 rw [e]
 exact FL (CT.Ee h)⟩
end
def Zv {cs ds:List D} (h:zJ cs ds):Tq:=⟨.ref cs,.ref ds,fun w S μ ν v hr=>by
 cases hr with
 | ref gu ck hh=>exact .ref gu (fun j hj=>ck j (by rw [h.1]; exact hj)) (fun j hj=>h.2 j (by rw [h.1]; exact hj) _ _ _ (hh j (by rw [h.1]; exact hj)))⟩
abbrev bM (i:Int) (n:Nat):Prop:=0≤i∧i < (n:Int)
abbrev uG (n m bytes:Nat):Prop:=n+m≤maxLen∧(n+m) * bytes≤140737488355328
abbrev WK (n:Int) (bytes:Nat):Prop:=0≤n∧n.toNat≤maxLen∧n.toNat * bytes≤140737488355328
def bH.z:bH Unit:=⟨(),fun _=>[],fun _=>none,True,fun _ _ h=>(by cases h),fun _=>True,trivial⟩
abbrev Sk.nx {α ι:Type} (id t n:Nat) (a:ι):Sk (α ⊕ ι):=.r id .z fun _=>.wi t (aK ((n:Int)+1)) ((n+1:Nat):Int) (.fin (.inr a))
def bH.p (p:Prop):bH Unit:=⟨(),fun _=>[],fun _=>some p,p,fun h _ e=>by cases e; exact h,fun _=>True,trivial⟩
def bH.t {p:Prop} (h:p):bH Unit:=⟨(),fun _=>[],fun _=>some p,True,fun _ _ e=>by cases e; exact h,fun _=>True,trivial⟩
def bH.pt (p:Prop) {q:Prop} (h:q):bH Unit:=⟨(),fun _=>[],fun _=>some (p∧q),p,fun hp _ e=>by cases e; exact ⟨hp,h⟩,fun _=>True,trivial⟩
def bH.o (l:List Df):bH Unit:=⟨(),fun _=>l,fun _=>none,True,fun _ _ h=>(by cases h),fun _=>True,trivial⟩
theorem FR {x y:Option Prop} (h1:∀ p,x=some p→p) (h2:∀ p,y=some p→p) (p:Prop) (e:Ho x y=some p):p:=by
 cases x with
 | none=>exact h2 p (by simpa [Ho] using e)
 | some a =>
  cases y with
  | none=>exact h1 p (by simpa [Ho] using e)
  | some b =>
   simp only [Ho,Option.some.injEq] at e
   subst e
   exact ⟨h1 a rfl,h2 b rfl⟩
def aeH (e w:Bool):Option Prop→Option Prop
 | none=>none
 | some p=>some (e=w→p)
theorem acY {x:Option Prop} {e w:Bool} (h:e=w→∀ p,x=some p→p) (p:Prop) (hp:aeH e w x=some p):p:=by
 cases x with
 | none=>cases hp
 | some a =>
  simp only [aeH,Option.some.injEq] at hp
  subst hp
  exact fun he=>h he a rfl
def bH.and {α β:Type} (a:bH α) (b:bH β):bH (α × β):=⟨(a.v,b.v),fun x=>a.j8 x.1++b.j8 x.2,fun x=>Ho (a.mf x.1) (b.mf x.2),a.pre∧b.pre,fun h=>FR (a.pf h.1) (b.pf h.2),fun x=>a.post x.1∧b.post x.2,⟨a.hp,b.hp⟩⟩
def bH.aj {β:Type} (a:bH Unit) (b:bH β):bH β:=⟨b.v,fun x=>a.j8 ()++b.j8 x,fun x=>Ho (a.mf ()) (b.mf x),a.pre∧b.pre,fun h=>FR (a.pf h.1) (b.pf h.2),b.post,b.hp⟩
def bH.FT {α:Type} (a:bH α) (b:bH Unit):bH α:=⟨a.v,fun x=>a.j8 x++b.j8 (),fun x=>Ho (a.mf x) (b.mf ()),a.pre∧b.pre,fun h=>FR (a.pf h.1) (b.pf h.2),a.post,a.hp⟩
def bH.wh {β:Type} (e w:Bool) (a:bH β):bH β:=⟨a.v,a.j8,fun x=>aeH e w (a.mf x),e=w→a.pre,fun h=>acY fun he=>a.pf (h he),a.post,a.hp⟩
def bH.dep {α β:Type} (a:bH α) (b:α→bH β):bH (α × β):=⟨(a.v,(b a.v).v),fun x=>a.j8 x.1++(b x.1).j8 x.2,fun x=>Ho (a.mf x.1) ((b x.1).mf x.2),a.pre∧∀ x,x=a.v→a.post x→(b x).pre,fun h=>FR (a.pf h.1) ((b a.v).pf (h.2 _ rfl a.hp)),fun x=>a.post x.1∧(b x.1).post x.2,⟨a.hp,(b a.v).hp⟩⟩
def bH.gw {α:Type} (a:bH α) (b:α→bH Unit):bH α:=⟨a.v,fun x=>a.j8 x++(b x).j8 (),fun x=>Ho (a.mf x) ((b x).mf ()),a.pre∧∀ x,x=a.v→a.post x→(b x).pre,fun h=>FR (a.pf h.1) ((b a.v).pf (h.2 _ rfl a.hp)),a.post,a.hp⟩
structure fD (β:Type) where
 P:Program
 f:FuncId
 args:List AV
 enc:β→AV
 fl:Bool
 v:β
 pre:Prop
 pf:pre→jl P f args [] (enc v) []
 post:β→Prop:=fun _=>True
 hp:post v:=by trivial
def fD.c {β:Type} (c:fD β):bH β:=⟨c.v,fun x=>[bif c.fl then .flat (c.enc x) else .gen [] (c.enc x) []],fun x=>some (jl c.P c.f c.args [] (c.enc x) []),c.pre,fun hp _ e=>by cases e; exact c.pf hp,c.post,c.hp⟩
theorem vz.refl:∀ (l:List AV),vz l l
 | []=>trivial
 | _ :: r=>⟨vx.rfl',vz.refl r⟩
theorem vz.set:∀ (l:List AV) (i:Nat) (x y:AV),l[i]? = some y→vx x y→vz (l.set i x) l
 | [],i,_,_,h,_=>by simp at h
 | z :: r,0,x,y,h,hle=>by
  simp only [List.getElem?_cons_zero,Option.some.injEq] at h
  subst h
  exact ⟨hle,vz.refl r⟩
 | z :: r,i+1,x,y,h,hle=>⟨vx.rfl',vz.set r i x y (by simpa using h) hle⟩
def fD.nil {β:Type} (c:fD β) (i:Nat) (h:∃ g,c.args[i]? = some (.d (.sl 0 g))):fD β :=
 { c with args:=c.args.set i nv,pf:=fun hp=>(c.pf hp).Yd (let ⟨g,hg⟩:=h; vz.set c.args i _ _ hg (vx.d (tU.nil g))) }
def fD.EH {β:Type} (c:fD β) (i j:Nat) (cs:List D) (h:c.args[i]? = some (.d (.agg cs))) (h2:∃ g,cs[j]? = some (.sl 0 g)):fD β :=
 {c with args:=c.args.set i (.d (.agg (cs.set j (.v (.slice none 0 0))))),pf:=fun hp=>(c.pf hp).Yd (vz.set c.args i _ _ h (vx.d (tU.agg (by simp) (fun q hq=>by
   obtain ⟨g,hg⟩:=h2
   by_cases e:j=q
   ·subst e
    have hj:j < cs.length:=by simpa using hq
    have e1:(cs.set j (.v (.slice none 0 0))).getD j default=.v (.slice none 0 0):=by simp [List.getD,hj]
    have e2:cs.getD j default=.sl 0 g:=by simp [List.getD,hg]
    rw [e1,e2]
    exact tU.nil g
   ·have e1:(cs.set j (.v (.slice none 0 0))).getD q default=cs.getD q default:=by simp [List.getD,List.getElem?_set_ne e]
    rw [e1]
    exact tU.rfl')))) }
@[simp] theorem bH.aie (x:Unit):bH.z.post x=True:=rfl
@[simp] theorem bH.aif (p:Prop) (x:Unit):(bH.p p).post x=True:=rfl
@[simp] theorem bH.aih {p:Prop} (h:p) (x:Unit):(bH.t h).post x=True:=rfl
@[simp] theorem bH.ag5 (p:Prop) {q:Prop} (h:q) (x:Unit):(bH.pt p h).post x=True:=rfl
@[simp] theorem bH.aii (l:List Df) (x:Unit):(bH.o l).post x=True:=rfl
@[simp] theorem bH.ago {α β:Type} (a:bH α) (b:bH β) (x:α × β):(a.and b).post x=(a.post x.1∧b.post x.2):=rfl
@[simp] theorem bH.afw {β:Type} (a:bH Unit) (b:bH β) (x:β):(a.aj b).post x=b.post x:=rfl
@[simp] theorem bH.afx {β:Type} (a:bH β) (b:bH Unit) (x:β):(a.FT b).post x=a.post x:=rfl
@[simp] theorem bH.ag6 {β:Type} (e w:Bool) (a:bH β) (x:β):(a.wh e w).post x=a.post x:=rfl
@[simp] theorem bH.agp {α β:Type} (a:bH α) (b:α→bH β) (x:α × β):(a.dep b).post x=(a.post x.1∧(b x.1).post x.2):=rfl
@[simp] theorem bH.afy {α:Type} (a:bH α) (b:α→bH Unit) (x:α):(a.gw b).post x=a.post x:=rfl
@[simp] theorem fD.Q5 {β:Type} (c:fD β) (x:β):c.c.post x=c.post x:=rfl
@[simp] theorem fD.abf {β:Type} (c:fD β) (i:Nat) (h:∃ g,c.args[i]? = some (.d (.sl 0 g))) (x:β):(c.nil i h).post x=c.post x:=rfl
@[simp] theorem fD.afz {β:Type} (c:fD β) (i j:Nat) (cs:List D) (h:c.args[i]? = some (.d (.agg cs))) (h2:∃ g,cs[j]? = some (.sl 0 g)) (x:β):(c.EH i j cs h h2).post x=c.post x:=rfl
@[simp] theorem bH.ai5:bH.z.pre=True:=rfl
@[simp] theorem bH.ai6 (p:Prop):(bH.p p).pre=p:=rfl
@[simp] theorem bH.ai7 {p:Prop} (h:p):(bH.t h).pre=True:=rfl
@[simp] theorem bH.aij (p:Prop) {q:Prop} (h:q):(bH.pt p h).pre=p:=rfl
@[simp] theorem bH.ai8 (l:List Df):(bH.o l).pre=True:=rfl
@[simp] theorem bH.ag7 {α β:Type} (a:bH α) (b:bH β):(a.and b).pre=(a.pre∧b.pre):=rfl
@[simp] theorem bH.agq {β:Type} (a:bH Unit) (b:bH β):(a.aj b).pre=(a.pre∧b.pre):=rfl
@[simp] theorem bH.agr {β:Type} (a:bH β) (b:bH Unit):(a.FT b).pre=(a.pre∧b.pre):=rfl
@[simp] theorem bH.aik {β:Type} (e w:Bool) (a:bH β):(a.wh e w).pre=(e=w→a.pre):=rfl
@[simp] theorem bH.ag8 {α β:Type} (a:bH α) (b:α→bH β):(a.dep b).pre=(a.pre∧∀ x,x=a.v→a.post x→(b x).pre):=rfl
@[simp] theorem bH.ags {α:Type} (a:bH α) (b:α→bH Unit):(a.gw b).pre=(a.pre∧∀ x,x=a.v→a.post x→(b x).pre):=rfl
@[simp] theorem bH.Lw {α β:Type} (a:bH α) (b:α→bH β):(a.dep b).v=(a.v,(b a.v).v):=rfl
@[simp] theorem bH.WL {α:Type} (a:bH α) (b:α→bH Unit):(a.gw b).v=a.v:=rfl
@[simp] theorem fD.Yo {β:Type} (c:fD β):c.c.pre=c.pre:=rfl
@[simp] theorem fD.wG {β:Type} (c:fD β):c.c.v=c.v:=rfl
@[simp] theorem fD.acZ {β:Type} (c:fD β) (i:Nat) (h:∃ g,c.args[i]? = some (.d (.sl 0 g))):(c.nil i h).pre=c.pre:=rfl
@[simp] theorem fD.agt {β:Type} (c:fD β) (i:Nat) (h:∃ g,c.args[i]? = some (.d (.sl 0 g))):(c.nil i h).v=c.v:=rfl
@[simp] theorem fD.agu {β:Type} (c:fD β) (i j:Nat) (cs:List D) (h:c.args[i]? = some (.d (.agg cs))) (h2:∃ g,cs[j]? = some (.sl 0 g)):(c.EH i j cs h h2).pre=c.pre:=rfl
@[simp] theorem fD.ail {β:Type} (c:fD β) (i j:Nat) (cs:List D) (h:c.args[i]? = some (.d (.agg cs))) (h2:∃ g,cs[j]? = some (.sl 0 g)):(c.EH i j cs h h2).v=c.v:=rfl
@[simp] theorem bH.ai9 {α β:Type} (a:bH α) (b:bH β):(a.and b).v=(a.v,b.v):=rfl
@[simp] theorem bH.xU {β:Type} (a:bH Unit) (b:bH β):(a.aj b).v=b.v:=rfl
@[simp] theorem bH.aim {β:Type} (a:bH β) (b:bH Unit):(a.FT b).v=a.v:=rfl
@[simp] theorem bH.Zw {β:Type} (e w:Bool) (a:bH β):(a.wh e w).v=a.v:=rfl
structure lC (β:Type) where
 P:Program
 f:FuncId
 args:List AV
 enc:β→AV
 DM:β→List (Nat × bQ)
 v:β
 pre:Prop
 pf:pre→jl P f args [] (enc v) (DM v)
 post:β→Prop:=fun _=>True
 hp:post v:=by trivial
def lC.c {β:Type} (c:lC β):bH β:=⟨c.v,fun x=>[.gen [] (c.enc x) (c.DM x)],fun x=>some (jl c.P c.f c.args [] (c.enc x) (c.DM x)),c.pre,fun hp _ e=>by cases e; exact c.pf hp,c.post,c.hp⟩
@[simp] theorem lC.Yo {β:Type} (c:lC β):c.c.pre=c.pre:=rfl
@[simp] theorem lC.wG {β:Type} (c:lC β):c.c.v=c.v:=rfl
def lC.nil {β:Type} (c:lC β) (i:Nat) (h:∃ g,c.args[i]? = some (.d (.sl 0 g))):lC β :=
 { c with args:=c.args.set i nv,pf:=fun hp=>(c.pf hp).Yd (let ⟨g,hg⟩:=h; vz.set c.args i _ _ hg (vx.d (tU.nil g))) }
@[simp] theorem lC.acZ {β:Type} (c:lC β) (i:Nat) (h:∃ g,c.args[i]? = some (.d (.sl 0 g))):(c.nil i h).pre=c.pre:=rfl
@[simp] theorem lC.agt {β:Type} (c:lC β) (i:Nat) (h:∃ g,c.args[i]? = some (.d (.sl 0 g))):(c.nil i h).v=c.v:=rfl
@[simp] theorem lC.Q5 {β:Type} (c:lC β) (x:β):c.c.post x=c.post x:=rfl
@[simp] theorem lC.abf {β:Type} (c:lC β) (i:Nat) (h:∃ g,c.args[i]? = some (.d (.sl 0 g))) (x:β):(c.nil i h).post x=c.post x:=rfl
structure T4 (β:Type) where
 P:Program
 f:FuncId
 args:List AV
 dz:List (Nat × bQ)
 nw:List (Nat × Nat)
 enc:β→AV
 DM:β→List (Nat × bQ)
 v:β
 pre:Prop
 pf:pre→FnB P f args dz (enc v) (DM v) nw
 post:β→Prop:=fun _=>True
 hp:post v:=by trivial
def T4.c {β:Type} (c:T4 β):bH β:=⟨c.v,fun x=>[.bx (c.dz.map (·.1)) c.nw (c.enc x) (c.DM x)],fun x=>some (FnB c.P c.f c.args c.dz (c.enc x) (c.DM x) c.nw),c.pre,fun hp _ e=>by cases e; exact c.pf hp,c.post,c.hp⟩
@[simp] theorem T4.Yo {β:Type} (c:T4 β):c.c.pre=c.pre:=rfl
@[simp] theorem T4.wG {β:Type} (c:T4 β):c.c.v=c.v:=rfl
@[simp] theorem T4.Q5 {β:Type} (c:T4 β) (x:β):c.c.post x=c.post x:=rfl
theorem jl.agv {P:Program} {f:FuncId} {args:List AV} {K n e k m:Nat} {r:Nat→List D} (κ:Nat) (h:jl P f args [] (.own K n) [(K,.row e k m r)]):jl P f args [] (.own κ n) [(κ,.row e k m r)]:=by
 refine ⟨h.1,fun w S μ vs h1 h2 h3 h4 h5=>(h.2 w S μ vs h1 h2 h3 h4 h5).mono ?_⟩
 rintro e0 w' ⟨v,S',μ',rfl,B⟩
 have lk:∀ q b,look [(κ,bQ.row e k m r)] q=some b→q=κ∧b=.row e k m r:=fun q b hq=>by
  rw [cw] at hq
  split at hq
  ·rename_i e; simp only [Option.some.injEq] at hq; exact ⟨e.symm,hq.symm⟩
  ·simp [look] at hq
 have lK:look [(K,bQ.row e k m r)] K=some (.row e k m r):=by rw [cw,if_pos rfl]
 refine ⟨v,S',fun _=>μ' K,rfl,⟨fun ν=>?_,fun q b hq=>?_,fun q1 q2 b1 b2 g c c' x1 x2 _ _=>by rw [(lk q1 b1 x1).1,(lk q2 b2 x2).1],fun q b g c x1 x2=>B.own K _ g c lK x2,B.sub,B.new,B.bound,B.kept⟩⟩
 ·cases B.res ν with
  | eI hμ=>exact .eI hμ
  | own hμ=>exact .own hμ
 ·obtain ⟨rfl,rfl⟩:=lk q b hq
  exact (B.mem K _ lK).agree (fun k hk=>by simp [bQ.keys] at hk)
structure Jp (β:Type) where
 P:Program
 f:FuncId
 args:List AV
 κ:Nat
 b:bQ
 enc:β→bQ
 v:β
 pre:Prop
 pf:pre→FnS P f args κ b (enc v)
 post:β→Prop:=fun _=>True
 hp:post v:=by trivial
def Jp.c {β:Type} (c:Jp β):bH β:=⟨c.v,fun x=>[.same c.κ (c.enc x)],fun x=>some (FnS c.P c.f c.args c.κ c.b (c.enc x)),c.pre,fun hp _ e=>by cases e; exact c.pf hp,c.post,c.hp⟩
@[simp] theorem Jp.Yo {β:Type} (c:Jp β):c.c.pre=c.pre:=rfl
@[simp] theorem Jp.wG {β:Type} (c:Jp β):c.c.v=c.v:=rfl
@[simp] theorem Jp.Q5 {β:Type} (c:Jp β) (x:β):c.c.post x=c.post x:=rfl
structure Jq (β:Type) where
 P:Program
 f:FuncId
 args:List AV
 dz:List (Nat × bQ)
 enc:β→AV
 DM:β→List (Nat × bQ)
 v:β
 pre:Prop
 pf:pre→jl P f args dz (enc v) (DM v)
 post:β→Prop:=fun _=>True
 hp:post v:=by trivial
def Jq.c {β:Type} (c:Jq β):bH β:=⟨c.v,fun x=>[.gen (c.dz.map (·.1)) (c.enc x) (c.DM x)],fun x=>some (jl c.P c.f c.args c.dz (c.enc x) (c.DM x)),c.pre,fun hp _ e=>by cases e; exact c.pf hp,c.post,c.hp⟩
@[simp] theorem Jq.Yo {β:Type} (c:Jq β):c.c.pre=c.pre:=rfl
@[simp] theorem Jq.wG {β:Type} (c:Jq β):c.c.v=c.v:=rfl
@[simp] theorem Jq.Q5 {β:Type} (c:Jq β) (x:β):c.c.post x=c.post x:=rfl
section
variable {α β ι : Type}
@[simp] theorem Sk.bg (a:α):(Sk.fin a).val=a:=rfl
@[simp] theorem Sk.bK (e:Bool) (x y:Sk α):(Sk.br e x y).val=bif e then x.val else y.val:=rfl
@[simp] theorem Sk.cE (id:Nat) (c:bH β) (k:β→Sk α):(Sk.r id c k).val=(k c.v).val:=rfl
@[simp] theorem Sk.cV (t:Nat) (m n:Int) (k:Sk α):(Sk.wi t m n k).val=k.val:=rfl
@[simp] theorem Sk.ct (t j n:Nat) (k:Sk α):(Sk.Eb t j n k).val=k.val:=rfl
@[simp] theorem Sk.Q6 (κ n n':Nat) (k:Sk α):(Sk.wn κ n n' k).val=k.val:=rfl
@[simp] theorem Sk.ag9 (k:Sk α):(Sk.PL k).val=k.val:=rfl
@[simp] theorem Sk.aha (k:Sk α):(Sk.PM k).val=k.val:=rfl
@[simp] theorem Sk.abg (a:α):(Sk.dead a).val=a:=rfl
@[simp] theorem Sk.ahb (t:Nat) (c:Bool) (x y:AV) (k1 k2:Sk α):(Sk.Yf t c x y k1 k2).val=bif c then k1.val else k2.val:=rfl
@[simp] theorem Sk.ahc (t n:Nat) (k1 k2:Sk α):(Sk.WA t n k1 k2).val=k2.val:=rfl
@[simp] theorem Sk.ain (κ:Nat) (k:List (Int × Int)→Sk α):(Sk.op κ k).val=(k []).val:=rfl
@[simp] theorem Sk.aio (κ:Nat) (m:List (Int × Int)) (k:Sk α):(Sk.cl κ m k).val=k.val:=rfl
@[simp] theorem Sk.aip (κ:Nat) (q:List (Int × Int)→Prop) (k:List (Int × Int)→Sk α):(Sk.oq κ q k).val=(k (canon q)).val:=rfl
@[simp] theorem Sk.aiq (κ:Nat) (m:List (Int × Int)) (q:List (Int × Int)→Prop) (k:Sk α):(Sk.cq κ m q k).val=k.val:=rfl
@[simp] theorem Sk.ahd (id:Nat) (x:Int) (c:rB) (k:Sk α):(Sk.QZ id x c k).val=k.val:=rfl
@[simp] theorem Sk.air (κ:Nat) (k:Sk α):(Sk.fz κ k).val=k.val:=rfl
@[simp] theorem Sk.cz (b:Bool) (J:β→Prop) (s:Sk (α ⊕ β)) (u:β→Upd) (k:β→Sk α):(Sk.bind b J s u k).val=bO s.val fun b=>(k b).val:=rfl
@[simp] theorem Sk.WM {σ β Y:Type} (it:ItC Y) (I:Nat→σ→Prop) (B:β→Prop) (id:Nat) (s0:σ) (u:σ→List (Nat × bQ)) (v:β→List (Nat × bQ)) (b:σ→Y→Sk (β ⊕ σ)) (k:β ⊕ σ→Sk α):(Sk.rf it I B id s0 u v b k).val=(k (ou (fun s y=>(b s y).val) it.ys s0)).val:=rfl
@[simp] theorem Sk.cY (d:α) (I:ι→Prop) (m:ι→Nat) (i0:ι) (u:ι→Upd) (b:ι→Sk (α ⊕ ι)):(Sk.loop d I m i0 u b).val=iter (fun i=>(b i).val) d (m i0+1) i0:=rfl
variable (L : α → Prop)
@[simp] theorem Sk.ahe (a:α):(Sk.fin a).bq L=L a:=rfl
@[simp] theorem Sk.ais (e:Bool) (x y:Sk α):(Sk.br e x y).bq L=((e=true→x.bq L)∧(e=false→y.bq L)):=rfl
@[simp] theorem Sk.aja (id:Nat) (c:bH β) (k:β→Sk α):(Sk.r id c k).bq L=(c.pre∧∀ x,x=c.v→c.post x→(k x).bq L):=rfl
@[simp] theorem Sk.ait (t:Nat) (m n:Int) (k:Sk α):(Sk.wi t m n k).bq L=(m=n∧k.bq L):=rfl
@[simp] theorem Sk.ahf (t j n:Nat) (k:Sk α):(Sk.Eb t j n k).bq L=(n≤maxLen→k.bq L):=rfl
@[simp] theorem Sk.aiu (κ n n':Nat) (k:Sk α):(Sk.wn κ n n' k).bq L=(n=n'∧k.bq L):=rfl
@[simp] theorem Sk.ahg (k:Sk α):(Sk.PL k).bq L=k.bq L:=rfl
@[simp] theorem Sk.ahh (k:Sk α):(Sk.PM k).bq L=k.bq L:=rfl
@[simp] theorem Sk.agw (a:α):(Sk.dead a).bq L=False:=rfl
@[simp] theorem Sk.ahi (t:Nat) (c:Bool) (x y:AV) (k1 k2:Sk α):(Sk.Yf t c x y k1 k2).bq L=((c=true→k1.bq L)∧(c=false→k2.bq L)):=rfl
@[simp] theorem Sk.ahj (t n:Nat) (k1 k2:Sk α):(Sk.WA t n k1 k2).bq L=((n=0→k1.bq L∧k1.val=k2.val)∧k2.bq L):=rfl
@[simp] theorem Sk.ahk (id:Nat) (x:Int) (c:rB) (k:Sk α):(Sk.QZ id x c k).bq L=((0≤x∧x≤(c.n:Int))∧k.bq L):=rfl
@[simp] theorem Sk.aiv (κ:Nat) (k:Sk α):(Sk.fz κ k).bq L=k.bq L:=rfl
@[simp] theorem Sk.agx (b:Bool) (J:β→Prop) (s:Sk (α ⊕ β)) (u:β→Upd) (k:β→Sk α):(Sk.bind b J s u k).bq L=(s.bq (rC L J)∧∀ b,s.val=.inr b→J b→(k b).bq L):=rfl
@[simp] theorem Sk.agy (d:α) (I:ι→Prop) (m:ι→Nat) (i0:ι) (u:ι→Upd) (b:ι→Sk (α ⊕ ι)):(Sk.loop d I m i0 u b).bq L=(I i0∧∀ i,I i→(b i).bq (iz L fun j=>I j∧m j < m i)):=rfl
end
section
variable {α β ι : Type} (L : α → Prop)
@[simp] theorem Sk.ahl (a:α):(Sk.fin a).dq L=L a:=rfl
@[simp] theorem Sk.aiw (e:Bool) (x y:Sk α):(Sk.br e x y).dq L=((e=true→x.dq L)∧(e=false→y.dq L)):=rfl
@[simp] theorem Sk.ajb (id:Nat) (c:bH β) (k:β→Sk α):(Sk.r id c k).dq L=(∀ x,x=c.v→c.post x→(k x).dq L):=rfl
@[simp] theorem Sk.aix (t:Nat) (m n:Int) (k:Sk α):(Sk.wi t m n k).dq L=k.dq L:=rfl
@[simp] theorem Sk.ahm (t j n:Nat) (k:Sk α):(Sk.Eb t j n k).dq L=k.dq L:=rfl
@[simp] theorem Sk.aiy (κ n n':Nat) (k:Sk α):(Sk.wn κ n n' k).dq L=k.dq L:=rfl
@[simp] theorem Sk.ahn (k:Sk α):(Sk.PL k).dq L=k.dq L:=rfl
@[simp] theorem Sk.aho (k:Sk α):(Sk.PM k).dq L=k.dq L:=rfl
@[simp] theorem Sk.agz (a:α):(Sk.dead a).dq L=L a:=rfl
@[simp] theorem Sk.ahp (t:Nat) (c:Bool) (x y:AV) (k1 k2:Sk α):(Sk.Yf t c x y k1 k2).dq L=((c=true→k1.dq L)∧(c=false→k2.dq L)):=rfl
@[simp] theorem Sk.ahq (t n:Nat) (k1 k2:Sk α):(Sk.WA t n k1 k2).dq L=k2.dq L:=rfl
@[simp] theorem Sk.ahr (id:Nat) (x:Int) (c:rB) (k:Sk α):(Sk.QZ id x c k).dq L=k.dq L:=rfl
@[simp] theorem Sk.aiz (κ:Nat) (k:Sk α):(Sk.fz κ k).dq L=k.dq L:=rfl
@[simp] theorem Sk.agA (b:Bool) (J:β→Prop) (s:Sk (α ⊕ β)) (u:β→Upd) (k:β→Sk α):(Sk.bind b J s u k).dq L=(s.dq (rC L J)∧∀ b,s.val=.inr b→J b→(k b).dq L):=rfl
@[simp] theorem Sk.agB (d:α) (I:ι→Prop) (m:ι→Nat) (i0:ι) (u:ι→Upd) (b:ι→Sk (α ⊕ ι)):(Sk.loop d I m i0 u b).dq L=(I i0∧∀ i,I i→(b i).dq (iz L fun j=>I j∧m j < m i)):=rfl
end
@[simp] theorem afA {α β:Type} (L:α→Prop) (J:β→Prop) (a:α):rC L J (.inl a)=L a:=rfl
@[simp] theorem afB {α β:Type} (L:α→Prop) (J:β→Prop) (b:β):rC L J (.inr b)=J b:=rfl
@[simp] theorem afC {α β:Type} (L:α→Prop) (J:β→Prop) (a:α):iz L J (.inl a)=L a:=rfl
@[simp] theorem afD {α β:Type} (L:α→Prop) (J:β→Prop) (b:β):iz L J (.inr b)=J b:=rfl
@[simp] theorem PQ {α β:Type} (a:α) (f:β→α):bO (.inl a) f=a:=rfl
@[simp] theorem cX {α β:Type} (b:β) (f:β→α):bO (.inr b) f=f b:=rfl
theorem zX {α:Type} (k:Int) (v:α) (q:Int):∀ (m:List (Int × α)),qt (vB m k v) q=if q=k then some v else qt m q
 | []=>by
  simp only [vB,qt]
  by_cases h:q=k
  ·subst h; simp
  ·have:(q == k)=false:=by simpa using h
   simp [h,this]
 | p :: r=>by
  have ih:=zX k v q r
  simp only [vB]
  by_cases hk:k=p.1
  ·subst hk
   by_cases h:q=p.1
   ·subst h; simp [qt]
   ·have:(q == p.1)=false:=by simpa using h
    simp [qt,h,this]
  ·have h1:(k == p.1)=false:=by simpa using hk
   by_cases h:q=p.1
   ·have h2:¬ q=k:=fun e=>hk (e.symm.trans h)
    subst h
    simp [qt,h1,h2]
   ·have h2:(q == p.1)=false:=by simpa using h
    simp only [h1,cond_false,qt,h2]
    exact ih
def Sk.aD:{α:Type}→Sk α→Bool
 | _,.loop ..=>true
 | _,_=>false
def Sk.cK:{α:Type}→Sk α→(α→Prop)→Prop
 | _,.fin a,L=>L a
 | _,.br e x y,L=>(e=true→x.cK L)∧(e=false→y.cK L)
 | _,.r _ c k,L=>∀ x,x=c.v→c.post x→(k x).cK L
 | _,.wi _ _ _ k,L=>k.cK L
 | _,.wn _ _ _ k,L=>k.cK L
 | _,.PL k,L=>k.cK L
 | _,.PM k,L=>k.cK L
 | _,.dead a,L=>L a
 | _,.Eb _ _ _ k,L=>k.cK L
 | _,.Yf _ c _ _ x y,L=>(c=true→x.cK L)∧(c=false→y.cK L)
 | _,.WA _ _ _ k,L=>k.cK L
 | _,.fz _ k,L=>k.cK L
 | _,.op _ k,L=>(k []).cK L
 | _,.cl _ _ k,L=>k.cK L
 | _,.oq _ q k,L=>(∃ m,q m)∧∀ m,q m→(k m).cK L
 | _,.cq _ _ _ k,L=>k.cK L
 | _,.QZ _ _ _ k,L=>k.cK L
 | _,.mr n V init _ _ b k,L=>V init∧(∀ g i,V g→i < n→(b g i).cK V)∧∀ g,g=(List.range n).foldr (fun i g=>(b g i).val) init→V g→(k g).cK L
 | _,.bind _ J s _ k,L=>s.cK (rC L J)∧∀ b,(s.aD=false→s.val=.inr b)→J b→(k b).cK L
 | _,.loop _ I m i0 _ b,L=>I i0∧∀ i,I i→(b i).cK (iz L fun j=>I j∧m j < m i)
 | _,.rf it I B _ s0 _ _ b k,L=>I 0 s0∧(∀ i s y,I i s→it.ys[i]? = some y→(b s y).cK (iz B (I (i+1))))∧∀ r,iz B (I it.ys.length) r→(k r).cK L
def Sk.gx:{α:Type}→Sk α→(α→Prop)→Prop
 | _,.fin a,L=>L a
 | _,.br e x y,L=>(e=true→x.gx L)∧(e=false→y.gx L)
 | _,.r _ c k,L=>c.pre∧∀ x,x=c.v→c.post x→(k x).gx L
 | _,.wi _ m n k,L=>m=n∧k.gx L
 | _,.wn _ n n' k,L=>n=n'∧k.gx L
 | _,.PL k,L=>k.gx L
 | _,.PM k,L=>k.gx L
 | _,.dead _,_=>False
 | _,.Eb _ _ n k,L=>n≤maxLen→k.gx L
 | _,.Yf _ c _ _ x y,L=>(c=true→x.gx L)∧(c=false→y.gx L)
 | _,.WA _ n k1 k2,L=>(n=0→k1.gx L∧k1.val=k2.val)∧k2.gx L
 | _,.fz _ k,L=>k.gx L
 | _,.op _ k,L=>∀ m,(k m).val=(k []).val∧(k m).gx L
 | _,.cl _ _ k,L=>k.gx L
 | _,.oq _ q k,L=>∀ m,q m→(k m).val=(k (canon q)).val∧(k m).gx L
 | _,.cq _ m q k,L=>q m∧k.gx L
 | _,.QZ _ x c k,L=>(0≤x∧x≤(c.n:Int))∧k.gx L
 | _,.mr n V init _ _ b k,L=>V init∧(∀ g i,V g→i < n→(b g i).dq V∧(b g i).gx fun _=>True)∧(∀ g i j,V g→i < n→j < n→i≠j→(b (b g j).val i).val=(b (b g i).val j).val)∧∀ g,g=(List.range n).foldr (fun i g=>(b g i).val) init→V g→(k g).gx L
 | _,.bind _ J s _ k,L=>s.gx (rC L J)∧∀ b,(s.aD=false→s.val=.inr b)→J b→(k b).gx L
 | _,.loop _ I m i0 _ b,L=>I i0∧∀ i,I i→(b i).gx (iz L fun j=>I j∧m j < m i)
 | _,.rf it I B _ s0 _ _ b k,L=>it.pre∧I 0 s0∧(∀ i s y,I i s→it.ys[i]? = some y→(b s y).cK (iz B (I (i+1)))∧(b s y).gx (iz B (I (i+1))))∧∀ r,iz B (I it.ys.length) r→(k r).gx L
theorem Sk.bh:{α:Type}→(s:Sk α)→{L:α→Prop}→s.cK L→s.dq L
 | _,.fin _,_,h=>h
 | _,.br _ x y,_,h=>⟨fun e=>x.bh (h.1 e),fun e=>y.bh (h.2 e)⟩
 | _,.r _ _ k,_,h=>fun x e p=>(k x).bh (h x e p)
 | _,.wi _ _ _ k,L,h=>k.bh (L:=L) h
 | _,.wn _ _ _ k,L,h=>k.bh (L:=L) h
 | _,.PL k,L,h=>k.bh (L:=L) h
 | _,.PM k,L,h=>k.bh (L:=L) h
 | _,.dead _,_,h=>h
 | _,.Eb _ _ _ k,L,h=>k.bh (L:=L) h
 | _,.Yf _ _ _ _ x y,_,h=>⟨fun e=>x.bh (h.1 e),fun e=>y.bh (h.2 e)⟩
 | _,.WA _ _ _ k,L,h=>k.bh (L:=L) h
 | _,.fz _ k,L,h=>k.bh (L:=L) h
 | _,.op _ k,L,h=>(k []).bh (L:=L) h
 | _,.cl _ _ k,L,h=>k.bh (L:=L) h
 | _,.oq _ _ k,L,h=>⟨h.1,fun m hm=>(k m).bh (L:=L) (h.2 m hm)⟩
 | _,.cq _ _ _ k,L,h=>k.bh (L:=L) h
 | _,.QZ _ _ _ k,L,h=>k.bh (L:=L) h
 | _,.mr _ _ _ _ _ b k,_,h=>⟨h.1,fun g i hg hi=>(b g i).bh (h.2.1 g i hg hi),fun g e hg=>(k g).bh (h.2.2 g e hg)⟩
 | _,.bind _ _ s _ k,_,h=>⟨s.bh h.1,fun b e hb=>(k b).bh (h.2 b (fun _=>e) hb)⟩
 | _,.loop _ _ _ _ _ b,_,h=>⟨h.1,fun i hi=>(b i).bh (h.2 i hi)⟩
 | _,.rf _ _ _ _ _ _ _ b k,_,h=>⟨h.1,fun i s y hs hy=>(b s y).bh (h.2.1 i s y hs hy),fun r _ hr=>(k r).bh (h.2.2 r hr)⟩
theorem Sk.aO:{α:Type}→(s:Sk α)→{L:α→Prop}→s.gx L→s.bq L
 | _,.fin _,_,h=>h
 | _,.br _ x y,_,h=>⟨fun e=>x.aO (h.1 e),fun e=>y.aO (h.2 e)⟩
 | _,.r _ _ k,_,h=>⟨h.1,fun x e p=>(k x).aO (h.2 x e p)⟩
 | _,.wi _ _ _ k,L,h=>⟨h.1,k.aO (L:=L) h.2⟩
 | _,.wn _ _ _ k,L,h=>⟨h.1,k.aO (L:=L) h.2⟩
 | _,.PL k,L,h=>k.aO (L:=L) h
 | _,.PM k,L,h=>k.aO (L:=L) h
 | _,.dead _,_,h=>h.elim
 | _,.Eb _ _ _ k,L,h=>fun hn=>k.aO (L:=L) (h hn)
 | _,.Yf _ _ _ _ x y,_,h=>⟨fun e=>x.aO (h.1 e),fun e=>y.aO (h.2 e)⟩
 | _,.WA _ _ k1 k2,L,h=>⟨fun e=>⟨k1.aO (L:=L) (h.1 e).1,(h.1 e).2⟩,k2.aO (L:=L) h.2⟩
 | _,.fz _ k,L,h=>k.aO (L:=L) h
 | _,.op _ k,L,h=>fun m=>⟨(h m).1,(k m).aO (h m).2⟩
 | _,.cl _ _ k,L,h=>k.aO (L:=L) h
 | _,.oq _ _ k,L,h=>fun m hm=>⟨(h m hm).1,(k m).aO (h m hm).2⟩
 | _,.cq _ _ _ k,L,h=>⟨h.1,k.aO (L:=L) h.2⟩
 | _,.QZ _ _ _ k,L,h=>⟨h.1,k.aO (L:=L) h.2⟩
 | _,.mr _ _ _ _ _ b k,_,h=>⟨h.1,fun g i hg hi=>⟨(h.2.1 g i hg hi).1,(b g i).aO (h.2.1 g i hg hi).2⟩,h.2.2.1,fun g e hg=>(k g).aO (h.2.2.2 g e hg)⟩
 | _,.bind _ _ s _ k,_,h=>⟨s.aO h.1,fun b e hb=>(k b).aO (h.2 b (fun _=>e) hb)⟩
 | _,.loop _ _ _ _ _ b,_,h=>⟨h.1,fun i hi=>(b i).aO (h.2 i hi)⟩
 | _,.rf _ _ _ _ _ _ _ b k,_,h=>⟨h.1,h.2.1,fun i s y hs hy=>⟨(b s y).bh (h.2.2.1 i s y hs hy).1,(b s y).aO (h.2.2.1 i s y hs hy).2⟩,fun r _ hr=>(k r).aO (h.2.2.2 r hr)⟩
theorem pX {α:Type} (l:List α) {i:Nat} (h:i < l.length) (x d:α):(l.set i x).getD i d=x:=by simp [List.getD,h]
theorem pY {α:Type} (l:List α) {i j:Nat} (h:j≠i) (x d:α):(l.set i x).getD j d=l.getD j d:=by simp [List.getD,List.getElem?_set_ne (fun e=>h e.symm)]
def walk {α σ β:Type} (step:α→σ→β ⊕ σ) (fin:σ→β):List α→σ→β
 | [],s=>fin s
 | x :: r,s=>match step x s with
  | .inl b=>b
  | .inr s'=>walk step fin r s'
theorem iter_walk {α σ β ι:Type} [Inhabited α] (l:List α) (pack:σ→Nat→ι) {f:ι→β ⊕ ι} {d:β} (step:α→σ→β ⊕ σ) (fin:σ→β)
  (hs:∀ s i,i < l.length→f (pack s i)=match step (l.getD i default) s with | .inl b=>.inl b | .inr s'=>.inr (pack s' (i+1)))
  (he:∀ s,f (pack s l.length)=.inl (fin s)):∀ (n i:Nat) (s:σ),i≤l.length→l.length - i < n→iter f d n (pack s i)=walk step fin (l.drop i) s
 | 0,i,s,_,hn=>absurd hn (by omega)
 | n+1,i,s,hi,hn=>by
  simp only [iter]
  by_cases h:i < l.length
  ·rw [hs s i h,List.drop_eq_getElem_cons h,show l.getD i default=l[i] from by simp [List.getD,h]]
   simp only [walk]
   cases oh:step l[i] s with
   | inl b=>rfl
   | inr s'=>exact iter_walk l pack step fin hs he n (i+1) s' h (by omega)
  ·obtain rfl:i=l.length:=by omega
   rw [he s,List.drop_length]
   rfl
theorem jW {α σ β ι:Type} [Inhabited α] (l:List α) (pack:σ→Nat→ι) {f:ι→β ⊕ ι} {d:β} (step:α→σ→β ⊕ σ) (fin:σ→β)
  (hs:∀ s i,i < l.length→f (pack s i)=match step (l.getD i default) s with | .inl b=>.inl b | .inr s'=>.inr (pack s' (i+1)))
  (he:∀ s,f (pack s l.length)=.inl (fin s)) {n:Nat} (hn:l.length < n) (s:σ):iter f d n (pack s 0)=walk step fin l s:=by
 have:=iter_walk (d:=d) l pack step fin hs he n 0 s (Nat.zero_le _) (by omega)
 simpa using this
theorem jm {α σ β:Type} (g:α→σ→σ) (fin:σ→β):∀ (l:List α) (s:σ),walk (fun x s=>.inr (g x s)) fin l s=fin (l.foldl (fun s x=>g x s) s)
 | [],_=>rfl
 | x :: r,s=>by simp only [walk,List.foldl_cons]; exact jm g fin r (g x s)
theorem fX {α:Type} {l:List α} {i:Nat} (h:i < l.length) (d:α):l.getD i d∈l:=by
 rw [show l.getD i d=l[i] from by simp [List.getD,h]]
 exact List.getElem_mem h
theorem IM {α:Type} [Inhabited α] (L:List α) (lo n:Nat):(mO L lo n).length=n:=by simp [mO]
theorem Lx (n:Int):IntKind.u64.wrap n=n % 18446744073709551616:=rfl
theorem j9 (n:Int):0≤IntKind.u64.wrap n∧IntKind.u64.wrap n < 18446744073709551616:=by
 rw [Lx]; omega
theorem fa {n:Int} (h:0≤n) (h2:n < 18446744073709551616):IntKind.u64.wrap n=n:=by
 rw [Lx]; omega
theorem PR (n:Int):IntKind.u8.wrap n=n % 256:=rfl
theorem Hv {a b:Int} (k:IntKind) (h:0≤b∧b≤k.bits):dW k a b=a / 2 ^ b.toNat:=by
 unfold dW
 rw [Nat.min_eq_left (by omega),Int.fdiv_eq_ediv_of_nonneg _ (Int.le_of_lt (Int.pow_pos (by omega)))]
theorem WN {a b:Int} (h:0≤b∧b≤64):fC .u64 a b=(a * 2 ^ b.toNat) % 18446744073709551616:=by
 unfold fC
 have:IntKind.u64.bits=64:=rfl
 rw [this,Nat.min_eq_left (by omega),Lx]
theorem LN:(∀ (p:Prop) [Decidable p],(decide p=true)=p)∧(∀ (p:Prop) [Decidable p],decide p=false↔¬ p) ∧
  (∀ (α:Type) (a b:List α),(a++b).length=a.length+b.length)∧(∀ (α:Type) (x:α) (a:List α),(x :: a).length=a.length+1)∧(∀ α:Type,([]:List α).length=0) ∧
  (∀ (α:Type) (a:List α) (i:Nat) (x:α),(a.set i x).length=a.length)∧(∀ (α:Type) (n:Nat) (x:α),(List.replicate n x).length=n) ∧
  (∀ b:Bool,(¬ b=true)=(b=false))∧(∀ b:Bool,(¬ b=false)=(b=true))∧(∀ a b:Int,¬ a < b↔b≤a)∧(∀ a b:Int,¬ a≤b↔b < a) ∧
  (∀ a b:Bool,((a&&b)=true)=(a=true∧b=true))∧(∀ a b:Bool,((a||b)=true)=(a=true∨b=true))∧(∀ a b:Bool,(a&&b)=false↔a=false∨b=false)∧(∀ a b:Bool,(a||b)=false↔a=false∧b=false) ∧
  (∀ a b:Bool,(!a)=b↔a = !b)∧((!true)=false)∧((!false)=true) ∧
  (∀ (α:Type) [BEq α] [LawfulBEq α] (a b:α),(a == b)=true↔a=b)∧(∀ (α:Type) [BEq α] [LawfulBEq α] (a b:α),(a != b)=true↔a≠b) ∧
  (∀ (α:Type) [BEq α] [LawfulBEq α] (a b:α),(a == b)=false↔a≠b)∧(∀ (α:Type) [BEq α] [LawfulBEq α] (a b:α),(a != b)=false↔a=b) ∧
  (∀ (α:Type) (a b:α),(a≠b) = ¬ a=b)∧(∀ (α:Type) [Inhabited α] (L:List α) (lo n:Nat),(mO L lo n).length=n) :=
 ⟨fun _ _=>decide_eq_true_eq,fun _ _=>decide_eq_false_iff_not,fun _ _ _=>List.length_append,fun _ _ _=>rfl,fun _=>rfl,fun _ _ _ _=>List.length_set,fun _ _ _=>List.length_replicate,
  Bool.not_eq_true,Bool.not_eq_false,fun _ _=>Int.not_lt,fun _ _=>Int.not_le,Bool.and_eq_true,Bool.or_eq_true,fun _ _=>Bool.and_eq_false_iff,fun _ _=>Bool.or_eq_false_iff,
  fun _ _=>Bool.not_eq_eq_eq_not,rfl,rfl,fun _ _ _ _ _=>beq_iff_eq,fun _ _ _ _ _=>bne_iff_ne,fun _ _ _ _ _=>beq_eq_false_iff_ne,fun _ _ _ _ _=>bne_eq_false_iff_eq,fun _ _ _=>rfl,fun _ _=>IM⟩
theorem ON:(∀ (x:Unit),bH.z.post x=True) ∧
 (∀ (p:Prop) (x:Unit),(bH.p p).post x=True) ∧
 (∀ {p:Prop} (h:p) (x:Unit),(bH.t h).post x=True) ∧
 (∀ (p:Prop) {q:Prop} (h:q) (x:Unit),(bH.pt p h).post x=True) ∧
 (∀ (l:List Df) (x:Unit),(bH.o l).post x=True) ∧
 (∀ {α β:Type} (a:bH α) (b:bH β) (x:α × β),(a.and b).post x=(a.post x.1∧b.post x.2)) ∧
 (∀ {β:Type} (a:bH Unit) (b:bH β) (x:β),(a.aj b).post x=b.post x) ∧
 (∀ {β:Type} (a:bH β) (b:bH Unit) (x:β),(a.FT b).post x=a.post x) ∧
 (∀ {β:Type} (e w:Bool) (a:bH β) (x:β),(a.wh e w).post x=a.post x) ∧
 (∀ {α β:Type} (a:bH α) (b:α→bH β) (x:α × β),(a.dep b).post x=(a.post x.1∧(b x.1).post x.2)) ∧
 (∀ {α:Type} (a:bH α) (b:α→bH Unit) (x:α),(a.gw b).post x=a.post x) ∧
 (∀ {β:Type} (c:fD β) (x:β),c.c.post x=c.post x) ∧
 (∀ {β:Type} (c:fD β) (i:Nat) (h:∃ g,c.args[i]? = some (.d (.sl 0 g))) (x:β),(c.nil i h).post x=c.post x) ∧
 (∀ {β:Type} (c:fD β) (i j:Nat) (cs:List D) (h:c.args[i]? = some (.d (.agg cs))) (h2:∃ g,cs[j]? = some (.sl 0 g)) (x:β),(c.EH i j cs h h2).post x=c.post x) ∧
 (bH.z.pre=True) ∧
 (∀ (p:Prop),(bH.p p).pre=p) ∧
 (∀ {p:Prop} (h:p),(bH.t h).pre=True) ∧
 (∀ (p:Prop) {q:Prop} (h:q),(bH.pt p h).pre=p) ∧
 (∀ (l:List Df),(bH.o l).pre=True) ∧
 (∀ {α β:Type} (a:bH α) (b:bH β),(a.and b).pre=(a.pre∧b.pre)) ∧
 (∀ {β:Type} (a:bH Unit) (b:bH β),(a.aj b).pre=(a.pre∧b.pre)) ∧
 (∀ {β:Type} (a:bH β) (b:bH Unit),(a.FT b).pre=(a.pre∧b.pre)) ∧
 (∀ {β:Type} (e w:Bool) (a:bH β),(a.wh e w).pre=(e=w→a.pre)) ∧
 (∀ {α β:Type} (a:bH α) (b:α→bH β),(a.dep b).pre=(a.pre∧∀ x,x=a.v→a.post x→(b x).pre)) ∧
 (∀ {α:Type} (a:bH α) (b:α→bH Unit),(a.gw b).pre=(a.pre∧∀ x,x=a.v→a.post x→(b x).pre)) ∧
 (∀ {α β:Type} (a:bH α) (b:α→bH β),(a.dep b).v=(a.v,(b a.v).v)) ∧
 (∀ {α:Type} (a:bH α) (b:α→bH Unit),(a.gw b).v=a.v) ∧
 (∀ {β:Type} (c:fD β),c.c.pre=c.pre) ∧
 (∀ {β:Type} (c:fD β),c.c.v=c.v) ∧
 (∀ {β:Type} (c:fD β) (i:Nat) (h:∃ g,c.args[i]? = some (.d (.sl 0 g))),(c.nil i h).pre=c.pre) ∧
 (∀ {β:Type} (c:fD β) (i:Nat) (h:∃ g,c.args[i]? = some (.d (.sl 0 g))),(c.nil i h).v=c.v) ∧
 (∀ {β:Type} (c:fD β) (i j:Nat) (cs:List D) (h:c.args[i]? = some (.d (.agg cs))) (h2:∃ g,cs[j]? = some (.sl 0 g)),(c.EH i j cs h h2).pre=c.pre) ∧
 (∀ {β:Type} (c:fD β) (i j:Nat) (cs:List D) (h:c.args[i]? = some (.d (.agg cs))) (h2:∃ g,cs[j]? = some (.sl 0 g)),(c.EH i j cs h h2).v=c.v) ∧
 (∀ {α β:Type} (a:bH α) (b:bH β),(a.and b).v=(a.v,b.v)) ∧
 (∀ {β:Type} (a:bH Unit) (b:bH β),(a.aj b).v=b.v) ∧
 (∀ {β:Type} (a:bH β) (b:bH Unit),(a.FT b).v=a.v) ∧
 (∀ {β:Type} (e w:Bool) (a:bH β),(a.wh e w).v=a.v) ∧
 (∀ {β:Type} (c:lC β),c.c.pre=c.pre) ∧
 (∀ {β:Type} (c:lC β),c.c.v=c.v) ∧
 (∀ {β:Type} (c:lC β) (i:Nat) (h:∃ g,c.args[i]? = some (.d (.sl 0 g))),(c.nil i h).pre=c.pre) ∧
 (∀ {β:Type} (c:lC β) (i:Nat) (h:∃ g,c.args[i]? = some (.d (.sl 0 g))),(c.nil i h).v=c.v) ∧
 (∀ {β:Type} (c:lC β) (x:β),c.c.post x=c.post x) ∧
 (∀ {β:Type} (c:lC β) (i:Nat) (h:∃ g,c.args[i]? = some (.d (.sl 0 g))) (x:β),(c.nil i h).post x=c.post x) ∧
 (∀ {α β:Type} (L:α→Prop) (J:β→Prop) (a:α),rC L J (.inl a)=L a) ∧
 (∀ {α β:Type} (L:α→Prop) (J:β→Prop) (b:β),rC L J (.inr b)=J b) ∧
 (∀ {α β:Type} (L:α→Prop) (J:β→Prop) (a:α),iz L J (.inl a)=L a) ∧
 (∀ {α β:Type} (L:α→Prop) (J:β→Prop) (b:β),iz L J (.inr b)=J b) ∧
 (∀ (i:Int) (n:Nat),bM i n=(0≤i∧i < (n:Int))) ∧
 (∀ n m bytes:Nat,uG n m bytes=(n+m≤maxLen∧(n+m) * bytes≤140737488355328)) ∧
 (∀ (n:Int) (bytes:Nat),WK n bytes=(0≤n∧n.toNat≤maxLen∧n.toNat * bytes≤140737488355328)) ∧
 (∀ α:Prop,(α→True)=True) ∧
 (∀ α:Type,(α→True)=True) ∧
 (∀ p:Prop,(True∧p)=p) ∧
 (∀ p:Prop,(p∧True)=p) ∧
 (∀ p:Prop,(p∧p)=p) ∧
 (∀ p:Prop,(True→p)=p) ∧
 (∀ p:Prop,(False→p)=True):=by
 refine ⟨?_,?_,?_,?_,?_,?_,?_,?_,?_,?_,?_,?_,?_,?_,?_,?_,?_,?_,?_,?_,?_,?_,?_,?_,?_,?_,?_,?_,?_,?_,?_,?_,?_,?_,?_,?_,?_,?_,?_,?_,?_,?_,?_,?_,?_,?_,?_,?_,?_,?_,?_,?_,?_,?_,?_,?_,?_⟩
 all_goals first | rfl | (intros; rfl) | (intros; simp)
def kk {P:Program} {T:List (Nat × TI)} (hT:og P T) (hm:P.follows .mixedOrders=true) {f:FuncId} {fn:Func} (hf:P.funcs[f]? = some fn) (args:List AV) {α:Type} (enc:α→AV) (fl:Bool) (s:Sk α) (v:α) {pre:Prop} (ok:pre→s.bq fun _=>True)
  (post:α→Prop:=fun _=>True) (hp:post v:=by trivial) (hv:v=s.val:=by exact id rfl) (n:Nat:=3000) (hb:fn.body.isSome=true:=by exact id (by kernel_rfl)) (hc:(gF P f&&Nat.ble args.length fn.ntmps)=true:=by exact id (by kernel_rfl))
  (h:qi P T fn.ntmps fn.results.toList (FP fn.results.toList) 0 [] n [.code (fn.body.get hb)] ⟨fc 0 args,[]⟩ (fun a=>.ret (enc a) []) s=(qi P T fn.ntmps fn.results.toList (FP fn.results.toList) 0 [] n [.code (fn.body.get hb)] ⟨fc 0 args,[]⟩ (fun a=>.ret (enc a) []) s).diag:=by exact id (by kernel_rfl)):fD α :=
 ⟨P,f,args,enc,fl,v,pre,fun hp=>hv ▸ jl.sk hT hm enc (fun _=>[]) hf (Option.some_get hb).symm hc n s h (ok hp),post,hp⟩
theorem u0 {c:Prop} (f:c) (_:True):c:=f
theorem u2 {a b c:Prop} (f:a→b→c) (h:a∧b):c:=f h.1 h.2
theorem u3 {a b c d:Prop} (f:a→b→c→d) (h:a∧b∧c):d:=f h.1 h.2.1 h.2.2
theorem u4 {a b c d e:Prop} (f:a→b→c→d→e) (h:a∧b∧c∧d):e:=f h.1 h.2.1 h.2.2.1 h.2.2.2
theorem u5 {a b c d e g:Prop} (f:a→b→c→d→e→g) (h:a∧b∧c∧d∧e):g:=f h.1 h.2.1 h.2.2.1 h.2.2.2.1 h.2.2.2.2
theorem u6 {a b c d e g i:Prop} (f:a→b→c→d→e→g→i) (h:a∧b∧c∧d∧e∧g):i:=f h.1 h.2.1 h.2.2.1 h.2.2.2.1 h.2.2.2.2.1 h.2.2.2.2.2
def kp {P:Program} {T:List (Nat × TI)} (hT:og P T) (hm:P.follows .mixedOrders=true) {f:FuncId} {fn:Func} (hf:P.funcs[f]? = some fn) (args:List AV) {α:Type} (enc:α→AV) (fl:Bool) {s:Sk α} (v:α) {pre:Prop} (ok:pre→s.bq fun _=>True)
  {post:α→Prop} (hq:s.dq post) (hv:v=s.val:=by exact id rfl) (n:Nat:=3000) (hb:fn.body.isSome=true:=by exact id (by kernel_rfl)) (hc:(gF P f&&Nat.ble args.length fn.ntmps)=true:=by exact id (by kernel_rfl))
  (h:qi P T fn.ntmps fn.results.toList (FP fn.results.toList) 0 [] n [.code (fn.body.get hb)] ⟨fc 0 args,[]⟩ (fun a=>.ret (enc a) []) s=(qi P T fn.ntmps fn.results.toList (FP fn.results.toList) 0 [] n [.code (fn.body.get hb)] ⟨fc 0 args,[]⟩ (fun a=>.ret (enc a) []) s).diag:=by exact id (by kernel_rfl)):fD α :=
 ⟨P,f,args,enc,fl,v,pre,fun hp=>hv ▸ jl.sk hT hm enc (fun _=>[]) hf (Option.some_get hb).symm hc n s h (ok hp),post,hv ▸ Sk.dc s hq⟩
@[simp] theorem ajo {P:Program} {T:List (Nat × TI)} (hT:og P T) (hm:P.follows .mixedOrders=true) {f:FuncId} {fn:Func} (hf:P.funcs[f]? = some fn) (args:List AV) {α:Type} (enc:α→AV) (fl:Bool) (s:Sk α) (v:α) {pre:Prop} (ok:pre→s.bq fun _=>True) (post:α→Prop) (hp:post v) (hv:v=s.val) (n:Nat) (hb:fn.body.isSome=true) (hc:(gF P f&&Nat.ble args.length fn.ntmps)=true) (h:qi P T fn.ntmps fn.results.toList (FP fn.results.toList) 0 [] n [.code (fn.body.get hb)] ⟨fc 0 args,[]⟩ (fun a=>.ret (enc a) []) s=(qi P T fn.ntmps fn.results.toList (FP fn.results.toList) 0 [] n [.code (fn.body.get hb)] ⟨fc 0 args,[]⟩ (fun a=>.ret (enc a) []) s).diag):(kk hT hm hf args enc fl s v ok post hp hv n hb hc h).v=v:=rfl
@[simp] theorem aiA {P:Program} {T:List (Nat × TI)} (hT:og P T) (hm:P.follows .mixedOrders=true) {f:FuncId} {fn:Func} (hf:P.funcs[f]? = some fn) (args:List AV) {α:Type} (enc:α→AV) (fl:Bool) (s:Sk α) (v:α) {pre:Prop} (ok:pre→s.bq fun _=>True) (post:α→Prop) (hp:post v) (hv:v=s.val) (n:Nat) (hb:fn.body.isSome=true) (hc:(gF P f&&Nat.ble args.length fn.ntmps)=true) (h:qi P T fn.ntmps fn.results.toList (FP fn.results.toList) 0 [] n [.code (fn.body.get hb)] ⟨fc 0 args,[]⟩ (fun a=>.ret (enc a) []) s=(qi P T fn.ntmps fn.results.toList (FP fn.results.toList) 0 [] n [.code (fn.body.get hb)] ⟨fc 0 args,[]⟩ (fun a=>.ret (enc a) []) s).diag):(kk hT hm hf args enc fl s v ok post hp hv n hb hc h).pre=pre:=rfl
@[simp] theorem ahs {P:Program} {T:List (Nat × TI)} (hT:og P T) (hm:P.follows .mixedOrders=true) {f:FuncId} {fn:Func} (hf:P.funcs[f]? = some fn) (args:List AV) {α:Type} (enc:α→AV) (fl:Bool) (s:Sk α) (v:α) {pre:Prop} (ok:pre→s.bq fun _=>True) (post:α→Prop) (hp:post v) (hv:v=s.val) (n:Nat) (hb:fn.body.isSome=true) (hc:(gF P f&&Nat.ble args.length fn.ntmps)=true) (h:qi P T fn.ntmps fn.results.toList (FP fn.results.toList) 0 [] n [.code (fn.body.get hb)] ⟨fc 0 args,[]⟩ (fun a=>.ret (enc a) []) s=(qi P T fn.ntmps fn.results.toList (FP fn.results.toList) 0 [] n [.code (fn.body.get hb)] ⟨fc 0 args,[]⟩ (fun a=>.ret (enc a) []) s).diag):(kk hT hm hf args enc fl s v ok post hp hv n hb hc h).post=post:=rfl
theorem okT {p:Prop} (h:p:=by
 all_goals (repeat' first | assumption | (apply And.intro) | (intro h))
 all_goals first | trivial | assumption | omega | ((try simp only [LN] at *) <;> first | omega | (refine (aq ?_ ?_).trans ?_ <;> omega) | (simp (disch:=omega) only [aq] at *; omega) | (grind) | (simp_all; done) | (simp_all; omega))):p:=h
theorem agC {p:Prop} (h:p:=by
 all_goals (repeat' first | assumption | (apply And.intro) | (intro h))
 all_goals first | trivial | assumption | omega | ((try simp only [LN] at *) <;> first | omega | (refine (aq ?_ ?_).trans ?_ <;> omega) | (simp (disch:=omega) only [aq] at *; omega) | (grind) | (simp (disch:=omega) only [aq] at *; grind) | (simp_all; done) | (simp_all; omega))):p:=h
theorem mP {p:Prop} (h:p:=by
 refine Sk.aO _ ?_
 simp only [Sk.gx,Sk.aD,reduceCtorEq,rC,iz,bH.z,bH.p,bH.t,bH.pt,bH.o,bH.and,bH.aj,bH.FT,bH.wh,bH.dep,bH.gw,fD.c,kk,kp,fD.nil,fD.EH,lC.c,lC.nil,Sk.dq,Sk.cK,maxLen,implies_true,true_and,and_true,and_self,true_implies,false_implies,bM,uG,WK]):p:=h
theorem mH {p:Prop} (h:p:=by
 refine Sk.aO _ ?_
 simp only [Sk.gx,Sk.aD,reduceCtorEq,rC,iz,bH.z,bH.p,bH.t,bH.pt,bH.o,bH.and,bH.aj,bH.FT,bH.wh,bH.dep,bH.gw,fD.c,kk,kp,fD.nil,fD.EH,lC.c,lC.nil,Sk.dq,Sk.cK,maxLen,implies_true,true_and,and_true,and_self,true_implies,false_implies,bM,uG,WK]
 all_goals (repeat' first | assumption | (apply And.intro) | (intro h))
 all_goals first | trivial | assumption | omega | ((try simp only [LN] at *) <;> first | omega | (refine (aq ?_ ?_).trans ?_ <;> omega) | (simp (disch:=omega) only [aq] at *; omega) | (grind) | (simp_all; done) | (simp_all; omega))):p:=h
theorem xV {p:Prop} (h:p:=by
 refine Sk.aO _ ?_
 simp only [Sk.gx,Sk.aD,reduceCtorEq,rC,iz,bH.z,bH.p,bH.t,bH.pt,bH.o,bH.and,bH.aj,bH.FT,bH.wh,bH.dep,bH.gw,fD.c,kk,kp,fD.nil,fD.EH,lC.c,lC.nil,Sk.dq,Sk.cK,forall_eq,Sum.forall,maxLen,implies_true,true_and,and_true,and_self,true_implies,false_implies,bM,uG,WK]
 all_goals (repeat' first | assumption | (apply And.intro) | (intro h))
 all_goals first | trivial | assumption | omega | ((try simp only [LN] at *) <;> first | omega | (refine (aq ?_ ?_).trans ?_ <;> omega) | (simp (disch:=omega) only [aq] at *; omega) | (grind) | (simp_all; done) | (simp_all; omega))):p:=h
theorem Ly {p:Prop} (h:p:=by
 refine Sk.bh _ ?_
 simp only [Sk.aD,reduceCtorEq,rC,iz,bH.z,bH.p,bH.t,bH.pt,bH.o,bH.and,bH.aj,bH.FT,bH.wh,bH.dep,bH.gw,fD.c,kk,kp,fD.nil,fD.EH,lC.c,lC.nil,Sk.cK,maxLen,implies_true,true_and,and_true,and_self,true_implies,false_implies,bM,uG,WK]
 all_goals (repeat' first | assumption | (apply And.intro) | (intro h))
 all_goals first | trivial | assumption | omega | ((try simp only [LN] at *) <;> first | omega | (refine (aq ?_ ?_).trans ?_ <;> omega) | (simp (disch:=omega) only [aq] at *; omega) | (grind) | (simp_all; done) | (simp_all; omega))):p:=h
theorem Yp {p:Prop} (h:p:=by
 refine Sk.bh _ ?_
 simp only [Sk.aD,reduceCtorEq,rC,iz,bH.z,bH.p,bH.t,bH.pt,bH.o,bH.and,bH.aj,bH.FT,bH.wh,bH.dep,bH.gw,fD.c,kk,kp,fD.nil,fD.EH,lC.c,lC.nil,Sk.cK,forall_eq,Sum.forall,maxLen,implies_true,true_and,and_true,and_self,true_implies,false_implies,bM,uG,WK]
 all_goals (repeat' first | assumption | (apply And.intro) | (intro h))
 all_goals first | trivial | assumption | omega | ((try simp only [LN] at *) <;> first | omega | (refine (aq ?_ ?_).trans ?_ <;> omega) | (simp (disch:=omega) only [aq] at *; omega) | (grind) | (simp_all; done) | (simp_all; omega))):p:=h
theorem WO {α σ β:Type} {step:α→σ→β ⊕ σ} {I:Nat→σ→Prop} {Q:β→Prop}:∀ (l:List α) (k0:Nat) (s:σ),(∀ k x s,x∈l→I k s→match step x s with | .inl b=>Q b | .inr s'=>I (k+1) s')→I k0 s →
  (∃ b,Q b∧∀ fin,walk step fin l s=b)∨∃ s',I (k0+l.length) s'∧∀ fin,walk step fin l s=fin s'
 | [],k0,s,_,h0=>.inr ⟨s,h0,fun _=>rfl⟩
 | x :: r,k0,s,h,h0=>by
  have hx:=h k0 x s (by simp) h0
  simp only [walk]
  cases hs:step x s with
  | inl b=>rw [hs] at hx; exact .inl ⟨b,hx,fun _=>rfl⟩
  | inr s' =>
   rw [hs] at hx
   rcases WO r (k0+1) s' (fun k y t hy=>h k y t (List.mem_cons_of_mem _ hy)) hx with ⟨b,q,e⟩ | ⟨t,q,e⟩
   ·exact .inl ⟨b,q,e⟩
   ·exact .inr ⟨t,by rw [List.length_cons,show k0+(r.length+1)=k0+1+r.length by omega]; exact q,e⟩
theorem bD {α σ γ δ ι:Type} [Inhabited α] (l:List α) (pack:σ→Nat→ι) {f:ι→(γ ⊕ δ) ⊕ ι} {d:γ ⊕ δ} (step:α→σ→γ ⊕ σ) (fin:σ→δ) (g:δ→γ)
  (hs:∀ s i,i < l.length→f (pack s i)=match step (l.getD i default) s with | .inl b=>.inl (.inl b) | .inr s'=>.inr (pack s' (i+1)))
  (he:∀ s,f (pack s l.length)=.inl (.inr (fin s))) {n:Nat} (hn:l.length < n) (s:σ):bO (iter f d n (pack s 0)) g=walk step (fun s=>g (fin s)) l s:=by
 rw [jW (d:=d) l pack (fun x s=>match step x s with | .inl b=>.inl (.inl b) | .inr s'=>.inr s') (fun s=>.inr (fin s)) (fun s i hi=>by rw [hs s i hi]; cases step (l.getD i default) s <;> rfl) he hn s]
 clear hs he
 induction l generalizing s with
 | nil=>rfl
 | cons x r ih =>
  simp only [walk]
  cases step x s with
  | inl b=>rfl
  | inr s'=>exact ih (by simp at hn; omega) s'
section
structure uH (P:Program) (fi:FuncId) (nt:Nat) (ys:List (List AV)) where
 l:Nat
 w0:World
 S:Nat→Prop
 J:Nat→(Nat→Prop)→World→Prop
 Jx:(Nat→Prop)→World→Prop
 jk:∀ i F W W',J i F W→Kept W W' (fun b=>w0.heap.size≤b∧¬ F b∧¬ S b)→J i F W'
 jxk:∀ F W W',Jx F W→Kept W W' (fun b=>w0.heap.size≤b∧¬ F b∧¬ S b)→Jx F W'
 yl:∀ i F W (vs:Array Value),i < ys.length→J i F W→(∀ ν,dV W (fun _=>False) (fun _=>none) ν (ys.getD i []) vs.toList)→YieldAt Fence.wide 0 P l vs W fun e W'=>∃ F',(∀ b,F' b→F b∨W.heap.size≤b)∧(∀ b,F' b→b < W'.heap.size)∧Kept W W' F∧((e=.returned (.bool true)∧J (i+1) F' W')∨(e=.returned (.bool false)∧Jx F' W'))
variable {P : Program} {fi : FuncId} {nt : Nat} {ys : List (List AV)}
def uH.yv (X:uH P fi nt ys):Value:=.func (.yield X.l) #[] #[]
structure uH.Rt (X:uH P fi nt ys) (F:Nat→Prop) (C:Cx):Prop where
 dl:C.dl=[]
 sz:X.w0.heap.size≤C.w0.heap.size
 sub:∀ b,X.S b→C.S0 b
 dis:∀ b,C.S0 b→¬ F b
 Eb:∀ b,F b→b < C.w0.heap.size
 own:∀ b,C.T0 b→¬ F b∧X.w0.heap.size≤b
def uH.H (X:uH P fi nt ys) (i:Nat) (C:Cx):Prop:=∃ F,X.Rt F C∧X.J i F C.w0
def uH.ac0 (X:uH P fi nt ys) (C:Cx):Prop:=∃ F,X.Rt F C∧X.Jx F C.w0
def uH.Fin (X:uH P fi nt ys) (cs:List Frame) (m:Machine):Prop:=∃ v w' fr,((∃ F,X.J ys.length F w')∨∃ F,X.Jx F w')∧Steps P m (lone fr cs w')∧fr.fn=fi∧fr.leaving P w' (.returned v)
theorem uH.Fin.steps {X:uH P fi nt ys} {cs:List Frame} {m m':Machine} (hs:Steps P m m') (h:X.Fin cs m'):X.Fin cs m :=
 let ⟨v,w',fr,q1,q2,q3⟩:=h
 ⟨v,w',fr,q1,hs.trans q2,q3⟩
def uH.g (X:uH P fi nt ys) (T:List (Nat × TI)) (fn:Func) (H:Cx→Prop):Goal :=
 ⟨P,T,nt,fi,fn,.any,[],2,[0],#[X.yv],fun C _ cs m=>H C→X.Fin cs m,fun _ _ cs m m' hs hz h=>.steps hs (hz h)⟩
theorem uH.Rt.still {X:uH P fi nt ys} {F:Nat→Prop} {C:Cx} {A:M} {a:Act} {w:World} {S:Nat→Prop} {μ:Mu} {ν:Nat→Bool} (hF:X.Rt F C) (h:dA C A a w S μ ν):Kept C.w0 w (fun b=>X.w0.heap.size≤b∧¬ F b∧¬ X.S b) :=
 h.kept.BF fun b hb=>⟨(hF.own b hb).2,(hF.own b hb).1,fun hs=>C.dis b (hF.sub b hs) hb⟩
theorem uH.yield {X:uH P fi nt ys} {F:Nat→Prop} {C:Cx} {A:M} {a:Act} {w:World} {S:Nat→Prop} {μ:Mu} {i:Nat} (dE:∀ ν,dA C A a w S μ ν) (hF:X.Rt F C) (hJ:X.J i F C.w0) (hi:i < ys.length) {vs:Array Value}
  (hr:∀ ν,dV w (fun _=>False) (fun _=>none) ν (ys.getD i []) vs.toList):YieldAt Fence.wide 0 P X.l vs w fun e W'=>∃ C',C'.P=C.P∧C'.nt=C.nt∧(∀ ν,dA C' A a W' S μ ν)∧((e=.returned (.bool true)∧X.H (i+1) C')∨(e=.returned (.bool false)∧X.ac0 C')):=by
 have h0:=dE fun _=>false
 obtain ⟨fn,tmps,QW,body,h1,h2⟩:=X.yl i F w vs hi (X.jk _ _ _ _ hJ (hF.still h0)) hr
 refine ⟨fn,tmps,QW,body,h1,h2.mono ?_⟩
 rintro e W' ⟨F',q1,q2,q3,q4⟩
 have jT:=h0.kept.size
 have nS:∀ b,S b→¬ F b:=fun b hb hf=>by
  rcases h0.fresh b hb with h | h | h
  ·exact hF.dis b h hf
  ·have:=hF.Eb b hf; omega
  ·exact (hF.own b h).1 hf
 have nO:∀ b,tY A μ b→¬ F b:=fun b hb hf=>by
  rcases h0.TQ hb with h | h
  ·have:=hF.Eb b hf; omega
  ·exact (hF.own b h).1 hf
 have hS:∀ b,S b→W'.heap[b]? = w.heap[b]?:=fun b hb=>q3.block b (h0.bound b hb) (nS b hb)
 have vy:∀ ν,Core A a.tmps W' S μ ν:=fun ν=>(dE ν).core.keep (fun _=>.inr rfl) hS (fun q hq=>q3.block q (by obtain ⟨_,_,hb⟩:=h0.core.tp hq; exact hb.lt) (nO q hq)) q3.size
 have adJ:jU W' S:=h0.BG.mono (fun _ x=>x) hS
 have hrt:X.Rt F' (Cx.at C.P C.nt W' S A μ adJ (vy fun _=>false).mem (vy fun _=>false).bound [] (fun d h=>by cases h) List.nodup_nil):=by
  refine ⟨rfl,Nat.le_trans hF.sz (Nat.le_trans jT q3.size),fun b hb=>h0.fA b (hF.sub b hb),fun b hb hf=>?_,q2,fun b hb=>⟨fun hf=>?_,?_⟩⟩
  ·rcases q1 b hf with h | h
   ·exact nS b hb h
   ·have:=h0.bound b hb; omega
  ·rcases q1 b hf with h | h
   ·exact nO b hb h
   ·obtain ⟨_,_,od⟩:=h0.core.tp hb
    have:=od.lt
    omega
  ·rcases h0.TQ hb with h | h
   ·exact Nat.le_trans hF.sz h
   ·exact (hF.own b h).2
 refine ⟨Cx.at C.P C.nt W' S A μ adJ (vy fun _=>false).mem (vy fun _=>false).bound [] (fun d h=>by cases h) List.nodup_nil,rfl,rfl,fun ν=>(vy ν).sim h0.tmps _ _ _ _ _ _ (h0.defers.trans hF.dl),?_⟩
 exact q4.imp (fun ⟨a,b⟩=>⟨a,F',hrt,b⟩) (fun ⟨a,b⟩=>⟨a,F',hrt,b⟩)
def YW (X:uH P fi nt ys) (k:List Item) (ops:Array Oper) (H:Cx→Prop) (ya:List Nat) (kn:Option (Nat × Bool)) (l:List Nat) (st:St):Prop :=
 ∀ C:Cx,C.P=P→C.nt=nt→H C→∀ a w,(∀ u,u∈ya→a.tmps.getD u undef=X.yv)→(∀ s b,kn=some (s,b)→s < nt∧a.tmps.getD s undef=.bool b)→ku C st a w →
  wpOpsIn Fence.wide 0 P ops (fun e a' w'=>e=.normal∧∀ (b:Frame) (cs:List Frame),b.fn=fi→b.kind=.normal→b.roundOf=none→X.Fin cs (lone (b.atR a' k) cs w')) l a w
variable {X : uH P fi nt ys} {k : List Item} {ops : Array Oper} {H : Cx → Prop} {ya : List Nat} {kn : Option (Nat × Bool)} {l : List Nat} {st st' : St}
theorem YW.le (h:Nr st st') (hg:YW X k ops H ya kn l st'):YW X k ops H ya kn l st:=fun C h1 h2 h3 a w h4 h5 h6=>hg C h1 h2 h3 a w h4 h5 (h C a w h6)
theorem YW.nil {T:List (Nat × TI)} {fn:Func} (h0:0∈ya) (h:G (X.g T fn H) k st):YW X k ops H ya kn [] st:=fun C h1 h2 h3 a w h4 _ h6 =>
 ⟨rfl,fun b cs e1 e2 e3=>h C h1 h2 a w (fun u hu=>by
  have hu:u=0:=by simpa [uH.g] using hu
  subst hu
  exact h4 0 h0) h6 b cs e1 e2 ⟨fun _=>by show (2:Nat)≠1; decide,fun _=>e3⟩ h3⟩
theorem PS {P:Program} {o o':Oper} {a:Act} {w:World} {next next':Act→World→Prop} {Q Q':Exit→Act→World→Prop} {n:Nat} (ho:o'.op=o.op) (hd':o'.dst=o.dst) (ht:o'.type=o.type) (hd:∀ c,o.op≠.defer c) (hn:∀ a w,next a w→next' a w) (hq:∀ e a w,Q e a w→e=.normal) (h:o'.wp P a w next Q):o.wpIn Fence.wide n P a w next' Q':=by
 refine ⟨fun _ _=>trivial,?_⟩
 rw [Oper.semAt_eq _ _ _ hd]
 unfold Oper.wp at h
 have he:execOp a.eval o'=execOp a.eval o:=by
  unfold execOp
  rw [ho,ht]
 rw [he] at h
 generalize (execOp a.eval o).run P w=r at *
 have no:¬ LetsOut Q:=fun ⟨_,_,q⟩=>by cases hq _ _ _ q
 have hdp:(Fence.wide.depth.isSome=true→1≤n):=fun h=>by simp [Fence.wide] at h
 cases r with
 | ok x w' =>
  cases x <;> simp only [Oper.upon,Oper.uponIn,hd'] at h ⊢ <;>
   first
    | exact hn _ _ h
    | exact ⟨hdp,(callsIn_wide.2 h).mono (fun e w'' he=>by cases e <;> first | exact hn _ _ he | exact absurd (hq _ _ _ he) (by simp) | exact absurd he no)⟩
    | exact ⟨hdp,fun c cs _=>by obtain ⟨v,w'',q,s⟩:=h c cs; exact ⟨v,w'',hn _ _ q,stepsIn_wide.2 s⟩⟩
 | halt x w'=>cases x <;> simp only [Oper.upon,Oper.uponIn] at h ⊢ <;> first | exact h.elim | exact absurd (hq _ _ _ h) (by simp)
theorem T5 {P:Program} {pre ops:Array Oper} {Q Q':Exit→Act→World→Prop} {l:List Nat} (QB:∀ i,i < pre.size→ops[i]? = pre[i]?) (hg:(pre.toList.all fun o=>match o.guard with | some (j,_)=>Nat.blt j pre.size | none=>true)=true) (hd:mc pre=true) (hq:∀ e a w,Q e a w→e=.normal) :
  ∀ (is:List Nat),(∀ i,i∈is→i < pre.size)→∀ a w,wpOps P pre Q is a w→(∀ a' w',Q .normal a' w'→wpOpsIn Fence.wide 0 P ops Q' l a' w')→wpOpsIn Fence.wide 0 P ops Q' (is++l) a w
 | [],_,a,w,h,hk=>hk a w h
 | i :: is,hi,a,w,h,hk=>by
  have gJ:=hi i (by simp)
  have ih:=T5 (P:=P) (l:=l) (Q':=Q') QB hg hd hq is (fun j hj=>hi j (by simp [hj]))
  simp only [wpOps,List.cons_append,wpOpsIn] at h ⊢
  rw [QB i gJ]
  cases ho:pre[i]? with
  | none=>rw [ho] at h; exact ih a w h hk
  | some o =>
   rw [ho] at h
   simp only at h ⊢
   have hw:Region.wanted o (yielded ops a.tmps)=Region.wanted o (yielded pre a.tmps):=by
    unfold Region.wanted
    cases hgd:o.guard with
    | none=>rfl
    | some jw =>
     obtain ⟨j,want⟩:=jw
     simp only [List.all_eq_true] at hg
     have:=hg o (by obtain ⟨hi,rfl⟩:=Array.getElem?_eq_some_iff.1 ho; simp)
     rw [hgd] at this
     have hj:j < pre.size:=by simpa using this
     simp only [yielded,QB j hj]
   rw [hw]
   split
   ·rename_i hw
    rw [if_pos hw] at h
    rcases h with h | ⟨_,_,_,q⟩
    ·exact PS rfl rfl rfl (vw hd ho) (fun a' w' hh=>ih a' w' hh hk) hq h
    ·cases hq _ _ _ q
   ·rename_i hw
    rw [if_neg hw] at h
    exact ⟨fun _ _=>trivial,ih _ w h hk⟩
theorem Hw {l:List Nat} {o:Oper} (h:um l #[o]=true) {a:Act} {v:Value} {u:Nat} (hu:u∈l):(a.put o.dst v).tmps.getD u undef=a.tmps.getD u undef:=by
 simp only [um,List.all_eq_true] at h
 have h1:=h u hu o (by simp)
 cases hd:o.dst with
 | none=>rfl
 | some d =>
  rw [hd] at h1
  exact dt _ _ _ _ (fun e=>by subst e; simp at h1)
theorem T6 {l:List Nat} {pre:Array Oper} (h:um l pre=true) {K:Array Value→Prop} (hK:∀ t t':Array Value,(∀ u,u∈l→t'.getD u undef=t.getD u undef)→K t→K t'):TJ pre K:=fun i o a v ho hk =>
 hK _ _ (fun u hu=>Hw (l:=l) (by
  simp only [um,List.all_eq_true] at h ⊢
  intro t ht o' XU
  have:o'=o:=by simpa using XU
  subst this
  exact h t ht o' (by obtain ⟨hi,rfl⟩:=Array.getElem?_eq_some_iff.1 ho; simp)) hu) hk
def knL:Option (Nat × Bool)→List Nat
 | some (s,_)=>[s]
 | none=>[]
theorem YW.pre {T:List (Nat × TI)} (hT:og P T) (hm:P.follows .mixedOrders=true) {pre:Array Oper} {j8:List Df} {ob:Ob} (QB:∀ i,i < pre.size→ops[i]? = pre[i]?) (hg:(pre.toList.all fun o=>match o.guard with | some (j,_)=>Nat.blt j pre.size | none=>true)=true) (hd:mc pre=true) (hya:um ya pre=true)
  (hr:qo P T nt pre false none st j8=some (st',ob)) (cm:ob.den) (h:YW X k ops H ya none l st'):YW X k ops H ya none (List.range pre.size++l) st:=by
 intro C h1 h2 h3 a w h4 h5 h6
 have hw:=EA (C:=C) (T:=T) (by rw [h1]; exact hT) (by rw [h1]; exact hm) (by rw [h1,h2]; exact hr) cm h6
 rcases hw with ⟨-,hw⟩ | ⟨e,-⟩
 ·rw [h1] at hw
  have hw:=vg (K:=fun t=>∀ u,u∈ya→t.getD u undef=X.yv) (T6 hya fun t t' he hk u hu=>(he u hu).trans (hk u hu)) (fun e a w h=>h.1) _ a w h4 hw
  exact T5 QB hg hd (fun e a w h=>h.1.1) _ (fun i hi=>List.mem_range.1 hi) a w hw fun a' w' hh=>h C h1 h2 h3 a' w' hh.2 (fun s b e=>by cases e) hh.1.2
 ·cases e
def FU (ops:Array Oper) (kn:Option (Nat × Bool)) (o:Oper):Option Bool :=
 match o.guard with
 | none=>some true
 | some (j,w)=>(match Dg ops j,kn with
  | some s,some (s',b)=>bif Nat.beq s s' then some (b == w) else none
  | _,_=>none)
theorem yQ {o:Oper} {b:Bool} (h:FU ops kn o=some b) {a:Act} (hk:∀ s b,kn=some (s,b)→s < a.tmps.size∧a.tmps.getD s undef=.bool b):Region.wanted o (yielded ops a.tmps)=b:=by
 unfold FU at h
 unfold Region.wanted
 cases hgd:o.guard with
 | none=>rw [hgd] at h; simpa using h
 | some jw =>
  obtain ⟨j,want⟩:=jw
  rw [hgd] at h
  simp only at h ⊢
  split at h
  ·rename_i s s' b' hs
   rw [Bool.cond_eq_ite] at h
   split at h
   ·rename_i he
    have he:=Nat.eq_of_beq_eq_true he
    subst he
    obtain ⟨q1,q2⟩:=hk _ _ rfl
    rw [TF hs q1,q2]
    simp only [Option.some.injEq] at h
    subst h
    cases b' <;> cases want <;> rfl
   ·cases h
  ·cases h
theorem ku.drop {C:Cx} {a:Act} {w:World} {d:Nat} (h:ku C st a w) (hd:d < C.nt) (v:Value):ku C ⟨ba [d] st.sl,st.lb⟩ (a.put (some d) v) w:=by
 obtain ⟨S,μ,hs⟩:=h
 refine ⟨S,μ,fun ν=>?_⟩
 have:=(hs ν).put (dst:=some d) (x:=.any) (v:=v) (fun t e=>by cases e; exact hd) (.any _)
 refine this.weaken (fun u x hx=>?_) (fun κ b hb=>⟨b,hb,fun _ h=>h⟩)
 simp only [St.gb,M.yE,M.put] at hx ⊢
 by_cases e:u=d
 ·subst e
  have:St.get (ba [u] st.sl) u=.any:=by simp [St.get,mM]
  rw [this]
  exact .any _
 ·simp only [e,if_false] at hx
  have:St.get (ba [d] st.sl) u=St.get st.sl u:=by simp [St.get,mM,e]
  rw [this]
  exact hx
theorem ku.agD {C:Cx} {a:Act} {w:World} {d:Nat} (h:ku C st a w) (hd:d < C.nt) {x:AV} {v:Value} (hx:∀ S μ,(∀ ν,dA C st.gb a w S μ ν)→∀ ν,Rel w S μ ν x v):ku C ⟨(d,x) :: ba [d] st.sl,st.lb⟩ (a.put (some d) v) w:=by
 obtain ⟨S,μ,hs⟩:=h
 refine ⟨S,μ,fun ν=>?_⟩
 have:=(hs ν).put (dst:=some d) (x:=x) (v:=v) (fun t e=>by cases e; exact hd) (hx S μ hs ν)
 refine this.weaken (fun u y hy=>?_) (fun κ b hb=>⟨b,hb,fun _ h=>h⟩)
 simp only [St.gb,M.yE,M.put] at hy ⊢
 rw [Ku]
 by_cases e:u=d
 ·subst e; simpa using hy
 ·rw [if_neg (fun h=>e h.symm)]; simpa [e] using hy
theorem Lz {o:Oper} (h:um (ya++knL kn) #[o]=true) {a:Act} (v:Value) (h4:∀ u,u∈ya→a.tmps.getD u undef=X.yv) (h5:∀ s b,kn=some (s,b)→s < nt∧a.tmps.getD s undef=.bool b) :
  (∀ u,u∈ya→(a.put o.dst v).tmps.getD u undef=X.yv)∧∀ s b,kn=some (s,b)→s < nt∧(a.put o.dst v).tmps.getD s undef=.bool b :=
 ⟨fun u hu=>(Hw h (by simp [hu])).trans (h4 u hu),fun s b e=>⟨(h5 s b e).1,(Hw h (by simp [knL,e])).trans (h5 s b e).2⟩⟩
theorem uI {P:Program} {Q:Exit→Act→World→Prop} {i:Nat} {o:Oper} {a:Act} {w:World} (ho:ops[i]? = some o) (hw:Region.wanted o (yielded ops a.tmps)=true) (h:o.wpIn Fence.wide 0 P a w (wpOpsIn Fence.wide 0 P ops Q l) Q):wpOpsIn Fence.wide 0 P ops Q (i :: l) a w:=by
 simp only [wpOpsIn,ho,hw,if_true]
 exact h
theorem YW.op {T:List (Nat × TI)} (hT:og P T) (hm:P.follows .mixedOrders=true) {i:Nat} {o:Oper} {ob:Ob} (ho:ops[i]? = some o) (hw:FU ops kn o=some true) (hd:mc #[o]=true) (hya:um (ya++knL kn) #[o]=true)
  (hr:qo P T nt #[{ o with guard:=none }] false none st []=some (st',ob)) (cm:ob.den) (h:YW X k ops H ya kn l st'):YW X k ops H ya kn (i :: l) st:=by
 intro C h1 h2 h3 a w h4 h5 h6
 have jT:a.tmps.size=nt:=by obtain ⟨S,μ,hs⟩:=h6; exact (hs fun _=>false).tmps.trans h2
 refine uI ho (yQ hw fun s b e=>⟨jT ▸ (h5 s b e).1,(h5 s b e).2⟩) ?_
 have hw:=EA (C:=C) (T:=T) (by rw [h1]; exact hT) (by rw [h1]; exact hm) (by rw [h1,h2]; exact hr) cm h6
 rcases hw with ⟨-,hw⟩ | ⟨e,-⟩
 ·rw [h1] at hw
  have hw:=vg (K:=fun t=>(∀ u,u∈ya→t.getD u undef=X.yv)∧∀ s b,kn=some (s,b)→s < nt∧t.getD s undef=.bool b) (fun j o' a v XU hk=>by
   have e:o' = { o with guard:=none }:=by
    match j,XU with
    | 0,XU=>simpa using XU.symm
    | j+1,XU=>simp at XU
   subst e
   exact Lz (o:=o) hya v hk.1 hk.2) (fun e a w h=>h.1) _ a w ⟨h4,h5⟩ hw
  have e1:List.range (#[{ o with guard:=none }]:Array Oper).size=[0]:=rfl
  rw [e1] at hw
  simp only [wpOps,Region.wanted] at hw
  rcases hw with hw | ⟨_,_,_,q⟩
  ·exact PS (o':={ o with guard:=none }) rfl rfl rfl (vw (ops:=#[o]) hd (i:=0) rfl) (fun a' w' hh=>h C h1 h2 h3 a' w' hh.2.1 hh.2.2 hh.1.2) (fun e a w h=>h.1.1) hw
  ·cases q.1.1
 ·cases e
theorem YW.skip {i d:Nat} {o:Oper} (ho:ops[i]? = some o) (hw:FU ops kn o=some false) (hd:o.dst=some d) (hdn:d < nt) (hya:um (ya++knL kn) #[o]=true) (h:YW X k ops H ya kn l ⟨ba [d] st.sl,st.lb⟩):YW X k ops H ya kn (i :: l) st:=by
 intro C h1 h2 h3 a w h4 h5 h6
 have jT:a.tmps.size=nt:=by obtain ⟨S,μ,hs⟩:=h6; exact (hs fun _=>false).tmps.trans h2
 have hw:=yQ hw (a:=a) fun s b e=>⟨jT ▸ (h5 s b e).1,(h5 s b e).2⟩
 obtain ⟨q1,q2⟩:=Lz hya undef h4 h5
 simp only [wpOpsIn,ho,hw]
 exact ⟨fun _ _=>trivial,h C h1 h2 h3 _ w q1 q2 (by rw [hd]; exact h6.drop (by rw [h2]; exact hdn) _)⟩
theorem YW.value {i d:Nat} {o:Oper} {x:AV} (ho:ops[i]? = some o) (hw:FU ops kn o=some true) (hd:o.dst=some d) (hdn:d < nt) (hdf:mc #[o]=true) (hya:um (ya++knL kn) #[o]=true)
  (hx:∀ (a:Act) (w:World),(∀ u,u∈ya→a.tmps.getD u undef=X.yv)→(∀ s b,kn=some (s,b)→s < nt∧a.tmps.getD s undef=.bool b)→∃ v,(execOp a.eval o).run P w=.ok (.value v) w∧∀ C S μ,C.P=P→(∀ ν,dA C st.gb a w S μ ν)→∀ ν,Rel w S μ ν x v)
  (h:YW X k ops H ya kn l ⟨(d,x) :: ba [d] st.sl,st.lb⟩):YW X k ops H ya kn (i :: l) st:=by
 intro C h1 h2 h3 a w h4 h5 h6
 have jT:a.tmps.size=nt:=by obtain ⟨S,μ,hs⟩:=h6; exact (hs fun _=>false).tmps.trans h2
 refine uI ho (yQ hw fun s b e=>⟨jT ▸ (h5 s b e).1,(h5 s b e).2⟩) ⟨fun _ _=>trivial,?_⟩
 obtain ⟨v,q1,q2⟩:=hx a w h4 h5
 obtain ⟨q3,q4⟩:=Lz hya v h4 h5
 rw [Oper.semAt_eq _ _ _ (vw (ops:=#[o]) (o:=o) hdf (i:=0) rfl),q1]
 simp only [Oper.uponIn]
 exact h C h1 h2 h3 _ w q3 q4 (by rw [hd]; exact h6.agD (by rw [h2]; exact hdn) (fun S μ hs=>q2 C S μ h1 hs))
theorem YW.mv {i d u:Nat} {o:Oper} (ho:ops[i]? = some o) (hw:FU ops kn o=some true) (hd:o.dst=some d) (hdn:d < nt) (hya:um (ya++knL kn) #[o]=true) (DF:o.op=.move (.tmp u)) (hu:u∈ya) (h:YW X k ops H (d :: ya) kn l ⟨ba [d] st.sl,st.lb⟩):YW X k ops H ya kn (i :: l) st:=by
 intro C h1 h2 h3 a w h4 h5 h6
 have jT:a.tmps.size=nt:=by obtain ⟨S,μ,hs⟩:=h6; exact (hs fun _=>false).tmps.trans h2
 refine uI ho (yQ hw fun s b e=>⟨jT ▸ (h5 s b e).1,(h5 s b e).2⟩) ⟨fun _ _=>trivial,?_⟩
 obtain ⟨q3,q4⟩:=Lz hya X.yv h4 h5
 have hv:a.eval (.tmp u)=X.yv:=h4 u hu
 have he:(execOp a.eval o).run P w=.ok (.value X.yv) w:=by
  simp only [execOp,DF,hv]
  rfl
 rw [Oper.semAt_eq _ _ _ (fun c e=>by rw [DF] at e; cases e),he]
 simp only [Oper.uponIn]
 refine h C h1 h2 h3 _ w (fun u' hu'=>?_) q4 (by rw [hd]; exact h6.drop (by rw [h2]; exact hdn) _)
 rcases List.mem_cons.1 hu' with e | e
 ·subst e
  rw [hd]
  exact iy _ _ _ (by rw [jT]; exact hdn)
 ·exact q3 u' e
theorem YW.yl {i d u n:Nat} {o:Oper} {c:Call} {ts:List Nat} {y:List AV} (ho:ops[i]? = some o) (hw:FU ops kn o=some true) (hd:o.dst=some d) (hdn:d < nt) (hya:um (ya++knL kn) #[o]=true) (DF:o.op=.call c) (hc:c.callee=.value (.tmp u)) (hu:u∈ya)
  (hn:ys[n]? = some y) (ha:c.args.toList=ts.map .tmp) (hy:ts.map (St.get st.sl)=y) (hf:y.all fV=true)
  (hon:YW X k ops (X.H (n+1)) ya kn l ⟨(d,.d (.v (.bool true))) :: ba [d] st.sl,st.lb⟩) (aeI:YW X k ops X.ac0 ya kn l ⟨(d,.d (.v (.bool false))) :: ba [d] st.sl,st.lb⟩):YW X k ops (X.H n) ya kn (i :: l) st:=by
 intro C h1 h2 h3 a w h4 h5 h6
 have jT:a.tmps.size=nt:=by obtain ⟨S,μ,hs⟩:=h6; exact (hs fun _=>false).tmps.trans h2
 refine uI ho (yQ hw fun s b e=>⟨jT ▸ (h5 s b e).1,(h5 s b e).2⟩) ⟨fun _ _=>trivial,?_⟩
 obtain ⟨S,μ,dE⟩:=h6
 obtain ⟨F,hF,hJ⟩:=h3
 have gJ:n < ys.length:=(List.getElem?_eq_some_iff.1 hn).1
 have hyn:ys.getD n []=y:=by simp [List.getD,hn]
 have mb:(c.args.map a.eval).toList=ts.map fun t=>a.tmps.getD t undef:=by
  rw [Array.toList_map,ha,List.map_map]
  rfl
 have hrel:∀ ν,dV w (fun _=>False) (fun _=>none) ν (ys.getD n []) (c.args.map a.eval).toList:=fun ν=>by
  rw [hyn,mb]
  subst hy
  refine ⟨by simp,fun j hj=>?_⟩
  have IA:j < ts.length:=by simpa using hj
  have h1:=(dE ν).eJ ts[j]
  have h2:fV (St.get st.sl ts[j])=true:=by
   simp only [List.all_eq_true] at hf
   exact hf _ (List.mem_map.2 ⟨_,List.getElem_mem IA,rfl⟩)
  have h3:=PC h2 (w':=w) (S':=fun _=>False) (μ':=fun _=>none) (ν':=ν) h1
  simpa [List.getD,IA,St.gb] using h3
 have hv:a.eval (.tmp u)=X.yv:=h4 u hu
 obtain ⟨fn,tmps,QW,body,q1,q2⟩:=X.yield dE hF hJ gJ hrel
 have he:(execOp a.eval o).run P w=(Instr.yield X.l (c.args.map a.eval)).run P w:=by
  simp only [execOp,DF,resolve,hc,hv,uH.yv,Deferred.ofValue]
  simp [invoke,go_sem]
 rw [Oper.semAt_eq _ _ _ (fun c e=>by rw [DF] at e; cases e),he,q1]
 refine ⟨fun h=>by simp [Fence.wide] at h,q2.mono ?_⟩
 rintro e W' ⟨C',c1,c2,c3,c4⟩
 have fin:∀ (b:Bool) (H':Cx→Prop),H' C'→YW X k ops H' ya kn l ⟨(d,.d (.v (.bool b))) :: ba [d] st.sl,st.lb⟩→wpOpsIn Fence.wide 0 P ops (fun e a' w'=>e=.normal∧∀ (b:Frame) (cs:List Frame),b.fn=fi→b.kind=.normal→b.roundOf=none→X.Fin cs (lone (b.atR a' k) cs w')) l (a.put o.dst (.bool b)) W':=by
  intro b H' hH hYW
  obtain ⟨q3,q4⟩:=Lz hya (.bool b) h4 h5
  exact hYW C' (c1.trans h1) (c2.trans h2) hH _ W' q3 q4 (by rw [hd]; exact ku.agD ⟨S,μ,c3⟩ (by rw [c2,h2]; exact hdn) (fun S μ _ ν=>g7 rfl))
 rcases c4 with ⟨rfl,hH⟩ | ⟨rfl,hH⟩
 ·exact fin true _ hH hon
 ·exact fin false _ hH aeI
def evC (P:Program) (T:List (Nat × TI)) (nt:Nat) (pre:Array Oper) (st:St) (j8:List Df) (mf:Option Prop) (J:St):CT :=
 match qo P T nt pre false none st j8 with
 | some (st',ob)=>.two ob.eqs (.two (.po ob.prop mf) (NC st' J))
 | none=>.bad
theorem abh {P:Program} {T:List (Nat × TI)} {nt:Nat} {pre:Array Oper} {j8:List Df} {mf:Option Prop} {J:St} (h:(evC P T nt pre st j8 mf J).ok) (hc:∀ p,mf=some p→p):∃ st' ob,qo P T nt pre false none st j8=some (st',ob)∧ob.den∧Nr st' J:=by
 unfold evC at h
 split at h
 ·rename_i st' ob hr
  obtain ⟨h1,h2,h3⟩:=h
  have h2:ob.prop=mf:=h2
  exact ⟨st',ob,hr,Ob.Hp h1 (fun p hp=>hc p (h2 ▸ hp)),wZ h3⟩
 ·exact h.elim
def preB (ya:List Nat) (pre:Array Oper):Bool:=(pre.toList.all fun o=>match o.guard with | some (j,_)=>Nat.blt j pre.size | none=>true)&&mc pre&&um ya pre
theorem YW.aiB {T:List (Nat × TI)} (hT:og P T) (hm:P.follows .mixedOrders=true) {α:Type} (cl:bH α) (j:Nat) (J:α→St) (hb:preB ya ((ops.toList.take j).toArray)=true) (hj:j≤ops.size)
  (h:∀ x,evC P T nt ((ops.toList.take j).toArray) st (cl.j8 x) (cl.mf x) (J x)=(evC P T nt ((ops.toList.take j).toArray) st (cl.j8 x) (cl.mf x) (J x)).diag) (hp:cl.pre) (hk:YW X k ops H ya none (List.range' j (ops.size - j)) (J cl.v)):YW X k ops H ya none (List.range ops.size) st:=by
 obtain ⟨st',ob,hr,cm,hle⟩:=abh (CT.Ee (h cl.v)) (fun p e=>cl.pf hp p e)
 simp only [preB,Bool.and_eq_true] at hb
 have jT:((ops.toList.take j).toArray).size=j:=by simp; omega
 have:=YW.pre (ops:=ops) (H:=H) (k:=k) (l:=List.range' j (ops.size - j)) hT hm (pre:=(ops.toList.take j).toArray) (fun i hi=>by
  rw [jT] at hi
  simp [List.getElem?_take,hi]) hb.1.1 hb.1.2 hb.2 hr cm (hk.le hle)
 rw [jT] at this
 have e:List.range ops.size=List.range j++List.range' j (ops.size - j):=by
  rw [List.range_eq_range',List.range_eq_range']
  have:=List.range'_append (s:=0) (m:=j) (n:=ops.size - j) (step:=1)
  simp only [Nat.zero_add,Nat.one_mul] at this
  rw [this]
  congr 1
  omega
 rw [e]
 exact this
theorem YW.aiC {s:Nat} {b:Bool} (hs:St.get st.sl s=.d (.v (.bool b))) (gJ:s < nt) (h:YW X k ops H ya (some (s,b)) l st):YW X k ops H ya none l st:=by
 intro C h1 h2 h3 a w h4 h5 h6
 refine h C h1 h2 h3 a w h4 (fun s' b' e=>?_) h6
 simp only [Option.some.injEq,Prod.mk.injEq] at e
 obtain ⟨rfl,rfl⟩:=e
 obtain ⟨S,μ,dE⟩:=h6
 have:=(dE fun _=>false).eJ s
 simp only [St.gb,hs] at this
 exact ⟨gJ,oj this⟩
def tlB (ops:Array Oper) (nt i:Nat) (ya:List Nat) (kn:Option (Nat × Bool)) (want:Bool):Bool :=
 match ops[i]? with
 | some o=>(match FU ops kn o,o.dst with | some b,some d=>(b == want)&&Nat.ble (d+1) nt | _,_=>false)&&um (ya++knL kn) #[o]&&mc #[o]
 | none=>false
theorem LA {nt i:Nat} {want:Bool} (h:tlB ops nt i ya kn want=true):∃ o d,ops[i]? = some o∧FU ops kn o=some want∧o.dst=some d∧d < nt∧um (ya++knL kn) #[o]=true∧mc #[o]=true:=by
 unfold tlB at h
 split at h
 ·rename_i o ho
  simp only [Bool.and_eq_true] at h
  obtain ⟨⟨h1,h2⟩,h3⟩:=h
  split at h1
  ·rename_i b d hb hd
   simp only [Bool.and_eq_true,beq_iff_eq] at h1
   obtain ⟨rfl,h1⟩:=h1
   exact ⟨o,d,ho,hb,hd,Nat.le_of_ble_eq_true h1,h2,h3⟩
  ·cases h1
 ·cases h
theorem YW.opC {T:List (Nat × TI)} (hT:og P T) (hm:P.follows .mixedOrders=true) {i:Nat} {o:Oper} (J:St) (ho:ops[i]? = some o) (hb:tlB ops nt i ya kn true=true)
  (h:evC P T nt #[{ o with guard:=none }] st [] none J=(evC P T nt #[{ o with guard:=none }] st [] none J).diag) (hk:YW X k ops H ya kn l J):YW X k ops H ya kn (i :: l) st:=by
 obtain ⟨o',d,q1,q2,q3,q4,q5,q6⟩:=LA hb
 rw [ho] at q1
 cases q1
 obtain ⟨st',ob,hr,cm,hle⟩:=abh (CT.Ee h) (fun p e=>by cases e)
 exact YW.op hT hm ho q2 q6 q5 hr cm (hk.le hle)
theorem YW.T7 {i d:Nat} {o:Oper} (ho:ops[i]? = some o) (hd:o.dst=some d) (hb:tlB ops nt i ya kn false=true) (hk:YW X k ops H ya kn l ⟨ba [d] st.sl,st.lb⟩):YW X k ops H ya kn (i :: l) st:=by
 obtain ⟨o',d',q1,q2,q3,q4,q5,q6⟩:=LA hb
 rw [ho] at q1
 cases q1
 rw [hd] at q3
 cases q3
 exact YW.skip ho q2 hd q4 q5 hk
theorem YW.mvC {i d u:Nat} {o:Oper} (ho:ops[i]? = some o) (hd:o.dst=some d) (DF:o.op=.move (.tmp u)) (hu:u∈ya) (hb:tlB ops nt i ya kn true=true) (hk:YW X k ops H (d :: ya) kn l ⟨ba [d] st.sl,st.lb⟩):YW X k ops H ya kn (i :: l) st:=by
 obtain ⟨o',d',q1,q2,q3,q4,q5,q6⟩:=LA hb
 rw [ho] at q1
 cases q1
 rw [hd] at q3
 cases q3
 exact YW.mv ho q2 hd q4 q5 DF hu hk
def adK (sl:List (Nat × AV)):Operand→AV
 | .tmp t=>St.get sl t
 | .const v=>.d (.v v)
 | _=>.any
theorem YW.abi {i d s:Nat} {b:Bool} {o:Oper} {x y:Operand} (e:Bool) (ho:ops[i]? = some o) (hd:o.dst=some d) (DF:o.op=.pick (.tmp s) x y) (hb:tlB ops nt i ya (some (s,b)) true=true) (he:adK st.sl (bif b then x else y)=.d (.v (.bool e)))
  (hk:YW X k ops H ya (some (s,b)) l ⟨(d,.d (.v (.bool e))) :: ba [d] st.sl,st.lb⟩):YW X k ops H ya (some (s,b)) (i :: l) st:=by
 obtain ⟨o',d',q1,q2,q3,q4,q5,q6⟩:=LA hb
 rw [ho] at q1
 cases q1
 rw [hd] at q3
 cases q3
 refine YW.value ho q2 hd q4 q6 q5 (fun a w h4 h5=>?_) hk
 obtain ⟨hs,hv⟩:=h5 s b rfl
 have hv:a.eval (.tmp s)=.bool b:=hv
 refine ⟨a.eval (bif b then x else y),?_,fun C S μ hC dE ν=>?_⟩
 ·simp only [execOp,DF,hv]
  cases b <;> simp [asBool,go_sem]
 ·generalize (bif b then x else y)=z at he
  rw [← he]
  cases z with
  | tmp t=>exact (dE ν).eJ t
  | const v =>
   simp only [adK] at he ⊢
   cases he
   exact g7 rfl
  | _=>exact .any _
theorem YW.ylC {i d u n:Nat} {o:Oper} {c:Call} {ts:List Nat} {y:List AV} (ho:ops[i]? = some o) (hd:o.dst=some d) (DF:o.op=.call c) (hc:c.callee=.value (.tmp u)) (hu:u∈ya) (hb:tlB ops nt i ya kn true=true)
  (hn:ys[n]? = some y) (ha:c.args.toList=ts.map .tmp) (hy:ts.map (St.get st.sl)=y) (hf:y.all fV=true)
  (hon:YW X k ops (X.H (n+1)) ya kn l ⟨(d,.d (.v (.bool true))) :: ba [d] st.sl,st.lb⟩) (aeI:YW X k ops X.ac0 ya kn l ⟨(d,.d (.v (.bool false))) :: ba [d] st.sl,st.lb⟩):YW X k ops (X.H n) ya kn (i :: l) st:=by
 obtain ⟨o',d',q1,q2,q3,q4,q5,q6⟩:=LA hb
 rw [ho] at q1
 cases q1
 rw [hd] at q3
 cases q3
 exact YW.yl ho q2 hd q4 q5 DF hc hu hn ha hy hf hon aeI
theorem G.yr {T:List (Nat × TI)} {fn:Func} {id:Nat} (h:YW X k ops H [0] none (List.range ops.size) st):G (X.g T fn H) (.code (.region id ops false) :: k) st:=by
 intro C h1 h2 a w hk hs b cs e1 e2 e3 h3
 have hr:b.roundOf=none:=e3.2 (by show (2:Nat)≠1; decide)
 have hw:(Code.region id ops false).wpIn Fence.wide 0 P _ a w:=wpIn_region (h C h1 h2 h3 a w (fun u hu=>by
  have:u=0:=by simpa using hu
  subst this
  exact hk 0 (by simp [uH.g])) (fun s b e=>by cases e) hs)
 obtain ⟨e,a',w',⟨q1,q2⟩,aaR⟩:=hw b k cs hr trivial (room_wide _)
 subst q1
 exact .steps (StepsIn.steps aaR) (q2 b cs e1 e2 hr)
theorem uH.Yq {T:List (Nat × TI)} {fn:Func} (hf:P.funcs[fi]? = some fn) (hrs:fn.results = #[]) {C:Cx} {F:Nat→Prop} (h1:C.P=P) {a:Act} {w:World} (hs:ku C st a w) (hF:X.Rt F C) (hJ:X.J ys.length F w∨X.Jx F w)
  {todo:List Item} (oh:∀ (b:Frame) (cs:List Frame),b.roundOf=none→Steps P (lone (b.atR a todo) cs w) (lone { b.atR a todo with mode:=.returning } cs w)) (b:Frame) (cs:List Frame) (Hb:b.fn=fi) (Bb:b.kind=.normal) (Jn:b.roundOf=none):X.Fin cs (lone (b.atR a todo) cs w):=by
 obtain ⟨S,μ,dE⟩:=hs
 have h0:=dE fun _=>false
 have hr:(results fn a.tmps).run P w=.ok (.tuple #[]) w:=by
  have:=wY (C:=C) (fn:=fn) (a:=a) (w:=w) (vs:=[]) (by rw [hrs]; simp)
  rw [h1] at this
  exact this
 refine ⟨.tuple #[],w,{ b.atR a todo with mode:=.returning },hJ.imp (fun h=>⟨F,h⟩) (fun h=>⟨F,h⟩),oh b cs Jn,Hb,rfl,h0.defers.trans hF.dl,Bb,fn,?_,hr⟩
 show P.funcs[b.fn]? = _
 rw [Hb]; exact hf
theorem uH.ret {T:List (Nat × TI)} {fn:Func} (hf:P.funcs[fi]? = some fn) (hrs:fn.results = #[]) (hH:∀ C,H C→X.H ys.length C∨X.ac0 C):G (X.g T fn H) [] st∧∀ k,G (X.g T fn H) (.code .ret :: k) st:=by
 have key:∀ (C:Cx) (a:Act) (w:World),H C→ku C st a w→∃ F,X.Rt F C∧(X.J ys.length F w∨X.Jx F w):=by
  intro C a w hC hs
  obtain ⟨S,μ,dE⟩:=hs
  have h0:=dE fun _=>false
  rcases hH C hC with ⟨F,hF,hJ⟩ | ⟨F,hF,hJ⟩
  ·exact ⟨F,hF,.inl (X.jk _ _ _ _ hJ (hF.still h0))⟩
  ·exact ⟨F,hF,.inr (X.jxk _ _ _ hJ (hF.still h0))⟩
 exact ⟨fun C h1 h2 a w _ hs b cs e1 e2 e3 hC=>by
   obtain ⟨F,hF,hJ⟩:=key C a w hC hs
   exact uH.Yq (T:=T) hf hrs h1 hs hF hJ (fun b cs hb=>.one (stepR_end hb)) b cs e1 e2 (e3.2 (by show (2:Nat)≠1; decide)),
  fun k C h1 h2 a w _ hs b cs e1 e2 e3 hC=>by
   obtain ⟨F,hF,hJ⟩:=key C a w hC hs
   exact uH.Yq (T:=T) hf hrs h1 hs hF hJ (fun b cs hb=>.one (stepR_ret hb)) b cs e1 e2 (e3.2 (by show (2:Nat)≠1; decide))⟩
theorem Zp.intro {P:Program} {T:List (Nat × TI)} {f:FuncId} {fn:Func} {body:Code} {cS:List AV} {ys:List (List AV)} (hf:P.funcs[f]? = some fn) (hb:fn.body=some body) (hc:gF P f=true) (hn:cS.length+1≤fn.ntmps)
  (h:∀ X:uH P f fn.ntmps ys,G (X.g T fn (X.H 0)) [.code body] ⟨fc 1 cS,[]⟩):Zp P f cS ys:=by
 refine ⟨hc,fun w0 S μ De l J Jx F0 hS hgl Zd hSF hF hJk aiD X0 hJ cs=>?_⟩
 let X:uH P f fn.ntmps ys:=⟨l,w0,S,J,Jx,hJk,aiD,X0⟩
 let C:Cx:=⟨P,w0,S,fun _=>False,fn.ntmps,hgl,fun b hb h=>h.elim,hS,[],fun d h=>(by cases h),List.nodup_nil⟩
 let b:Frame:={ (default:Frame) with fn:=f,kind:=.normal,roundOf:=none }
 let vs:Array Value:=#[.func (.yield l) #[] #[]]++De
 have hl:De.size=cS.length:=by have:=(Zd fun _=>false).1; simpa using this
 have hvs:vs.size=cS.length+1:=by simp [vs,hl]; omega
 have Wq:Frame.enter P f vs .normal=b.atR { tmps:=vs++Array.replicate (fn.ntmps - vs.size) undef,defers:=[] } [.code body]:=by
  simp [Frame.enter,Frame.atR,hf,hb,b]
 have dE:ku C ⟨fc 1 cS,[]⟩ { tmps:=vs++Array.replicate (fn.ntmps - vs.size) undef,defers:=[] } w0:=by
  refine ⟨S,μ,fun ν=>⟨by simp only [C,Array.size_append,Array.size_replicate]; omega,rfl,fun t=>?_,fun κ b h=>by simp [St.gb,look] at h,fun κ κ' b b' g c c' h=>by simp [St.gb,look] at h,fun κ bk q c h1 h2=>by simp [St.gb,look] at h1,fun _ hb=>hb,fun _ hb=>.inl hb,hS,Kept.refl _ _⟩⟩
  simp only [St.gb,St.get,xS]
  by_cases ht:1≤t∧t - 1 < cS.length
  ·rw [if_pos ht.1,List.getElem?_eq_getElem ht.2]
   have h2:=(Zd ν).2 (t - 1) ht.2
   rw [show cS.getD (t - 1) default=cS[t - 1] from by simp [List.getD,ht.2]] at h2
   have e:(vs++Array.replicate (fn.ntmps - vs.size) undef).getD t undef=De.toList.getD (t - 1) undef:=by
    rw [← dm]
    simp only [Array.getD_eq_getD_getElem?]
    rw [Array.getElem?_append_left (by omega)]
    simp only [vs]
    rw [Array.getElem?_append_right (by simp; omega)]
    simp
   rw [e]
   exact h2
  ·by_cases h1:1≤t
   ·rw [if_pos h1,List.getElem?_eq_none (by omega)]
    exact .any _
   ·rw [if_neg h1]
    exact .any _
 obtain ⟨v,w',fr,q1,q2,q3,q4⟩:=h X C rfl rfl _ _ (fun u hu=>by
  have:u=0:=by simpa [uH.g] using hu
  subst this
  simp only [uH.g,uH.yv,Array.getD_eq_getD_getElem?]
  rw [Array.getElem?_append_left (by omega)]
  simp only [vs,X]
  rw [Array.getElem?_append_left (by simp)]) dE b cs rfl rfl ⟨fun _=>by show (2:Nat)≠1; decide,fun _=>rfl⟩
  ⟨F0,⟨rfl,Nat.le_refl _,fun _ h=>h,hSF,hF,fun b h=>h.elim⟩,hJ⟩
 exact ⟨.returned v,w',fr,⟨⟨v,rfl⟩,q1⟩,by show Steps _ _ _; rw [Wq]; exact q2,q3,q4⟩
theorem Yr {st st':St} (h:NC st st'=(NC st st').diag):Nr st st':=wZ (CT.Ee h)
def cA:Code→Code
 | .seq x _=>x
 | .cond _ x _=>x
 | .block _ x=>x
 | .loop x=>x
 | c=>c
def cB:Code→Code
 | .seq _ y=>y
 | .cond _ _ y=>y
 | c=>c
def opsOf:Code→Array Oper
 | .region _ ops _=>ops
 | _=>#[]
theorem uH.sk {T:List (Nat × TI)} {fn:Func} (hT:og P T) (hm:P.follows .mixedOrders=true) (hf:P.funcs[fi]? = some fn) {α:Type} (todo:List Item) (sk:Sk α) (L:α→abb) (n:Nat) (h:qi P T nt fn.results.toList 0 2 [0] n todo st L sk=(qi P T nt fn.results.toList 0 2 [0] n todo st L sk).diag) (ho:sk.bq fun _=>True)
  (hL:∀ a,a=sk.val→WI (X.g T fn H) (L a)):G (X.g T fn H) todo st :=
 Dl n (g:=X.g T fn H) hT hm hf (fun h=>(by cases h)) 0 todo st L sk (fun _=>True) (CT.Ee h) ho (fun a e _=>hL a e)
theorem G.abj {g:Goal} {c:Code} (h:G g (.code c :: .inLoop c :: k) st):G g (.code (.loop c) :: k) st:=fun C h1 h2 a w hk hs=>(h C h1 h2 a w hk hs).step fun _ _=>.one stepR_loop
end
section
open Go Go.Sort
def iA (l:List Int):List Int:=l.mergeSort fun x y=>decide (x≤y)
variable {w : World} {S : Nat → Prop} {μ : Mu} {e g c : Nat} {L : List Int}
theorem PT (h:eA w S μ (cp e 1 bJ L) g c):Holds (Value.int .i64) w g 0 L.toArray∧∃ cur,w.heap[g]? = some (.cells cur e (0,0))∧L.length≤c∧c≤maxLen∧cur.size=c:=by
 obtain ⟨cur,hg,tV,Fv,V9,SN,qm⟩:=h
 refine ⟨fun j hj=>?_,cur,hg,V9,SN,by omega⟩
 have IA:j < L.length:=by simpa using hj
 refine ⟨?_,by simp [World.frozen?,hg]⟩
 obtain ⟨x,hx,hr⟩:=(qm j IA).2 0 (by omega)
 have hx:cur[j]? = some x:=by simpa using hx
 have hr:Rd w S (.v (.int .i64 (L.getD j default))) x:=by simpa [bJ,dI] using hr
 cases hr
 simp only [World.cell?,hg,Nat.zero_add]
 simp only [Option.isSome_none,Bool.false_eq_true,if_false,hx]
 simp [List.getD,IA]
theorem Ys {k:Nat} {os:Array Obj} {d L':List Int} (h:eA w S μ (cp e 1 bJ L) g c) (hd:d.length≤c) (hl:L'.length≤d.length) (he:∀ i,i < L'.length→d.getD i default=L'.getD i default) :
  eA (grow (putRow (Value.int .i64) (Sort.ahead w k) g 0 d.toArray) os) S μ (cp e 1 bJ L') g c:=by
 obtain ⟨cur,hg,tV,Fv,V9,SN,qm⟩:=h
 refine ⟨_,heap_sortedI d.toArray hg,tV,by simpa [putCells] using Fv,by omega,SN,fun i hi=>⟨rfl,fun j hj=>?_⟩⟩
 have hj0:j=0:=by omega
 subst hj0
 have hid:i < d.length:=by omega
 have hic:i < cur.size:=by omega
 refine ⟨.int .i64 (L'.getD i default),?_,Rd.v _ rfl⟩
 have:=he i hi
 simp only [putCells,Nat.mul_one,Nat.add_zero,Nat.zero_le,Nat.zero_add,Nat.sub_zero,true_and,Array.getElem?_mapIdx,List.size_toArray,hid,if_true]
 rw [Array.getElem?_eq_getElem hic]
 simp only [Option.map_some,Option.some.injEq,Value.int.injEq,true_and]
 rw [← this]
 simp [List.getD,hid]
theorem IP {k:Nat} {os:Array Obj} {d:Array Int} {κ:Nat} (h:μ κ=some (some (g,c))):Kept w (grow (putRow (Value.int .i64) (Sort.ahead w k) g 0 d) os) (fun q=>∃ c,μ κ=some (some (q,c))):=by
 have hb:=grownBy_sortedI (w:=w) (g:=g) (n:=k) (os:=os) d
 exact ⟨hb.os,hb.tape,hb.output,hb.size,fun b gJ od=>hb.block b gJ (fun e=>by cases e; exact od ⟨c,h⟩)⟩
theorem abk {P:Program} {f:FuncId} (hc:gF P f=true)
  (h1:∀ (blk off cap:Nat) (zs:List Int) (w:World),Holds (Value.int .i64) w blk off zs.toArray→blk < w.heap.size→zs.length < 4611686018427387904 →
   Calls P f #[.slice (some ⟨blk,off,none⟩) zs.length cap] w fun e w'=>e=.returned (.tuple #[])∧∃ n os,w'=grow (putRow (Value.int .i64) (Sort.ahead w n) blk off (zs.mergeSort fun x y=>decide (x≤y)).toArray) os)
  (h0:∀ (p:Option Addr) (cap:Nat) (w:World),Calls P f #[.slice p 0 cap] w fun e w'=>e=.returned (.tuple #[])∧w'=w) (κ e:Nat) (L:List Int) (hL:L.length < 4611686018427387904) :
  FnS P f [ow κ L] κ (cp e 1 bJ L) (cp e 1 bJ (iA L)):=by
 refine ⟨hc,fun w S μ vs hS hg hr hb=>?_⟩
 obtain ⟨v,rfl⟩:∃ v,vs = #[v]:=by
  have:=(hr fun _=>false).1
  match vs,this with
  | ⟨[v]⟩,_=>exact ⟨v,rfl⟩
 have hv:Rel w S μ (fun _=>false) (.own κ L.length) v:=by simpa using (hr fun _=>false).2 0 (by simp)
 have Tb:(iA L).length=L.length:=by simp [iA]
 generalize hn:L.length=n at hv
 cases hv with
 | eI hm =>
  refine (h0 _ _ w).mono ?_
  rintro e' w' ⟨rfl,rfl⟩
  refine ⟨⟨_,rfl⟩,?_,Kept.refl _ _⟩
  rw [hm]
  show (iA L).length=0
  omega
 | @own _ _ g cap hm =>
  rw [hm] at hb
  have V2:eA w S μ (cp e 1 bJ L) g cap:=hb
  obtain ⟨q1,cur,q2,q3,q4,q5⟩:=PT V2
  subst hn
  refine (h1 g 0 cap L w q1 (Array.getElem?_eq_some_iff.1 q2).1 hL).mono ?_
  rintro e' w' ⟨rfl,k,os,rfl⟩
  refine ⟨⟨_,rfl⟩,?_,IP hm⟩
  rw [hm]
  exact Ys (d:=iA L) (L':=iA L) V2 (by omega) (Nat.le_refl _) (fun _ _=>rfl)
theorem T9 {P:Program} {f:FuncId} (hc:gF P f=true) (L L':List Int) (hl:L'.length≤L.length)
  (h1:∀ (blk cap:Nat) (w:World),Holds (Value.int .i64) w blk 0 L.toArray→L.length≤9223372036854775807→L.length≤cap →
   Calls P f #[.slice (some ⟨blk,0,none⟩) L.length cap] w fun e w'=>e=.returned (.slice (some ⟨blk,0,none⟩) L'.length cap)∧∃ q,w'=putRow (Value.int .i64) (Sort.ahead w q) blk 0 (L'++List.replicate (L.length - L'.length) 0).toArray)
  (h0:∀ (p:Option Addr) (cap:Nat) (w:World),Calls P f #[.slice p 0 cap] w fun e w'=>e=.returned (.slice p 0 cap)∧w'=w) (κ κ' e:Nat) :
  jl P f [ow κ L] [(κ,cp e 1 bJ L)] (ow κ' L') [(κ',cp e 1 bJ L')]:=by
 refine ⟨hc,fun w S μ vs hS hg hr hb hi=>?_⟩
 obtain ⟨v,rfl⟩:∃ v,vs = #[v]:=by
  have:=(hr fun _=>false).1
  match vs,this with
  | ⟨[v]⟩,_=>exact ⟨v,rfl⟩
 have hv:Rel w S μ (fun _=>false) (.own κ L.length) v:=by simpa using (hr fun _=>false).2 0 (by simp)
 have hb:=hb κ (cp e 1 bJ L) (by simp [look])
 have lk:∀ k b,look [(κ',cp e 1 bJ L')] k=some b→k=κ'∧b=cp e 1 bJ L':=fun k b h=>by
  simp only [cw] at h
  split at h
  ·rename_i e'; exact ⟨e'.symm,by simpa using h.symm⟩
  ·cases h
 have inj:∀ μ':Mu,X3 [(κ',cp e 1 bJ L')] μ':=fun μ' k1 k2 b1 b2 g c c' h1 h2 _ _=>((lk _ _ h1).1).trans ((lk _ _ h2).1).symm
 generalize hn:L.length=n at hv
 cases hv with
 | @eI _ ad hm =>
  refine (h0 _ _ w).mono ?_
  rintro e' w' ⟨rfl,rfl⟩
  have hz:L'.length=0:=by omega
  refine ⟨_,S,fun k=>if k=κ' then some none else none,rfl,⟨fun ν=>?_,fun k b h=>?_,inj _,fun k b g c h IH=>?_,fun _ h=>h,fun _ h=>.inl h,hS,Kept.refl _ _⟩⟩
  ·show Rel _ _ _ _ (.own κ' L'.length) _
   rw [hz]
   exact .eI (by simp)
  ·obtain ⟨rfl,rfl⟩:=lk k b h
   simp only [if_true]
   exact hz
  ·obtain ⟨rfl,rfl⟩:=lk k b h
   simp at IH
 | @own _ _ g cap hm =>
  rw [hm] at hb
  have V2:eA w S μ (cp e 1 bJ L) g cap:=hb
  obtain ⟨q1,cur,q2,q3,q4,q5⟩:=PT V2
  subst hn
  have h4:=q4
  simp only [maxLen] at h4
  refine (h1 g cap w q1 (by omega) q3).mono ?_
  rintro e' w' ⟨rfl,k,rfl⟩
  have adL:∀ W:World,W=grow W #[]:=fun W=>by simp [grow]
  have aiE:eA (putRow (Value.int .i64) (Sort.ahead w k) g 0 (L'++List.replicate (L.length - L'.length) 0).toArray) S (fun k=>if k=κ' then some (some (g,cap)) else none) (cp e 1 bJ L') g cap:=by
   rw [adL (putRow _ _ _ _ _)]
   exact Ys (d:=L'++List.replicate (L.length - L'.length) 0) (L':=L') V2 (by simp; omega) (by simp) (fun i hi=>by simp [List.getD,List.getElem?_append_left hi])
  have hk:Kept w (putRow (Value.int .i64) (Sort.ahead w k) g 0 (L'++List.replicate (L.length - L'.length) 0).toArray) (Handed [(κ,cp e 1 bJ L)] μ):=by
   rw [adL (putRow _ _ _ _ _)]
   exact (IP hm).BF (fun q ⟨c,hq⟩=>⟨κ,cp e 1 bJ L,c,by simp [look],hq⟩)
  refine ⟨_,S,fun k=>if k=κ' then some (some (g,cap)) else none,rfl,⟨fun ν=>.own (by simp),fun k b h=>?_,inj _,fun k b g' c h IH=>?_,fun _ h=>h,fun _ h=>.inl h,fun b od=>Nat.lt_of_lt_of_le (hS b od) hk.size,hk⟩⟩
  ·obtain ⟨rfl,rfl⟩:=lk k b h
   simp only [if_true]
   exact aiE
  ·obtain ⟨rfl,rfl⟩:=lk k b h
   simp only [if_true,Option.some.injEq,Prod.mk.injEq] at IH
   obtain ⟨rfl,rfl⟩:=IH
   exact .inr ⟨κ,cp e 1 bJ L,cap,by simp [look],hm⟩
end
end Go.Av
