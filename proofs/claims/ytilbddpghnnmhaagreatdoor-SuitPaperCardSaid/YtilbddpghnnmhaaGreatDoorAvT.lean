/- What printed sketches are made of. -/
import Derived.Test.YtilbddpghnnmhaaGreatDoorAvZ
set_option linter.unusedSimpArgs false
set_option linter.unusedVariables false
namespace Go.Av
open Go
set_option linter.unusedSectionVars false
variable [qz]
instance {α β:Type} [Inhabited α]:Inhabited (Sum α β):=⟨.inl default⟩
abbrev iv (n:Int):AV:=.d (.v (.int .i64 n))
abbrev bv (b:Bool):AV:=.d (.v (.bool b))
abbrev sv (s:ByteArray):AV:=.d (.v (.string s))
abbrev av (cs:List D):AV:=.d (.agg cs)
abbrev lv {α:Type} [Inhabited α] (cells:α→List D) (l:List α):AV:=.d (slD cells l)
abbrev nv:AV:=.d (.v (.slice none 0 0))
abbrev ow {α:Type} (κ:Nat) (l:List α):AV:=.own κ l.length
abbrev jz {α:Type} [Inhabited α] (e k:Nat) (cells:α→List D) (l:List α):Blk:=.row e k l.length fun i=>cells (l.getD i default)
abbrev dI (n:Int):D:=.v (.int .i64 n)
abbrev dB (b:Bool):D:=.v (.bool b)
def w64 (n:Int):Int:=IntKind.i64.wrap n
def qg (k:IntKind) (a b:Int):Int:=k.wrap (BitVec.ofInt k.bits a &&& BitVec.ofInt k.bits b).toNat
def orK (k:IntKind) (a b:Int):Int:=k.wrap (BitVec.ofInt k.bits a ||| BitVec.ofInt k.bits b).toNat
def qD (k:IntKind) (a b:Int):Int:=k.wrap (a * 2 ^ (min b.toNat k.bits))
def qa (k:IntKind) (a b:Int):Int:=a.fdiv (2 ^ (min b.toNat k.bits))
theorem jj {n:Int} (h1 : -9223372036854775808≤n) (h2:n≤9223372036854775807):w64 n=n:=zpA h1 h2
structure Enc (α:Type) where
 cells:α→List D
 k:Nat
 len:∀ x,(cells x).length=k
 one:∀ x,(cells x).all Xu=true
def slE {α:Type} [Inhabited α] (E:Enc α):Enc (List α):=⟨fun l=>[slD E.cells l],1,fun _=>rfl,fun _=>rfl⟩
def kA:Enc Int:=⟨jC,1,fun _=>rfl,fun _=>rfl⟩
def GC:Enc ByteArray:=⟨vU,1,fun _=>rfl,fun _=>rfl⟩
def u8C (n:Int):List D:=[.v (.int .u8 n)]
def gM (s:ByteArray):List Int:=s.data.toList.map fun b=>(b.toNat:Int)
def zrW (s:ByteArray):ZI:=⟨s.size,(gM s).length,fun i=>[.v (.int .u8 (s.data.toList.getD i 0).toNat)],fun i=>u8C ((gM s).getD i default),by
 refine ⟨by simp [gM],fun i hi=>?_⟩
 have hi':i < s.data.size:=hi
 have e:(gM s).getD i default=((s.data.toList.getD i 0).toNat:Int):=by
  simp only [gM,List.getD,List.getElem?_map,Array.getElem?_toList,Array.getElem?_eq_getElem hi',Option.map_some,Option.getD_some]
 rw [e]
 exact Qs.rfl'⟩
abbrev mpB {α:Type} [Inhabited α] (enc:α→D) (ks:List Int) (vs:List α):Blk:=.mp ks.length fun i=>(.int .i64 (ks.getD i 0),enc (vs.getD i default))
def zcO {α:Type} [Inhabited α] (enc:α→D) (ks:List Int) (vs:List α) (h:ks.length=vs.length) (k:Int) (v:α):Be:=⟨ks.length+1,(ks++[k]).length,fun q=>if q < ks.length then (.int .i64 (ks.getD q 0),enc (vs.getD q default)) else (.int .i64 k,enc v),fun i=>(.int .i64 ((ks++[k]).getD i 0),enc ((vs++[v]).getD i default)),by
 refine ⟨by simp,fun i hi=>?_⟩
 by_cases c:i < ks.length
 ·simp only [c,if_true,List.getD,List.getElem?_append_left c,List.getElem?_append_left (h ▸ c:i < vs.length)]
 ·obtain rfl:i=ks.length:=by omega
  simp only [Nat.lt_irrefl,if_false]
  simp [List.getD,h]⟩
def zsH {α:Type} [Inhabited α] (enc:α→D) (k:Int) (v:α):Be:=⟨0+1,1,fun q=>if q < 0 then (.bool false,default) else (.int .i64 k,enc v),fun i=>(.int .i64 ([k].getD i 0),enc ([v].getD i default)),by
 refine ⟨rfl,fun i hi=>?_⟩
 obtain rfl:i=0:=by omega
 rfl⟩
abbrev mpf {α:Type} [Inhabited α] (enc:α→D) (m:List (Int × α)):Nat→Value × D:=fun i=>(.int .i64 (m.getD i default).1,enc (m.getD i default).2)
abbrev mpM {α:Type} [Inhabited α] (enc:α→D) (m:List (Int × α)):Blk:=.mp m.length (mpf enc m)
abbrev pmM {α:Type} [Inhabited α] (enc:α→D) (m:List (Int × α)):AV:=.pmp m.length (mpf enc m)
def gt {α:Type}:List (Int × α)→Int→α→List (Int × α)
 | [],k,v=>[(k,v)]
 | p :: r,k,v=>bif k == p.1 then (p.1,v) :: r else p :: gt r k v
def gh {α:Type}:List (Int × α)→Int→Option α
 | [],_=>none
 | p :: r,k=>bif k == p.1 then some p.2 else gh r k
def km {α:Type} (m:List (Int × α)) (k:Int) (z:α):α:=(gh m k).getD z
def YE {α:Type} (m:List (Int × α)) (k:Int):Bool:=(gh m k).isSome
theorem Jy {α:Type} [Inhabited α] (enc:α→D) (m:List (Int × α)):∀ i,i < m.length→∃ b,(mpf enc m i).1=.int .i64 b:=fun i _=>⟨_,rfl⟩
theorem Fj {α:Type} [Inhabited α] (enc:α→D) (k:Int):∀ (m:List (Int × α)),match JA (.int .i64 k) m.length (mpf enc m) with
  | some p=>p < m.length∧(mpf enc m p).1=.int .i64 k∧gh m k=some (m.getD p default).2∧∀ v,gt m k v=m.set p ((m.getD p default).1,v)
  | none=>gh m k=none∧∀ v,gt m k v=m++[(k,v)]
 | []=>⟨rfl,fun _=>rfl⟩
 | p :: r=>by
  have ih:=Fj enc k r
  have e:(fun i=>mpf enc (p :: r) (i+1))=mpf enc r:=by funext i; simp [mpf]
  have e0:(mpf enc (p :: r) 0).1=.int .i64 p.1:=rfl
  simp only [List.length_cons,JA,e,e0,BZ,decide_true,Bool.true_and,List.getD_cons_zero]
  cases hk:(k == p.1) with
  | true =>
   have hk':k=p.1:=by simpa using hk
   simp only [cond_true]
   refine ⟨by omega,by rw [hk']; rfl,by simp [gh,hk],fun v=>by simp [gt,hk]⟩
  | false =>
   simp only [cond_false]
   cases hq:JA (.int .i64 k) r.length (mpf enc r) with
   | none =>
    rw [hq] at ih
    simp only [Option.map_none]
    exact ⟨by simp only [gh,hk,cond_false]; exact ih.1,fun v=>by simp only [gt,hk,cond_false,ih.2 v,List.cons_append]⟩
   | some q =>
    rw [hq] at ih
    obtain ⟨i1,i2,i3,i4⟩:=ih
    simp only [Option.map_some]
    refine ⟨by simpa using i1,?_,?_,fun v=>?_⟩
    ·rw [← i2]; rfl
    ·simp only [gh,hk,cond_false]; rw [i3]; simp
    ·simp only [gt,hk,cond_false,i4 v]; simp
def zsT:Be:=⟨0,0,fun _=>(.bool false,default),fun _=>(.bool false,default),rfl,fun _ _=>rfl⟩
def mkM {α:Type} [Inhabited α] (enc:α→D):Be:=⟨0,([]:List (Int × α)).length,fun _=>(.bool false,default),mpf enc ([]:List (Int × α)),rfl,fun i hi=>absurd hi (by omega)⟩
def znU {α:Type} [Inhabited α] (enc:α→D) (m:List (Int × α)) (k:Int) (v:α):Be:=⟨mpN (.int .i64 k) m.length (mpf enc m),(gt m k v).length,mpF (.int .i64 k) (enc v) m.length (mpf enc m),mpf enc (gt m k v),by
 have h:=Fj enc k m
 unfold mpN mpF
 cases hq:JA (.int .i64 k) m.length (mpf enc m) with
 | none =>
  rw [hq] at h
  simp only
  rw [h.2 v]
  refine ⟨by simp,fun i hi=>?_⟩
  by_cases c:i < m.length
  ·simp [mpf,c,List.getD,List.getElem?_append_left c]
  ·obtain rfl:i=m.length:=by omega
   simp [mpf,List.getD]
 | some p =>
  rw [hq] at h
  obtain ⟨h1,h2,h3,h4⟩:=h
  simp only
  rw [h4 v]
  refine ⟨by simp,fun i hi=>?_⟩
  by_cases c:i=p
  ·subst c
   simp [mpf,List.getD,h1]
  ·simp [mpf,c,List.getD,List.getElem?_set_ne (fun e=>c e.symm)]⟩
def kj {α:Type} [Inhabited α] (enc:α→D) (m:List (Int × α)) (k:Int) (v:α):Be:=⟨m.length+1,(m++[(k,v)]).length,fun q=>if q < m.length then mpf enc m q else (.int .i64 k,enc v),mpf enc (m++[(k,v)]),by
 refine ⟨by simp,fun i hi=>?_⟩
 by_cases c:i < m.length
 ·simp only [c,if_true,mpf,List.getD,List.getElem?_append_left c]
 ·obtain rfl:i=m.length:=by omega
  simp [mpf,List.getD]⟩
theorem zjE {α:Type} [Inhabited α] (enc:α→D) (m:List (Int × α)) (k:Int) (z:α):UA (.int .i64 k) m.length (mpf enc m) (enc z)=enc (km m k z):=by
 have h:=Fj enc k m
 unfold UA km
 cases hq:JA (.int .i64 k) m.length (mpf enc m) with
 | none=>rw [hq] at h; simp only [h.1]; rfl
 | some p=>rw [hq] at h; simp only [h.2.2.1]; rfl
theorem zoW {α:Type} [Inhabited α] (enc:α→D) (m:List (Int × α)) (k:Int):Xj (.int .i64 k) m.length (mpf enc m)=YE m k:=by
 have h:=Fj enc k m
 unfold Xj YE
 cases hq:JA (.int .i64 k) m.length (mpf enc m) with
 | none=>rw [hq] at h; rw [h.1]; rfl
 | some p=>rw [hq] at h; rw [h.2.2.1]; rfl
def zlM {α:Type} [Inhabited α] (enc:α→D) (m:List (Int × α)) (k:Int) (z:α):zi2:=⟨.d (UA (.int .i64 k) m.length (mpf enc m) (enc z)),.d (enc (km m k z)),fun _ _ _ _ _ h=>by rw [← zjE enc m k z]; exact h⟩
def zfu {α:Type} [Inhabited α] (enc:α→D) (m:List (Int × α)) (k:Int) (z:α):zi2:=⟨.tup [.d (UA (.int .i64 k) m.length (mpf enc m) (enc z)),.d (.v (.bool (Xj (.int .i64 k) m.length (mpf enc m))))],.tup [.d (enc (km m k z)),.d (.v (.bool (YE m k)))],fun _ _ _ _ _ h=>by rw [← zjE enc m k z,← zoW enc m k]; exact h⟩
theorem zcb {n n':Nat} {f f':Nat→List D} (h:n=n'∧∀ i,i < n→f i=f' i):n=n'∧∀ i,i < n→Qs (f i) (f' i):=⟨h.1,fun i hi=>Qs.of_eq (h.2 i hi)⟩
section
variable {α : Type} [Inhabited α] (E : Enc α)
theorem Enc.src (M:List α):(∀ i,i < M.length→(E.cells (M.getD i default)).length=E.k)∧∀ i,i < M.length→(E.cells (M.getD i default)).all Xu=true:=⟨fun _ _=>E.len _,fun _ _=>E.one _⟩
theorem Enc.ones (M:List α):∀ i,i < M.length→(E.cells (M.getD i default)).all Xu=true:=fun _ _=>E.one _
theorem Enc.lens (M:List α):∀ i,i < M.length→(E.cells (M.getD i default)).length=E.k:=fun _ _=>E.len _
def gy (L M:List α):ZI:=⟨L.length+M.length,(L++M).length,fun q=>if q < L.length then E.cells (L.getD q default) else E.cells (M.getD (q - L.length) default),fun i=>E.cells ((L++M).getD i default),zcb (zrp E.cells L M)⟩
def VI (L:List α) (p:Nat) (y:α):ZI:=⟨L.length,(L.set p y).length,fun q=>if q=p then E.cells y else E.cells (L.getD q default),fun i=>E.cells ((L.set p y).getD i default),zcb <| by
 refine ⟨by simp,fun i hi=>?_⟩
 split
 ·rename_i h
  subst h
  simp [List.getD,hi]
 ·rename_i h
  simp [List.getD,List.getElem?_set_ne (fun e=>h e.symm)]⟩
def mkC (n:Nat) (z:α):ZI:=⟨n,(List.replicate n z).length,fun _=>E.cells z,fun i=>E.cells ((List.replicate n z).getD i default),zcb <| by
 refine ⟨by simp,fun i hi=>?_⟩
 simp [List.getD,hi]⟩
def uZ (L:List α) (lo n:Nat):List α:=(List.range n).map fun i=>L.getD (lo+i) default
def zsg (L:List α) (lo n:Nat):ZI:=⟨n,(uZ L lo n).length,fun i=>E.cells (L.getD (lo+i) default),fun i=>E.cells ((uZ L lo n).getD i default),zcb <| by
 refine ⟨by simp [uZ],fun i hi=>?_⟩
 have:(uZ L lo n).getD i default=L.getD (lo+i) default:=by simp [uZ,List.getD,hi]
 rw [this]⟩
def zsI (L:List α) (h:Nat):ZI:=⟨h,(uZ L 0 h).length,fun i=>E.cells (L.getD i default),fun i=>E.cells ((uZ L 0 h).getD i default),zcb <| by
 refine ⟨by simp [uZ],fun i hi=>?_⟩
 have:(uZ L 0 h).getD i default=L.getD i default:=by simp [uZ,List.getD,hi]
 rw [this]⟩
theorem flat_get (k:Nat) (hk:∀ x,(E.cells x).length=k):∀ (xs:List α) (i j:Nat),i < xs.length→j < k→(xs.flatMap E.cells).getD (i * k+j) default=(E.cells (xs.getD i default)).getD j default
 | [],i,j,hi,_=>absurd hi (by simp)
 | x :: r,0,j,_,hj=>by
  simp only [List.flatMap_cons,Nat.zero_mul,Nat.zero_add,List.getD_cons_zero]
  rw [List.getD,List.getElem?_append_left (by rw [hk]; exact hj)]
  rfl
 | x :: r,i+1,j,hi,hj=>by
  have ih:=flat_get k hk r i j (by simpa using hi) hj
  simp only [List.flatMap_cons,List.getD_cons_succ]
  rw [List.getD,List.getElem?_append_right (by rw [hk,Nat.add_mul,Nat.one_mul]; omega),hk,show (i+1) * k+j - k=i * k+j by rw [Nat.add_mul,Nat.one_mul]; omega]
  exact ih
theorem zlH (k:Nat) (hk:∀ x,(E.cells x).length=k):∀ (xs:List α),(xs.flatMap E.cells).length=xs.length * k
 | []=>by simp
 | x :: r=>by simp [List.flatMap_cons,hk,zlH k hk r,Nat.add_mul,Nat.add_comm]
def qk (xs:List α):ZI:=⟨xs.length,xs.length,zaa E.k xs.length (xs.flatMap E.cells),fun i=>E.cells (xs.getD i default),zcb <| by
 refine ⟨rfl,fun i hi=>?_⟩
 obtain ⟨h1,h2⟩:=XX (k:=E.k) (len:=xs.length) (ds:=xs.flatMap E.cells) (zlH E E.k E.len xs) hi
 apply List.ext_getElem?
 intro j
 by_cases hj:j < E.k
 ·have h3:=h2 j hj
  rw [flat_get E E.k E.len xs i j hi hj] at h3
  have l1:j < (zaa E.k xs.length (xs.flatMap E.cells) i).length:=by omega
  have l2:j < (E.cells (xs.getD i default)).length:=by rw [E.len]; exact hj
  rw [List.getD,List.getD,List.getElem?_eq_getElem l1,List.getElem?_eq_getElem l2] at h3
  rw [List.getElem?_eq_getElem l1,List.getElem?_eq_getElem l2]
  simpa using h3
 ·rw [List.getElem?_eq_none (by omega),List.getElem?_eq_none (by rw [E.len]; omega)]⟩
def mkN (n:Nat) (z:α) (ds:List D) (h:zn8 ds (E.cells z)=(zn8 ds (E.cells z)).diag):ZI:=⟨n,(List.replicate n z).length,fun _=>ds,fun i=>E.cells ((List.replicate n z).getD i default),by
 refine ⟨by simp,fun i hi=>?_⟩
 have e:(List.replicate n z).getD i default=z:=by simp [List.getD,hi]
 rw [e]
 exact za2 (CT.ok_of h)⟩
def zcF (L:List α) (x:Nat) (z:α):List α:=L.take x++List.replicate (L.length - x) z
theorem Hc (L:List α) (x:Nat) (z:α):(zcF L x z).length=L.length:=by
 simp [zcF]
 omega
def zsZ (L:List α) (x:Nat) (z:α) (ds:List D) (h:zn8 ds (E.cells z)=(zn8 ds (E.cells z)).diag):ZI:=⟨L.length,(zcF L x z).length,YK x (fun i=>E.cells (L.getD i default)) ds,fun i=>E.cells ((zcF L x z).getD i default),by
 refine ⟨(Hc L x z).symm,fun i hi=>?_⟩
 unfold YK
 split
 ·rename_i h
  have e:(zcF L x z).getD i default=L.getD i default:=by
   simp only [zcF,List.getD]
   rw [List.getElem?_append_left (by simp; omega),List.getElem?_take,if_pos h]
  rw [e]
  exact Qs.rfl'
 ·rename_i h'
  have e:(zcF L x z).getD i default=z:=by
   simp only [zcF,List.getD]
   have h1:(L.take x).length=x:=by simp; omega
   have h2:i - x < L.length - x:=by omega
   rw [List.getElem?_append_right (by omega),h1,List.getElem?_replicate,if_pos h2]
   rfl
  rw [e]
  exact za2 (CT.ok_of h)⟩
end
def zq8 {cs ds:List D} (h:Qs cs ds):zi2:=⟨.ref cs,.ref ds,fun w S μ ν v hr=>by
 cases hr with
 | ref vals hcell hh=>exact .ref vals (fun j hj=>hcell j (by rw [h.1]; exact hj)) (fun j hj=>h.2 j (by rw [h.1]; exact hj) _ _ _ (hh j (by rw [h.1]; exact hj)))⟩
abbrev ixP (i:Int) (n:Nat):Prop:=0≤i∧i < (n:Int)
abbrev szP (n m bytes:Nat):Prop:=n+m≤maxLen∧(n+m) * bytes≤140737488355328
abbrev mkP (n:Int) (bytes:Nat):Prop:=0≤n∧n.toNat≤maxLen∧n.toNat * bytes≤140737488355328
def Cal.z:Cal Unit:=⟨(),fun _=>[],fun _=>none,True,fun _ _ h=>(by cases h),fun _=>True,trivial⟩
def Cal.p (p:Prop):Cal Unit:=⟨(),fun _=>[],fun _=>some p,p,fun h _ e=>by cases e; exact h,fun _=>True,trivial⟩
def Cal.t {p:Prop} (h:p):Cal Unit:=⟨(),fun _=>[],fun _=>some p,True,fun _ _ e=>by cases e; exact h,fun _=>True,trivial⟩
def Cal.pt (p:Prop) {q:Prop} (h:q):Cal Unit:=⟨(),fun _=>[],fun _=>some (p∧q),p,fun hp _ e=>by cases e; exact ⟨hp,h⟩,fun _=>True,trivial⟩
def Cal.o (l:List Orc):Cal Unit:=⟨(),fun _=>l,fun _=>none,True,fun _ _ h=>(by cases h),fun _=>True,trivial⟩
theorem za1 {x y:Option Prop} (h1:∀ p,x=some p→p) (h2:∀ p,y=some p→p) (p:Prop) (e:zcj x y=some p):p:=by
 cases x with
 | none=>exact h2 p (by simpa [zcj] using e)
 | some a =>
  cases y with
  | none=>exact h1 p (by simpa [zcj] using e)
  | some b =>
   simp only [zcj,Option.some.injEq] at e
   subst e
   exact ⟨h1 a rfl,h2 b rfl⟩
def zrU (e w:Bool):Option Prop→Option Prop
 | none=>none
 | some p=>some (e=w→p)
theorem zrv {x:Option Prop} {e w:Bool} (h:e=w→∀ p,x=some p→p) (p:Prop) (hp:zrU e w x=some p):p:=by
 cases x with
 | none=>cases hp
 | some a =>
  simp only [zrU,Option.some.injEq] at hp
  subst hp
  exact fun he=>h he a rfl
def Cal.and {α β:Type} (a:Cal α) (b:Cal β):Cal (α × β):=⟨(a.v,b.v),fun x=>a.orc x.1++b.orc x.2,fun x=>zcj (a.claim x.1) (b.claim x.2),a.pre∧b.pre,fun h=>za1 (a.pf h.1) (b.pf h.2),fun x=>a.post x.1∧b.post x.2,⟨a.hp,b.hp⟩⟩
def Cal.andl {β:Type} (a:Cal Unit) (b:Cal β):Cal β:=⟨b.v,fun x=>a.orc ()++b.orc x,fun x=>zcj (a.claim ()) (b.claim x),a.pre∧b.pre,fun h=>za1 (a.pf h.1) (b.pf h.2),b.post,b.hp⟩
def Cal.andr {α:Type} (a:Cal α) (b:Cal Unit):Cal α:=⟨a.v,fun x=>a.orc x++b.orc (),fun x=>zcj (a.claim x) (b.claim ()),a.pre∧b.pre,fun h=>za1 (a.pf h.1) (b.pf h.2),a.post,a.hp⟩
def Cal.wh {β:Type} (e w:Bool) (a:Cal β):Cal β:=⟨a.v,a.orc,fun x=>zrU e w (a.claim x),e=w→a.pre,fun h=>zrv fun he=>a.pf (h he),a.post,a.hp⟩
def Cal.dep {α β:Type} (a:Cal α) (b:α→Cal β):Cal (α × β):=⟨(a.v,(b a.v).v),fun x=>a.orc x.1++(b x.1).orc x.2,fun x=>zcj (a.claim x.1) ((b x.1).claim x.2),a.pre∧∀ x,x=a.v→a.post x→(b x).pre,fun h=>za1 (a.pf h.1) ((b a.v).pf (h.2 _ rfl a.hp)),fun x=>a.post x.1∧(b x.1).post x.2,⟨a.hp,(b a.v).hp⟩⟩
def Cal.depr {α:Type} (a:Cal α) (b:α→Cal Unit):Cal α:=⟨a.v,fun x=>a.orc x++(b x).orc (),fun x=>zcj (a.claim x) ((b x).claim ()),a.pre∧∀ x,x=a.v→a.post x→(b x).pre,fun h=>za1 (a.pf h.1) ((b a.v).pf (h.2 _ rfl a.hp)),a.post,a.hp⟩
structure Ctr (β:Type) where
 P:Program
 f:FuncId
 args:List AV
 enc:β→AV
 fl:Bool
 v:β
 pre:Prop
 pf:pre→FnA P f args [] (enc v) []
 post:β→Prop:=fun _=>True
 hp:post v:=by trivial
def Ctr.c {β:Type} (c:Ctr β):Cal β:=⟨c.v,fun x=>[bif c.fl then .flat (c.enc x) else .gen [] (c.enc x) []],fun x=>some (FnA c.P c.f c.args [] (c.enc x) []),c.pre,fun hp _ e=>by cases e; exact c.pf hp,c.post,c.hp⟩
theorem Uo.refl:∀ (l:List AV),Uo l l
 | []=>trivial
 | _ :: r=>⟨UE.rfl',Uo.refl r⟩
theorem Uo.set:∀ (l:List AV) (i:Nat) (x y:AV),l[i]? = some y→UE x y→Uo (l.set i x) l
 | [],i,_,_,h,_=>by simp at h
 | z :: r,0,x,y,h,hle=>by
  simp only [List.getElem?_cons_zero,Option.some.injEq] at h
  subst h
  exact ⟨hle,Uo.refl r⟩
 | z :: r,i+1,x,y,h,hle=>⟨UE.rfl',Uo.set r i x y (by simpa using h) hle⟩
def Ctr.nil {β:Type} (c:Ctr β) (i:Nat) (h:∃ g,c.args[i]? = some (.d (.sl 0 g))):Ctr β :=
 { c with args:=c.args.set i nv,pf:=fun hp=>(c.pf hp).argLe (let ⟨g,hg⟩:=h; Uo.set c.args i _ _ hg (UE.d (DLe.nil g))) }
def Ctr.nilc {β:Type} (c:Ctr β) (i j:Nat) (cs:List D) (h:c.args[i]? = some (.d (.agg cs))) (h2:∃ g,cs[j]? = some (.sl 0 g)):Ctr β :=
 {c with args:=c.args.set i (.d (.agg (cs.set j (.v (.slice none 0 0))))),pf:=fun hp=>(c.pf hp).argLe (Uo.set c.args i _ _ h (UE.d (DLe.agg (by simp) (fun q hq=>by
   obtain ⟨g,hg⟩:=h2
   by_cases e:j=q
   ·subst e
    have hj:j < cs.length:=by simpa using hq
    have e1:(cs.set j (.v (.slice none 0 0))).getD j default=.v (.slice none 0 0):=by simp [List.getD,hj]
    have e2:cs.getD j default=.sl 0 g:=by simp [List.getD,hg]
    rw [e1,e2]
    exact DLe.nil g
   ·have e1:(cs.set j (.v (.slice none 0 0))).getD q default=cs.getD q default:=by simp [List.getD,List.getElem?_set_ne e]
    rw [e1]
    exact DLe.rfl')))) }
@[simp] theorem Cal.z_post (x:Unit):Cal.z.post x=True:=rfl
@[simp] theorem Cal.p_post (p:Prop) (x:Unit):(Cal.p p).post x=True:=rfl
@[simp] theorem Cal.t_post {p:Prop} (h:p) (x:Unit):(Cal.t h).post x=True:=rfl
@[simp] theorem Cal.pt_post (p:Prop) {q:Prop} (h:q) (x:Unit):(Cal.pt p h).post x=True:=rfl
@[simp] theorem Cal.o_post (l:List Orc) (x:Unit):(Cal.o l).post x=True:=rfl
@[simp] theorem Cal.and_post {α β:Type} (a:Cal α) (b:Cal β) (x:α × β):(a.and b).post x=(a.post x.1∧b.post x.2):=rfl
@[simp] theorem Cal.andl_post {β:Type} (a:Cal Unit) (b:Cal β) (x:β):(a.andl b).post x=b.post x:=rfl
@[simp] theorem Cal.andr_post {β:Type} (a:Cal β) (b:Cal Unit) (x:β):(a.andr b).post x=a.post x:=rfl
@[simp] theorem Cal.wh_post {β:Type} (e w:Bool) (a:Cal β) (x:β):(a.wh e w).post x=a.post x:=rfl
@[simp] theorem Cal.dep_post {α β:Type} (a:Cal α) (b:α→Cal β) (x:α × β):(a.dep b).post x=(a.post x.1∧(b x.1).post x.2):=rfl
@[simp] theorem Cal.depr_post {α:Type} (a:Cal α) (b:α→Cal Unit) (x:α):(a.depr b).post x=a.post x:=rfl
@[simp] theorem Ctr.c_post {β:Type} (c:Ctr β) (x:β):c.c.post x=c.post x:=rfl
@[simp] theorem Ctr.nil_post {β:Type} (c:Ctr β) (i:Nat) (h:∃ g,c.args[i]? = some (.d (.sl 0 g))) (x:β):(c.nil i h).post x=c.post x:=rfl
@[simp] theorem Ctr.nilc_post {β:Type} (c:Ctr β) (i j:Nat) (cs:List D) (h:c.args[i]? = some (.d (.agg cs))) (h2:∃ g,cs[j]? = some (.sl 0 g)) (x:β):(c.nilc i j cs h h2).post x=c.post x:=rfl
@[simp] theorem Cal.z_pre:Cal.z.pre=True:=rfl
@[simp] theorem Cal.p_pre (p:Prop):(Cal.p p).pre=p:=rfl
@[simp] theorem Cal.t_pre {p:Prop} (h:p):(Cal.t h).pre=True:=rfl
@[simp] theorem Cal.pt_pre (p:Prop) {q:Prop} (h:q):(Cal.pt p h).pre=p:=rfl
@[simp] theorem Cal.o_pre (l:List Orc):(Cal.o l).pre=True:=rfl
@[simp] theorem Cal.and_pre {α β:Type} (a:Cal α) (b:Cal β):(a.and b).pre=(a.pre∧b.pre):=rfl
@[simp] theorem Cal.andl_pre {β:Type} (a:Cal Unit) (b:Cal β):(a.andl b).pre=(a.pre∧b.pre):=rfl
@[simp] theorem Cal.andr_pre {β:Type} (a:Cal β) (b:Cal Unit):(a.andr b).pre=(a.pre∧b.pre):=rfl
@[simp] theorem Cal.wh_pre {β:Type} (e w:Bool) (a:Cal β):(a.wh e w).pre=(e=w→a.pre):=rfl
@[simp] theorem Cal.dep_pre {α β:Type} (a:Cal α) (b:α→Cal β):(a.dep b).pre=(a.pre∧∀ x,x=a.v→a.post x→(b x).pre):=rfl
@[simp] theorem Cal.depr_pre {α:Type} (a:Cal α) (b:α→Cal Unit):(a.depr b).pre=(a.pre∧∀ x,x=a.v→a.post x→(b x).pre):=rfl
@[simp] theorem Cal.dep_v {α β:Type} (a:Cal α) (b:α→Cal β):(a.dep b).v=(a.v,(b a.v).v):=rfl
@[simp] theorem Cal.depr_v {α:Type} (a:Cal α) (b:α→Cal Unit):(a.depr b).v=a.v:=rfl
@[simp] theorem Ctr.c_pre {β:Type} (c:Ctr β):c.c.pre=c.pre:=rfl
@[simp] theorem Ctr.c_v {β:Type} (c:Ctr β):c.c.v=c.v:=rfl
@[simp] theorem Ctr.nil_pre {β:Type} (c:Ctr β) (i:Nat) (h:∃ g,c.args[i]? = some (.d (.sl 0 g))):(c.nil i h).pre=c.pre:=rfl
@[simp] theorem Ctr.nil_v {β:Type} (c:Ctr β) (i:Nat) (h:∃ g,c.args[i]? = some (.d (.sl 0 g))):(c.nil i h).v=c.v:=rfl
@[simp] theorem Ctr.nilc_pre {β:Type} (c:Ctr β) (i j:Nat) (cs:List D) (h:c.args[i]? = some (.d (.agg cs))) (h2:∃ g,cs[j]? = some (.sl 0 g)):(c.nilc i j cs h h2).pre=c.pre:=rfl
@[simp] theorem Ctr.nilc_v {β:Type} (c:Ctr β) (i j:Nat) (cs:List D) (h:c.args[i]? = some (.d (.agg cs))) (h2:∃ g,cs[j]? = some (.sl 0 g)):(c.nilc i j cs h h2).v=c.v:=rfl
@[simp] theorem Cal.and_v {α β:Type} (a:Cal α) (b:Cal β):(a.and b).v=(a.v,b.v):=rfl
@[simp] theorem Cal.andl_v {β:Type} (a:Cal Unit) (b:Cal β):(a.andl b).v=b.v:=rfl
@[simp] theorem Cal.andr_v {β:Type} (a:Cal β) (b:Cal Unit):(a.andr b).v=a.v:=rfl
@[simp] theorem Cal.wh_v {β:Type} (e w:Bool) (a:Cal β):(a.wh e w).v=a.v:=rfl
structure vT (β:Type) where
 P:Program
 f:FuncId
 args:List AV
 enc:β→AV
 encB:β→List (Nat × Blk)
 v:β
 pre:Prop
 pf:pre→FnA P f args [] (enc v) (encB v)
 post:β→Prop:=fun _=>True
 hp:post v:=by trivial
def vT.c {β:Type} (c:vT β):Cal β:=⟨c.v,fun x=>[.gen [] (c.enc x) (c.encB x)],fun x=>some (FnA c.P c.f c.args [] (c.enc x) (c.encB x)),c.pre,fun hp _ e=>by cases e; exact c.pf hp,c.post,c.hp⟩
@[simp] theorem vT.c_pre {β:Type} (c:vT β):c.c.pre=c.pre:=rfl
@[simp] theorem vT.c_v {β:Type} (c:vT β):c.c.v=c.v:=rfl
def vT.nil {β:Type} (c:vT β) (i:Nat) (h:∃ g,c.args[i]? = some (.d (.sl 0 g))):vT β :=
 { c with args:=c.args.set i nv,pf:=fun hp=>(c.pf hp).argLe (let ⟨g,hg⟩:=h; Uo.set c.args i _ _ hg (UE.d (DLe.nil g))) }
@[simp] theorem vT.nil_pre {β:Type} (c:vT β) (i:Nat) (h:∃ g,c.args[i]? = some (.d (.sl 0 g))):(c.nil i h).pre=c.pre:=rfl
@[simp] theorem vT.nil_v {β:Type} (c:vT β) (i:Nat) (h:∃ g,c.args[i]? = some (.d (.sl 0 g))):(c.nil i h).v=c.v:=rfl
@[simp] theorem vT.c_post {β:Type} (c:vT β) (x:β):c.c.post x=c.post x:=rfl
@[simp] theorem vT.nil_post {β:Type} (c:vT β) (i:Nat) (h:∃ g,c.args[i]? = some (.d (.sl 0 g))) (x:β):(c.nil i h).post x=c.post x:=rfl
structure zfB (β:Type) where
 P:Program
 f:FuncId
 args:List AV
 lbs:List (Nat × Blk)
 anc:List (Nat × Nat)
 enc:β→AV
 encB:β→List (Nat × Blk)
 v:β
 pre:Prop
 pf:pre→FnB P f args lbs (enc v) (encB v) anc
 post:β→Prop:=fun _=>True
 hp:post v:=by trivial
def zfB.c {β:Type} (c:zfB β):Cal β:=⟨c.v,fun x=>[.bx (c.lbs.map (·.1)) c.anc (c.enc x) (c.encB x)],fun x=>some (FnB c.P c.f c.args c.lbs (c.enc x) (c.encB x) c.anc),c.pre,fun hp _ e=>by cases e; exact c.pf hp,c.post,c.hp⟩
@[simp] theorem zfB.c_pre {β:Type} (c:zfB β):c.c.pre=c.pre:=rfl
@[simp] theorem zfB.c_v {β:Type} (c:zfB β):c.c.v=c.v:=rfl
@[simp] theorem zfB.c_post {β:Type} (c:zfB β) (x:β):c.c.post x=c.post x:=rfl
theorem FnA.rekey {P:Program} {f:FuncId} {args:List AV} {K n e k m:Nat} {r:Nat→List D} (κ:Nat) (h:FnA P f args [] (.own K n) [(K,.row e k m r)]):FnA P f args [] (.own κ n) [(κ,.row e k m r)]:=by
 refine ⟨h.1,fun w S μ vs h1 h2 h3 h4 h5=>(h.2 w S μ vs h1 h2 h3 h4 h5).mono ?_⟩
 rintro e0 w' ⟨v,S',μ',rfl,B⟩
 have lk:∀ q b,look [(κ,Blk.row e k m r)] q=some b→q=κ∧b=.row e k m r:=fun q b hq=>by
  rw [jL] at hq
  split at hq
  ·rename_i e; simp only [Option.some.injEq] at hq; exact ⟨e.symm,hq.symm⟩
  ·simp [look] at hq
 have lK:look [(K,Blk.row e k m r)] K=some (.row e k m r):=by rw [jL,if_pos rfl]
 refine ⟨v,S',fun _=>μ' K,rfl,⟨fun ν=>?_,fun q b hq=>?_,fun q1 q2 b1 b2 g c c' x1 x2 _ _=>by rw [(lk q1 b1 x1).1,(lk q2 b2 x2).1],fun q b g c x1 x2=>B.own K _ g c lK x2,B.sub,B.new,B.bound,B.kept⟩⟩
 ·cases B.res ν with
  | ownNil hμ=>exact .ownNil hμ
  | own hμ=>exact .own hμ
 ·obtain ⟨rfl,rfl⟩:=lk q b hq
  exact (B.mem K _ lK).agree (fun k hk=>by simp [Blk.keys] at hk)
theorem FnA.rekeyT {P:Program} {f:FuncId} {args rs:List AV} {K n e k m:Nat} {r:Nat→List D} (κ:Nat) (hk:AV.keysL rs=[]) (h:FnA P f args [] (.tup (.own K n :: rs)) [(K,.row e k m r)]):FnA P f args [] (.tup (.own κ n :: rs)) [(κ,.row e k m r)]:=by
 refine ⟨h.1,fun w S μ vs h1 h2 h3 h4 h5=>(h.2 w S μ vs h1 h2 h3 h4 h5).mono ?_⟩
 rintro e0 w' ⟨v,S',μ',rfl,B⟩
 have lk:∀ q b,look [(κ,Blk.row e k m r)] q=some b→q=κ∧b=.row e k m r:=fun q b hq=>by
  rw [jL] at hq
  split at hq
  ·rename_i e; simp only [Option.some.injEq] at hq; exact ⟨e.symm,hq.symm⟩
  ·simp [look] at hq
 have lK:look [(K,Blk.row e k m r)] K=some (.row e k m r):=by rw [jL,if_pos rfl]
 refine ⟨v,S',fun _=>μ' K,rfl,⟨fun ν=>?_,fun q b hq=>?_,fun q1 q2 b1 b2 g c c' x1 x2 _ _=>by rw [(lk q1 b1 x1).1,(lk q2 b2 x2).1],fun q b g c x1 x2=>B.own K _ g c lK x2,B.sub,B.new,B.bound,B.kept⟩⟩
 ·cases B.res ν with
  | @tup _ vs hl hr =>
   refine .tup hl (fun i hi=>?_)
   have hq:=hr i hi
   cases i with
   | zero =>
    simp only [List.getD_cons_zero] at hq ⊢
    generalize vs.getD 0 undef=v0 at hq ⊢
    cases hq with
    | ownNil hμ=>exact .ownNil hμ
    | own hμ=>exact .own hμ
   | succ i =>
    simp only [List.getD_cons_succ] at hq ⊢
    refine hq.agree (fun k' hk'=>absurd hk' (AV.keysL_of rs i (by rw [hk]; simp) (by simpa using hi)))
 ·obtain ⟨rfl,rfl⟩:=lk q b hq
  exact (B.mem K _ lK).agree (fun k hk=>by simp [Blk.keys] at hk)
structure zey (β:Type) where
 P:Program
 f:FuncId
 args:List AV
 κ:Nat
 b:Blk
 enc:β→Blk
 v:β
 pre:Prop
 pf:pre→FnS P f args κ b (enc v)
 post:β→Prop:=fun _=>True
 hp:post v:=by trivial
def zey.c {β:Type} (c:zey β):Cal β:=⟨c.v,fun x=>[.same c.κ (c.enc x)],fun x=>some (FnS c.P c.f c.args c.κ c.b (c.enc x)),c.pre,fun hp _ e=>by cases e; exact c.pf hp,c.post,c.hp⟩
@[simp] theorem zey.c_pre {β:Type} (c:zey β):c.c.pre=c.pre:=rfl
@[simp] theorem zey.c_v {β:Type} (c:zey β):c.c.v=c.v:=rfl
@[simp] theorem zey.c_post {β:Type} (c:zey β) (x:β):c.c.post x=c.post x:=rfl
structure WY (β:Type) where
 P:Program
 f:FuncId
 args:List AV
 lbs:List (Nat × Blk)
 enc:β→AV
 encB:β→List (Nat × Blk)
 v:β
 pre:Prop
 pf:pre→FnA P f args lbs (enc v) (encB v)
 post:β→Prop:=fun _=>True
 hp:post v:=by trivial
def WY.c {β:Type} (c:WY β):Cal β:=⟨c.v,fun x=>[.gen (c.lbs.map (·.1)) (c.enc x) (c.encB x)],fun x=>some (FnA c.P c.f c.args c.lbs (c.enc x) (c.encB x)),c.pre,fun hp _ e=>by cases e; exact c.pf hp,c.post,c.hp⟩
@[simp] theorem WY.c_pre {β:Type} (c:WY β):c.c.pre=c.pre:=rfl
@[simp] theorem WY.c_v {β:Type} (c:WY β):c.c.v=c.v:=rfl
@[simp] theorem WY.c_post {β:Type} (c:WY β) (x:β):c.c.post x=c.post x:=rfl
theorem GA {K q:Nat} {b0 b:Blk} (h:look [(K,b0)] q=some b):q=K∧b=b0:=by
 rw [jL] at h
 split at h
 ·rename_i e; simp only [Option.some.injEq] at h; exact ⟨e.symm,h.symm⟩
 ·simp [look] at h
theorem FnA.rekeyR {P:Program} {f:FuncId} {args:List AV} {lbs:List (Nat × Blk)} {K n e k m:Nat} {r:Nat→List D} (κ:Nat) (h:FnA P f args lbs (.own K n) [(K,.row e k m r)]):FnA P f args lbs (.own κ n) [(κ,.row e k m r)]:=by
 refine ⟨h.1,fun w S μ vs h1 h2 h3 h4 h5=>(h.2 w S μ vs h1 h2 h3 h4 h5).mono ?_⟩
 rintro e0 w' ⟨v,S',μ',rfl,B⟩
 have lK:look [(K,Blk.row e k m r)] K=some (.row e k m r):=by rw [jL,if_pos rfl]
 refine ⟨v,S',fun _=>μ' K,rfl,⟨fun ν=>?_,fun q b hq=>?_,fun q1 q2 b1 b2 g c c' x1 x2 _ _=>by rw [(GA x1).1,(GA x2).1],fun q b g c x1 x2=>B.own K _ g c lK x2,B.sub,B.new,B.bound,B.kept⟩⟩
 ·cases B.res ν with
  | ownNil hμ=>exact .ownNil hμ
  | own hμ=>exact .own hμ
 ·obtain ⟨rfl,rfl⟩:=GA hq
  exact (B.mem K _ lK).agree (fun k hk=>by simp [Blk.keys] at hk)
theorem FnA.rekeyA {P:Program} {f:FuncId} {as:List AV} {K n e k m:Nat} {r:Nat→List D} {res:AV} {lbs':List (Nat × Blk)} (κ:Nat) (hk:AV.keysL as=[]) (h:FnA P f (.own K n :: as) [(K,.row e k m r)] res lbs'):FnA P f (.own κ n :: as) [(κ,.row e k m r)] res lbs':=by
 refine ⟨h.1,fun w S μ vs h1 h2 h3 h4 h5=>?_⟩
 have lK:∀ K',look [(K',Blk.row e k m r)] K'=some (.row e k m r):=fun K'=>by rw [jL,if_pos rfl]
 refine (h.2 w S (fun _=>μ κ) vs h1 h2 (fun ν=>?_) (fun q b hq=>?_) (fun q1 q2 b1 b2 g c c' x1 x2 _ _=>by rw [(GA x1).1,(GA x2).1])).mono ?_
 ·obtain ⟨hl,hi⟩:=h3 ν
  refine ⟨by simpa using hl,fun i hi'=>?_⟩
  have hq:=hi i (by simpa using hi')
  cases i with
  | zero =>
   simp only [List.getD_cons_zero] at hq ⊢
   generalize vs.toList.getD 0 undef=v at hq ⊢
   cases hq with
   | ownNil hμ=>exact .ownNil hμ
   | own hμ=>exact .own hμ
  | succ i =>
   simp only [List.getD_cons_succ] at hq ⊢
   refine hq.agree (fun k' hk'=>absurd hk' (AV.keysL_of as i (by rw [hk]; simp) (by simpa using hi')))
 ·obtain ⟨rfl,rfl⟩:=GA hq
  exact (h4 κ _ (lK κ)).agree (fun k hk=>by simp [Blk.keys] at hk)
 ·rintro e' w' ⟨v,S',μ',rfl,B⟩
  exact ⟨v,S',μ',rfl,B.monoT (fun b ⟨q,bk,c,x1,x2⟩=>⟨κ,_,c,lK κ,x2⟩)⟩
section
variable {α β ι : Type}
@[simp] theorem Sk.val_fin (a:α):(Sk.fin a).val=a:=rfl
@[simp] theorem Sk.val_br (e:Bool) (x y:Sk α):(Sk.br e x y).val=bif e then x.val else y.val:=rfl
@[simp] theorem Sk.val_r (id:Nat) (c:Cal β) (k:β→Sk α):(Sk.r id c k).val=(k c.v).val:=rfl
@[simp] theorem Sk.val_wi (t:Nat) (m n:Int) (k:Sk α):(Sk.wi t m n k).val=k.val:=rfl
@[simp] theorem Sk.val_bnd (t j n:Nat) (k:Sk α):(Sk.bnd t j n k).val=k.val:=rfl
@[simp] theorem Sk.val_wn (κ n n':Nat) (k:Sk α):(Sk.wn κ n n' k).val=k.val:=rfl
@[simp] theorem Sk.val_brt (k:Sk α):(Sk.brt k).val=k.val:=rfl
@[simp] theorem Sk.val_brf (k:Sk α):(Sk.brf k).val=k.val:=rfl
@[simp] theorem Sk.val_dead (a:α):(Sk.dead a).val=a:=rfl
@[simp] theorem Sk.val_cas (t:Nat) (c:Bool) (x y:AV) (k1 k2:Sk α):(Sk.cas t c x y k1 k2).val=bif c then k1.val else k2.val:=rfl
@[simp] theorem Sk.val_nsp (t n:Nat) (k1 k2:Sk α):(Sk.nsp t n k1 k2).val=k2.val:=rfl
@[simp] theorem Sk.val_op (κ:Nat) (k:List (Int × Int)→Sk α):(Sk.op κ k).val=(k []).val:=rfl
@[simp] theorem Sk.val_cl (κ:Nat) (m:List (Int × Int)) (k:Sk α):(Sk.cl κ m k).val=k.val:=rfl
@[simp] theorem Sk.val_clr (id:Nat) (x:Int) (c:ZI) (k:Sk α):(Sk.clr id x c k).val=k.val:=rfl
@[simp] theorem Sk.val_fz (κ:Nat) (k:Sk α):(Sk.fz κ k).val=k.val:=rfl
@[simp] theorem Sk.val_bind (b:Bool) (J:β→Prop) (s:Sk (α ⊕ β)) (u:β→Upd) (k:β→Sk α):(Sk.bind b J s u k).val=Kv s.val fun b=>(k b).val:=rfl
@[simp] theorem Sk.val_rf {σ β Y:Type} (it:ItC Y) (I:Nat→σ→Prop) (B:β→Prop) (id:Nat) (s0:σ) (u:σ→List (Nat × Blk)) (v:β→List (Nat × Blk)) (b:σ→Y→Sk (β ⊕ σ)) (k:β ⊕ σ→Sk α):(Sk.rf it I B id s0 u v b k).val=(k (Qn (fun s y=>(b s y).val) it.ys s0)).val:=rfl
@[simp] theorem Sk.val_loop (d:α) (I:ι→Prop) (m:ι→Nat) (i0:ι) (u:ι→Upd) (b:ι→Sk (α ⊕ ι)):(Sk.loop d I m i0 u b).val=iter (fun i=>(b i).val) d (m i0+1) i0:=rfl
variable (L : α → Prop)
@[simp] theorem Sk.obs_fin (a:α):(Sk.fin a).obs L=L a:=rfl
@[simp] theorem Sk.obs_br (e:Bool) (x y:Sk α):(Sk.br e x y).obs L=((e=true→x.obs L)∧(e=false→y.obs L)):=rfl
@[simp] theorem Sk.obs_r (id:Nat) (c:Cal β) (k:β→Sk α):(Sk.r id c k).obs L=(c.pre∧∀ x,x=c.v→c.post x→(k x).obs L):=rfl
@[simp] theorem Sk.obs_wi (t:Nat) (m n:Int) (k:Sk α):(Sk.wi t m n k).obs L=(m=n∧k.obs L):=rfl
@[simp] theorem Sk.obs_bnd (t j n:Nat) (k:Sk α):(Sk.bnd t j n k).obs L=(n≤maxLen→k.obs L):=rfl
@[simp] theorem Sk.obs_wn (κ n n':Nat) (k:Sk α):(Sk.wn κ n n' k).obs L=(n=n'∧k.obs L):=rfl
@[simp] theorem Sk.obs_brt (k:Sk α):(Sk.brt k).obs L=k.obs L:=rfl
@[simp] theorem Sk.obs_brf (k:Sk α):(Sk.brf k).obs L=k.obs L:=rfl
@[simp] theorem Sk.obs_dead (a:α):(Sk.dead a).obs L=False:=rfl
@[simp] theorem Sk.obs_cas (t:Nat) (c:Bool) (x y:AV) (k1 k2:Sk α):(Sk.cas t c x y k1 k2).obs L=((c=true→k1.obs L)∧(c=false→k2.obs L)):=rfl
@[simp] theorem Sk.obs_nsp (t n:Nat) (k1 k2:Sk α):(Sk.nsp t n k1 k2).obs L=((n=0→k1.obs L∧k1.val=k2.val)∧k2.obs L):=rfl
@[simp] theorem Sk.obs_clr (id:Nat) (x:Int) (c:ZI) (k:Sk α):(Sk.clr id x c k).obs L=((0≤x∧x≤(c.n:Int))∧k.obs L):=rfl
@[simp] theorem Sk.obs_fz (κ:Nat) (k:Sk α):(Sk.fz κ k).obs L=k.obs L:=rfl
@[simp] theorem Sk.obs_bind (b:Bool) (J:β→Prop) (s:Sk (α ⊕ β)) (u:β→Upd) (k:β→Sk α):(Sk.bind b J s u k).obs L=(s.obs (Qy L J)∧∀ b,s.val=.inr b→J b→(k b).obs L):=rfl
@[simp] theorem Sk.obs_loop (d:α) (I:ι→Prop) (m:ι→Nat) (i0:ι) (u:ι→Upd) (b:ι→Sk (α ⊕ ι)):(Sk.loop d I m i0 u b).obs L=(I i0∧∀ i,I i→(b i).obs (zL L fun j=>I j∧m j < m i)):=rfl
end
section
variable {α β ι : Type} (L : α → Prop)
@[simp] theorem Sk.pst_fin (a:α):(Sk.fin a).pst L=L a:=rfl
@[simp] theorem Sk.pst_br (e:Bool) (x y:Sk α):(Sk.br e x y).pst L=((e=true→x.pst L)∧(e=false→y.pst L)):=rfl
@[simp] theorem Sk.pst_r (id:Nat) (c:Cal β) (k:β→Sk α):(Sk.r id c k).pst L=(∀ x,x=c.v→c.post x→(k x).pst L):=rfl
@[simp] theorem Sk.pst_wi (t:Nat) (m n:Int) (k:Sk α):(Sk.wi t m n k).pst L=k.pst L:=rfl
@[simp] theorem Sk.pst_bnd (t j n:Nat) (k:Sk α):(Sk.bnd t j n k).pst L=k.pst L:=rfl
@[simp] theorem Sk.pst_wn (κ n n':Nat) (k:Sk α):(Sk.wn κ n n' k).pst L=k.pst L:=rfl
@[simp] theorem Sk.pst_brt (k:Sk α):(Sk.brt k).pst L=k.pst L:=rfl
@[simp] theorem Sk.pst_brf (k:Sk α):(Sk.brf k).pst L=k.pst L:=rfl
@[simp] theorem Sk.pst_dead (a:α):(Sk.dead a).pst L=L a:=rfl
@[simp] theorem Sk.pst_cas (t:Nat) (c:Bool) (x y:AV) (k1 k2:Sk α):(Sk.cas t c x y k1 k2).pst L=((c=true→k1.pst L)∧(c=false→k2.pst L)):=rfl
@[simp] theorem Sk.pst_nsp (t n:Nat) (k1 k2:Sk α):(Sk.nsp t n k1 k2).pst L=k2.pst L:=rfl
@[simp] theorem Sk.pst_clr (id:Nat) (x:Int) (c:ZI) (k:Sk α):(Sk.clr id x c k).pst L=k.pst L:=rfl
@[simp] theorem Sk.pst_fz (κ:Nat) (k:Sk α):(Sk.fz κ k).pst L=k.pst L:=rfl
@[simp] theorem Sk.pst_bind (b:Bool) (J:β→Prop) (s:Sk (α ⊕ β)) (u:β→Upd) (k:β→Sk α):(Sk.bind b J s u k).pst L=(s.pst (Qy L J)∧∀ b,s.val=.inr b→J b→(k b).pst L):=rfl
@[simp] theorem Sk.pst_loop (d:α) (I:ι→Prop) (m:ι→Nat) (i0:ι) (u:ι→Upd) (b:ι→Sk (α ⊕ ι)):(Sk.loop d I m i0 u b).pst L=(I i0∧∀ i,I i→(b i).pst (zL L fun j=>I j∧m j < m i)):=rfl
end
@[simp] theorem zsC {α β:Type} (L:α→Prop) (J:β→Prop) (a:α):Qy L J (.inl a)=L a:=rfl
@[simp] theorem zsD {α β:Type} (L:α→Prop) (J:β→Prop) (b:β):Qy L J (.inr b)=J b:=rfl
@[simp] theorem zsE {α β:Type} (L:α→Prop) (J:β→Prop) (a:α):zL L J (.inl a)=L a:=rfl
@[simp] theorem zsF {α β:Type} (L:α→Prop) (J:β→Prop) (b:β):zL L J (.inr b)=J b:=rfl
@[simp] theorem zpa {α β:Type} (a:α) (f:β→α):Kv (.inl a) f=a:=rfl
@[simp] theorem VQ {α β:Type} (b:β) (f:β→α):Kv (.inr b) f=f b:=rfl
end Go.Av
