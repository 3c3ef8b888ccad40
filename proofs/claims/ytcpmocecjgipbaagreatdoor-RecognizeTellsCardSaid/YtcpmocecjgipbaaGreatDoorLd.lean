/- What printed sketches are made of. -/
import Derived.Test.YtcpmocecjgipbaaGreatDoorLc
set_option linter.unusedSimpArgs false
set_option linter.unusedVariables false
set_option linter.unusedSectionVars false
namespace Go.Av
open Go
variable [zr]
instance {α β:Type} [Inhabited α]:Inhabited (Sum α β):=⟨.inl default⟩
abbrev iv (n:Int):AV:=.d (.v (.int .i64 n))
abbrev bv (b:Bool):AV:=.d (.v (.bool b))
abbrev sv (s:ByteArray):AV:=.d (.v (.string s))
abbrev av (cs:List D):AV:=.d (.agg cs)
abbrev lv {α:Type} [Inhabited α] (cells:α→List D) (l:List α):AV:=.d (mS cells l)
abbrev nv:AV:=.d (.v (.slice none 0 0))
abbrev ow {α:Type} (κ:Nat) (l:List α):AV:=.own κ l.length
abbrev fg {α:Type} [Inhabited α] (e k:Nat) (cells:α→List D) (l:List α):bK:=.row e k l.length fun i=>cells (l.getD i default)
abbrev dI (n:Int):D:=.v (.int .i64 n)
abbrev dB (b:Bool):D:=.v (.bool b)
def ar (n:Int):Int:=IntKind.i64.wrap n
def c9 (k:IntKind) (a b:Int):Int:=k.wrap (BitVec.ofInt k.bits a &&& BitVec.ofInt k.bits b).toNat
def O3 (k:IntKind) (a b:Int):Int:=k.wrap (BitVec.ofInt k.bits a ||| BitVec.ofInt k.bits b).toNat
def eK (k:IntKind) (a b:Int):Int:=k.wrap (a * 2 ^ (min b.toNat k.bits))
def dt (k:IntKind) (a b:Int):Int:=a.fdiv (2 ^ (min b.toNat k.bits))
theorem az {n:Int} (h1 : -9223372036854775808≤n) (h2:n≤9223372036854775807):ar n=n:=So h1 h2
structure Il (α:Type) where
 cells:α→List D
 k:Nat
 len:∀ x,(cells x).length=k
 one:∀ x,(cells x).all wM=true
def slE {α:Type} [Inhabited α] (E:Il α):Il (List α):=⟨fun l=>[mS E.cells l],1,fun _=>rfl,fun _=>rfl⟩
def eZ:Il Int:=⟨cM,1,fun _=>rfl,fun _=>rfl⟩
def tI:Il ByteArray:=⟨gV,1,fun _=>rfl,fun _=>rfl⟩
def Uu:Il Bool:=⟨lI,1,fun _=>rfl,fun _=>rfl⟩
def u8C (n:Int):List D:=[.v (.int .u8 n)]
def lJ (s:ByteArray):List Int:=s.data.toList.map fun b=>(b.toNat:Int)
def YE (s:ByteArray):pE:=⟨s.size,(lJ s).length,fun i=>[.v (.int .u8 (s.data.toList.getD i 0).toNat)],fun i=>u8C ((lJ s).getD i default),by
 refine ⟨by simp [lJ],fun i hi=>?_⟩
 have fQ:i < s.data.size:=hi
 have e:(lJ s).getD i default=((s.data.toList.getD i 0).toNat:Int):=by
  simp only [lJ,List.getD,List.getElem?_map,Array.getElem?_toList,Array.getElem?_eq_getElem fQ,Option.map_some,Option.getD_some]
 rw [e]
 exact u9.rfl'⟩
abbrev mpB {α:Type} [Inhabited α] (enc:α→D) (ks:List Int) (vs:List α):bK:=.mp ks.length fun i=>(.int .i64 (ks.getD i 0),enc (vs.getD i default))
def CQ {α:Type} [Inhabited α] (enc:α→D) (ks:List Int) (vs:List α) (h:ks.length=vs.length) (k:Int) (v:α):F5:=⟨ks.length+1,(ks++[k]).length,fun q=>if q < ks.length then (.int .i64 (ks.getD q 0),enc (vs.getD q default)) else (.int .i64 k,enc v),fun i=>(.int .i64 ((ks++[k]).getD i 0),enc ((vs++[v]).getD i default)),by
 refine ⟨by simp,fun i hi=>?_⟩
 by_cases c:i < ks.length
 ·simp only [c,if_true,List.getD,List.getElem?_append_left c,List.getElem?_append_left (h ▸ c:i < vs.length)]
 ·obtain rfl:i=ks.length:=by omega
  simp only [Nat.lt_irrefl,if_false]
  simp [List.getD,h]⟩
def aaK {α:Type} [Inhabited α] (enc:α→D) (k:Int) (v:α):F5:=⟨0+1,1,fun q=>if q < 0 then (.bool false,default) else (.int .i64 k,enc v),fun i=>(.int .i64 ([k].getD i 0),enc ([v].getD i default)),by
 refine ⟨rfl,fun i hi=>?_⟩
 obtain rfl:i=0:=by omega
 rfl⟩
abbrev mpf {α:Type} [Inhabited α] (enc:α→D) (m:List (Int × α)):Nat→Value × D:=fun i=>(.int .i64 (m.getD i default).1,enc (m.getD i default).2)
abbrev mpM {α:Type} [Inhabited α] (enc:α→D) (m:List (Int × α)):bK:=.mp m.length (mpf enc m)
abbrev pmM {α:Type} [Inhabited α] (enc:α→D) (m:List (Int × α)):AV:=.yo m.length (mpf enc m)
def aaL:F5:=⟨0,0,fun _=>(.bool false,default),fun _=>(.bool false,default),rfl,fun _ _=>rfl⟩
theorem CR {n n':Nat} {f f':Nat→List D} (h:n=n'∧∀ i,i < n→f i=f' i):n=n'∧∀ i,i < n→u9 (f i) (f' i):=⟨h.1,fun i hi=>u9.of_eq (h.2 i hi)⟩
section
variable {α : Type} [Inhabited α] (E : Il α)
theorem Il.src (M:List α):(∀ i,i < M.length→(E.cells (M.getD i default)).length=E.k)∧∀ i,i < M.length→(E.cells (M.getD i default)).all wM=true:=⟨fun _ _=>E.len _,fun _ _=>E.one _⟩
theorem Il.sE (M:List α):∀ i,i < M.length→(E.cells (M.getD i default)).all wM=true:=fun _ _=>E.one _
theorem Il.lens (M:List α):∀ i,i < M.length→(E.cells (M.getD i default)).length=E.k:=fun _ _=>E.len _
def nY (L M:List α):pE:=⟨L.length+M.length,(L++M).length,fun q=>if q < L.length then E.cells (L.getD q default) else E.cells (M.getD (q - L.length) default),fun i=>E.cells ((L++M).getD i default),CR (Wf E.cells L M)⟩
def iQ (L:List α) (p:Nat) (y:α):pE:=⟨L.length,(L.set p y).length,fun q=>if q=p then E.cells y else E.cells (L.getD q default),fun i=>E.cells ((L.set p y).getD i default),CR <| by
 refine ⟨by simp,fun i hi=>?_⟩
 split
 ·rename_i h
  subst h
  simp [List.getD,hi]
 ·rename_i h
  simp [List.getD,List.getElem?_set_ne (fun e=>h e.symm)]⟩
def Xr (n:Nat) (z:α):pE:=⟨n,(List.replicate n z).length,fun _=>E.cells z,fun i=>E.cells ((List.replicate n z).getD i default),CR <| by
 refine ⟨by simp,fun i hi=>?_⟩
 simp [List.getD,hi]⟩
def fI (L:List α) (lo n:Nat):List α:=(List.range n).map fun i=>L.getD (lo+i) default
def Uv (L:List α) (lo n:Nat):pE:=⟨n,(fI L lo n).length,fun i=>E.cells (L.getD (lo+i) default),fun i=>E.cells ((fI L lo n).getD i default),CR <| by
 refine ⟨by simp [fI],fun i hi=>?_⟩
 have:(fI L lo n).getD i default=L.getD (lo+i) default:=by simp [fI,List.getD,hi]
 rw [this]⟩
def acs (L:List α) (h:Nat):pE:=⟨h,(fI L 0 h).length,fun i=>E.cells (L.getD i default),fun i=>E.cells ((fI L 0 h).getD i default),CR <| by
 refine ⟨by simp [fI],fun i hi=>?_⟩
 have:(fI L 0 h).getD i default=L.getD i default:=by simp [fI,List.getD,hi]
 rw [this]⟩
theorem Gv (k:Nat) (hk:∀ x,(E.cells x).length=k):∀ (xs:List α) (i j:Nat),i < xs.length→j < k→(xs.flatMap E.cells).getD (i * k+j) default=(E.cells (xs.getD i default)).getD j default
 | [],i,j,hi,_=>absurd hi (by simp)
 | x :: r,0,j,_,hj=>by
  simp only [List.flatMap_cons,Nat.zero_mul,Nat.zero_add,List.getD_cons_zero]
  rw [List.getD,List.getElem?_append_left (by rw [hk]; exact hj)]
  rfl
 | x :: r,i+1,j,hi,hj=>by
  have ih:=Gv k hk r i j (by simpa using hi) hj
  simp only [List.flatMap_cons,List.getD_cons_succ]
  rw [List.getD,List.getElem?_append_right (by rw [hk,Nat.add_mul,Nat.one_mul]; omega),hk,show (i+1) * k+j - k=i * k+j by rw [Nat.add_mul,Nat.one_mul]; omega]
  exact ih
theorem Gw (k:Nat) (hk:∀ x,(E.cells x).length=k):∀ (xs:List α),(xs.flatMap E.cells).length=xs.length * k
 | []=>by simp
 | x :: r=>by simp [List.flatMap_cons,hk,Gw k hk r,Nat.add_mul,Nat.add_comm]
def gr (xs:List α):pE:=⟨xs.length,xs.length,yW E.k xs.length (xs.flatMap E.cells),fun i=>E.cells (xs.getD i default),CR <| by
 refine ⟨rfl,fun i hi=>?_⟩
 obtain ⟨h1,h2⟩:=uu (k:=E.k) (len:=xs.length) (ds:=xs.flatMap E.cells) (Gw E E.k E.len xs) hi
 apply List.ext_getElem?
 intro j
 by_cases hj:j < E.k
 ·have h3:=h2 j hj
  rw [Gv E E.k E.len xs i j hi hj] at h3
  have l1:j < (yW E.k xs.length (xs.flatMap E.cells) i).length:=by omega
  have l2:j < (E.cells (xs.getD i default)).length:=by rw [E.len]; exact hj
  rw [List.getD,List.getD,List.getElem?_eq_getElem l1,List.getElem?_eq_getElem l2] at h3
  rw [List.getElem?_eq_getElem l1,List.getElem?_eq_getElem l2]
  simpa using h3
 ·rw [List.getElem?_eq_none (by omega),List.getElem?_eq_none (by rw [E.len]; omega)]⟩
def YF (xs:List α) (ds:List D) (h:PB ds (xs.flatMap E.cells)=(PB ds (xs.flatMap E.cells)).diag):pE:=⟨xs.length,xs.length,yW E.k xs.length ds,fun i=>E.cells (xs.getD i default),by
 have hle:=Bk (CT.DX h)
 refine ⟨rfl,fun i hi=>?_⟩
 have hl:ds.length=xs.length * E.k:=hle.1.trans (Gw E E.k E.len xs)
 obtain ⟨h1,h2⟩:=uu (k:=E.k) (len:=xs.length) (ds:=ds) hl hi
 refine ⟨h1.trans (E.len _).symm,fun j hj=>?_⟩
 have hj:j < E.k:=by omega
 have hb:i * E.k+j < ds.length:=by
  rw [hl]
  have q1:(i+1) * E.k≤xs.length * E.k:=Nat.mul_le_mul_right _ hi
  rw [Nat.add_mul,Nat.one_mul] at q1
  omega
 have h3:=hle.2 _ hb
 rw [Gv E E.k E.len xs i j hi hj] at h3
 rw [h2 j hj]
 exact h3⟩
def mkN (n:Nat) (z:α) (ds:List D) (h:PB ds (E.cells z)=(PB ds (E.cells z)).diag):pE:=⟨n,(List.replicate n z).length,fun _=>ds,fun i=>E.cells ((List.replicate n z).getD i default),by
 refine ⟨by simp,fun i hi=>?_⟩
 have e:(List.replicate n z).getD i default=z:=by simp [List.getD,hi]
 rw [e]
 exact Bk (CT.DX h)⟩
end
def Sr {cs ds:List D} (h:u9 cs ds):QV:=⟨.ref cs,.ref ds,fun w S μ ν v hr=>by
 cases hr with
 | ref dp bX hh=>exact .ref dp (fun j hj=>bX j (by rw [h.1]; exact hj)) (fun j hj=>h.2 j (by rw [h.1]; exact hj) _ _ _ (hh j (by rw [h.1]; exact hj)))⟩
abbrev bz (i:Int) (n:Nat):Prop:=0≤i∧i < (n:Int)
abbrev zb (n m bytes:Nat):Prop:=n+m≤maxLen∧(n+m) * bytes≤140737488355328
abbrev PL (n:Int) (bytes:Nat):Prop:=0≤n∧n.toNat≤maxLen∧n.toNat * bytes≤140737488355328
def bD.z:bD Unit:=⟨(),fun _=>[],fun _=>none,True,fun _ _ h=>(by cases h),fun _=>True,trivial⟩
abbrev Sk.nx {α ι:Type} (id t n:Nat) (a:ι):Sk (α ⊕ ι):=.r id .z fun _=>.wi t (ar ((n:Int)+1)) ((n+1:Nat):Int) (.fin (.inr a))
def bD.p (p:Prop):bD Unit:=⟨(),fun _=>[],fun _=>some p,p,fun h _ e=>by cases e; exact h,fun _=>True,trivial⟩
def bD.t {p:Prop} (h:p):bD Unit:=⟨(),fun _=>[],fun _=>some p,True,fun _ _ e=>by cases e; exact h,fun _=>True,trivial⟩
def bD.pt (p:Prop) {q:Prop} (h:q):bD Unit:=⟨(),fun _=>[],fun _=>some (p∧q),p,fun hp _ e=>by cases e; exact ⟨hp,h⟩,fun _=>True,trivial⟩
def bD.o (l:List zP):bD Unit:=⟨(),fun _=>l,fun _=>none,True,fun _ _ h=>(by cases h),fun _=>True,trivial⟩
theorem Bq {x y:Option Prop} (h1:∀ p,x=some p→p) (h2:∀ p,y=some p→p) (p:Prop) (e:CM x y=some p):p:=by
 cases x with
 | none=>exact h2 p (by simpa [CM] using e)
 | some a =>
  cases y with
  | none=>exact h1 p (by simpa [CM] using e)
  | some b =>
   simp only [CM,Option.some.injEq] at e
   subst e
   exact ⟨h1 a rfl,h2 b rfl⟩
def YG (e w:Bool):Option Prop→Option Prop
 | none=>none
 | some p=>some (e=w→p)
theorem Wr {x:Option Prop} {e w:Bool} (h:e=w→∀ p,x=some p→p) (p:Prop) (hp:YG e w x=some p):p:=by
 cases x with
 | none=>cases hp
 | some a =>
  simp only [YG,Option.some.injEq] at hp
  subst hp
  exact fun he=>h he a rfl
def bD.and {α β:Type} (a:bD α) (b:bD β):bD (α × β):=⟨(a.v,b.v),fun x=>a.kj x.1++b.kj x.2,fun x=>CM (a.sP x.1) (b.sP x.2),a.pre∧b.pre,fun h=>Bq (a.pf h.1) (b.pf h.2),fun x=>a.post x.1∧b.post x.2,⟨a.hp,b.hp⟩⟩
def bD.au {β:Type} (a:bD Unit) (b:bD β):bD β:=⟨b.v,fun x=>a.kj ()++b.kj x,fun x=>CM (a.sP ()) (b.sP x),a.pre∧b.pre,fun h=>Bq (a.pf h.1) (b.pf h.2),b.post,b.hp⟩
def bD.zX {α:Type} (a:bD α) (b:bD Unit):bD α:=⟨a.v,fun x=>a.kj x++b.kj (),fun x=>CM (a.sP x) (b.sP ()),a.pre∧b.pre,fun h=>Bq (a.pf h.1) (b.pf h.2),a.post,a.hp⟩
def bD.wh {β:Type} (e w:Bool) (a:bD β):bD β:=⟨a.v,a.kj,fun x=>YG e w (a.sP x),e=w→a.pre,fun h=>Wr fun he=>a.pf (h he),a.post,a.hp⟩
def bD.dep {α β:Type} (a:bD α) (b:α→bD β):bD (α × β):=⟨(a.v,(b a.v).v),fun x=>a.kj x.1++(b x.1).kj x.2,fun x=>CM (a.sP x.1) ((b x.1).sP x.2),a.pre∧∀ x,x=a.v→a.post x→(b x).pre,fun h=>Bq (a.pf h.1) ((b a.v).pf (h.2 _ rfl a.hp)),fun x=>a.post x.1∧(b x.1).post x.2,⟨a.hp,(b a.v).hp⟩⟩
def bD.fA {α:Type} (a:bD α) (b:α→bD Unit):bD α:=⟨a.v,fun x=>a.kj x++(b x).kj (),fun x=>CM (a.sP x) ((b x).sP ()),a.pre∧∀ x,x=a.v→a.post x→(b x).pre,fun h=>Bq (a.pf h.1) ((b a.v).pf (h.2 _ rfl a.hp)),a.post,a.hp⟩
structure eo (β:Type) where
 P:Program
 f:FuncId
 args:List AV
 enc:β→AV
 fl:Bool
 v:β
 pre:Prop
 pf:pre→iU P f args [] (enc v) []
 post:β→Prop:=fun _=>True
 hp:post v:=by trivial
def eo.c {β:Type} (c:eo β):bD β:=⟨c.v,fun x=>[bif c.fl then .flat (c.enc x) else .gen [] (c.enc x) []],fun x=>some (iU c.P c.f c.args [] (c.enc x) []),c.pre,fun hp _ e=>by cases e; exact c.pf hp,c.post,c.hp⟩
theorem rK.refl:∀ (l:List AV),rK l l
 | []=>trivial
 | _ :: r=>⟨qk.rfl',rK.refl r⟩
theorem rK.set:∀ (l:List AV) (i:Nat) (x y:AV),l[i]? = some y→qk x y→rK (l.set i x) l
 | [],i,_,_,h,_=>by simp at h
 | z :: r,0,x,y,h,hle=>by
  simp only [List.getElem?_cons_zero,Option.some.injEq] at h
  subst h
  exact ⟨hle,rK.refl r⟩
 | z :: r,i+1,x,y,h,hle=>⟨qk.rfl',rK.set r i x y (by simpa using h) hle⟩
def eo.nil {β:Type} (c:eo β) (i:Nat) (h:∃ g,c.args[i]? = some (.d (.sl 0 g))):eo β :=
 { c with args:=c.args.set i nv,pf:=fun hp=>(c.pf hp).Q2 (let ⟨g,hg⟩:=h; rK.set c.args i _ _ hg (qk.d (qg.nil g))) }
def eo.zc {β:Type} (c:eo β) (i j:Nat) (cs:List D) (h:c.args[i]? = some (.d (.agg cs))) (h2:∃ g,cs[j]? = some (.sl 0 g)):eo β :=
 {c with args:=c.args.set i (.d (.agg (cs.set j (.v (.slice none 0 0))))),pf:=fun hp=>(c.pf hp).Q2 (rK.set c.args i _ _ h (qk.d (qg.agg (by simp) (fun q hq=>by
   obtain ⟨g,hg⟩:=h2
   by_cases e:j=q
   ·subst e
    have hj:j < cs.length:=by simpa using hq
    have e1:(cs.set j (.v (.slice none 0 0))).getD j default=.v (.slice none 0 0):=by simp [List.getD,hj]
    have e2:cs.getD j default=.sl 0 g:=by simp [List.getD,hg]
    rw [e1,e2]
    exact qg.nil g
   ·have e1:(cs.set j (.v (.slice none 0 0))).getD q default=cs.getD q default:=by simp [List.getD,List.getElem?_set_ne e]
    rw [e1]
    exact qg.rfl')))) }
@[simp] theorem bD.acu (x:Unit):bD.z.post x=True:=rfl
@[simp] theorem bD.acv (p:Prop) (x:Unit):(bD.p p).post x=True:=rfl
@[simp] theorem bD.acw {p:Prop} (h:p) (x:Unit):(bD.t h).post x=True:=rfl
@[simp] theorem bD.abh (p:Prop) {q:Prop} (h:q) (x:Unit):(bD.pt p h).post x=True:=rfl
@[simp] theorem bD.acx (l:List zP) (x:Unit):(bD.o l).post x=True:=rfl
@[simp] theorem bD.aaM {α β:Type} (a:bD α) (b:bD β) (x:α × β):(a.and b).post x=(a.post x.1∧b.post x.2):=rfl
@[simp] theorem bD.ZM {β:Type} (a:bD Unit) (b:bD β) (x:β):(a.au b).post x=b.post x:=rfl
@[simp] theorem bD.ZO {β:Type} (a:bD β) (b:bD Unit) (x:β):(a.zX b).post x=a.post x:=rfl
@[simp] theorem bD.abi {β:Type} (e w:Bool) (a:bD β) (x:β):(a.wh e w).post x=a.post x:=rfl
@[simp] theorem bD.aaN {α β:Type} (a:bD α) (b:α→bD β) (x:α × β):(a.dep b).post x=(a.post x.1∧(b x.1).post x.2):=rfl
@[simp] theorem bD.ZP {α:Type} (a:bD α) (b:α→bD Unit) (x:α):(a.fA b).post x=a.post x:=rfl
@[simp] theorem eo.K9 {β:Type} (c:eo β) (x:β):c.c.post x=c.post x:=rfl
@[simp] theorem eo.Uw {β:Type} (c:eo β) (i:Nat) (h:∃ g,c.args[i]? = some (.d (.sl 0 g))) (x:β):(c.nil i h).post x=c.post x:=rfl
@[simp] theorem eo.ZQ {β:Type} (c:eo β) (i j:Nat) (cs:List D) (h:c.args[i]? = some (.d (.agg cs))) (h2:∃ g,cs[j]? = some (.sl 0 g)) (x:β):(c.zc i j cs h h2).post x=c.post x:=rfl
@[simp] theorem bD.adf:bD.z.pre=True:=rfl
@[simp] theorem bD.adg (p:Prop):(bD.p p).pre=p:=rfl
@[simp] theorem bD.adh {p:Prop} (h:p):(bD.t h).pre=True:=rfl
@[simp] theorem bD.acy (p:Prop) {q:Prop} (h:q):(bD.pt p h).pre=p:=rfl
@[simp] theorem bD.adi (l:List zP):(bD.o l).pre=True:=rfl
@[simp] theorem bD.abj {α β:Type} (a:bD α) (b:bD β):(a.and b).pre=(a.pre∧b.pre):=rfl
@[simp] theorem bD.aaO {β:Type} (a:bD Unit) (b:bD β):(a.au b).pre=(a.pre∧b.pre):=rfl
@[simp] theorem bD.aaP {β:Type} (a:bD β) (b:bD Unit):(a.zX b).pre=(a.pre∧b.pre):=rfl
@[simp] theorem bD.acz {β:Type} (e w:Bool) (a:bD β):(a.wh e w).pre=(e=w→a.pre):=rfl
@[simp] theorem bD.abk {α β:Type} (a:bD α) (b:α→bD β):(a.dep b).pre=(a.pre∧∀ x,x=a.v→a.post x→(b x).pre):=rfl
@[simp] theorem bD.aaQ {α:Type} (a:bD α) (b:α→bD Unit):(a.fA b).pre=(a.pre∧∀ x,x=a.v→a.post x→(b x).pre):=rfl
@[simp] theorem bD.Br {α β:Type} (a:bD α) (b:α→bD β):(a.dep b).v=(a.v,(b a.v).v):=rfl
@[simp] theorem bD.PM {α:Type} (a:bD α) (b:α→bD Unit):(a.fA b).v=a.v:=rfl
@[simp] theorem eo.Rf {β:Type} (c:eo β):c.c.pre=c.pre:=rfl
@[simp] theorem eo.qB {β:Type} (c:eo β):c.c.v=c.v:=rfl
@[simp] theorem eo.Ws {β:Type} (c:eo β) (i:Nat) (h:∃ g,c.args[i]? = some (.d (.sl 0 g))):(c.nil i h).pre=c.pre:=rfl
@[simp] theorem eo.aaR {β:Type} (c:eo β) (i:Nat) (h:∃ g,c.args[i]? = some (.d (.sl 0 g))):(c.nil i h).v=c.v:=rfl
@[simp] theorem eo.aaS {β:Type} (c:eo β) (i j:Nat) (cs:List D) (h:c.args[i]? = some (.d (.agg cs))) (h2:∃ g,cs[j]? = some (.sl 0 g)):(c.zc i j cs h h2).pre=c.pre:=rfl
@[simp] theorem eo.acA {β:Type} (c:eo β) (i j:Nat) (cs:List D) (h:c.args[i]? = some (.d (.agg cs))) (h2:∃ g,cs[j]? = some (.sl 0 g)):(c.zc i j cs h h2).v=c.v:=rfl
@[simp] theorem bD.adj {α β:Type} (a:bD α) (b:bD β):(a.and b).v=(a.v,b.v):=rfl
@[simp] theorem bD.tJ {β:Type} (a:bD Unit) (b:bD β):(a.au b).v=b.v:=rfl
@[simp] theorem bD.acB {β:Type} (a:bD β) (b:bD Unit):(a.zX b).v=a.v:=rfl
@[simp] theorem bD.PN {β:Type} (e w:Bool) (a:bD β):(a.wh e w).v=a.v:=rfl
structure jg (β:Type) where
 P:Program
 f:FuncId
 args:List AV
 enc:β→AV
 za:β→List (Nat × bK)
 v:β
 pre:Prop
 pf:pre→iU P f args [] (enc v) (za v)
 post:β→Prop:=fun _=>True
 hp:post v:=by trivial
def jg.c {β:Type} (c:jg β):bD β:=⟨c.v,fun x=>[.gen [] (c.enc x) (c.za x)],fun x=>some (iU c.P c.f c.args [] (c.enc x) (c.za x)),c.pre,fun hp _ e=>by cases e; exact c.pf hp,c.post,c.hp⟩
@[simp] theorem jg.Rf {β:Type} (c:jg β):c.c.pre=c.pre:=rfl
@[simp] theorem jg.qB {β:Type} (c:jg β):c.c.v=c.v:=rfl
def jg.nil {β:Type} (c:jg β) (i:Nat) (h:∃ g,c.args[i]? = some (.d (.sl 0 g))):jg β :=
 { c with args:=c.args.set i nv,pf:=fun hp=>(c.pf hp).Q2 (let ⟨g,hg⟩:=h; rK.set c.args i _ _ hg (qk.d (qg.nil g))) }
@[simp] theorem jg.Ws {β:Type} (c:jg β) (i:Nat) (h:∃ g,c.args[i]? = some (.d (.sl 0 g))):(c.nil i h).pre=c.pre:=rfl
@[simp] theorem jg.aaR {β:Type} (c:jg β) (i:Nat) (h:∃ g,c.args[i]? = some (.d (.sl 0 g))):(c.nil i h).v=c.v:=rfl
@[simp] theorem jg.K9 {β:Type} (c:jg β) (x:β):c.c.post x=c.post x:=rfl
@[simp] theorem jg.Uw {β:Type} (c:jg β) (i:Nat) (h:∃ g,c.args[i]? = some (.d (.sl 0 g))) (x:β):(c.nil i h).post x=c.post x:=rfl
structure Ng (β:Type) where
 P:Program
 f:FuncId
 args:List AV
 cZ:List (Nat × bK)
 lg:List (Nat × Nat)
 enc:β→AV
 za:β→List (Nat × bK)
 v:β
 pre:Prop
 pf:pre→FnB P f args cZ (enc v) (za v) lg
 post:β→Prop:=fun _=>True
 hp:post v:=by trivial
def Ng.c {β:Type} (c:Ng β):bD β:=⟨c.v,fun x=>[.bx (c.cZ.map (·.1)) c.lg (c.enc x) (c.za x)],fun x=>some (FnB c.P c.f c.args c.cZ (c.enc x) (c.za x) c.lg),c.pre,fun hp _ e=>by cases e; exact c.pf hp,c.post,c.hp⟩
@[simp] theorem Ng.Rf {β:Type} (c:Ng β):c.c.pre=c.pre:=rfl
@[simp] theorem Ng.qB {β:Type} (c:Ng β):c.c.v=c.v:=rfl
@[simp] theorem Ng.K9 {β:Type} (c:Ng β) (x:β):c.c.post x=c.post x:=rfl
theorem iU.Xs {P:Program} {f:FuncId} {args:List AV} {K n e k m:Nat} {r:Nat→List D} (κ:Nat) (h:iU P f args [] (.own K n) [(K,.row e k m r)]):iU P f args [] (.own κ n) [(κ,.row e k m r)]:=by
 refine ⟨h.1,fun w S μ vs h1 h2 h3 h4 h5=>(h.2 w S μ vs h1 h2 h3 h4 h5).mono ?_⟩
 rintro e0 w' ⟨v,S',μ',rfl,B⟩
 have lk:∀ q b,look [(κ,bK.row e k m r)] q=some b→q=κ∧b=.row e k m r:=fun q b hq=>by
  rw [cg] at hq
  split at hq
  ·rename_i e; simp only [Option.some.injEq] at hq; exact ⟨e.symm,hq.symm⟩
  ·simp [look] at hq
 have lK:look [(K,bK.row e k m r)] K=some (.row e k m r):=by rw [cg,if_pos rfl]
 refine ⟨v,S',fun _=>μ' K,rfl,⟨fun ν=>?_,fun q b hq=>?_,fun q1 q2 b1 b2 g c c' x1 x2 _ _=>by rw [(lk q1 b1 x1).1,(lk q2 b2 x2).1],fun q b g c x1 x2=>B.own K _ g c lK x2,B.sub,B.new,B.bound,B.kept⟩⟩
 ·cases B.res ν with
  | eH hμ=>exact .eH hμ
  | own hμ=>exact .own hμ
 ·obtain ⟨rfl,rfl⟩:=lk q b hq
  exact (B.mem K _ lK).sK (fun k hk=>by simp [bK.keys] at hk)
structure Nh (β:Type) where
 P:Program
 f:FuncId
 args:List AV
 κ:Nat
 b:bK
 enc:β→bK
 v:β
 pre:Prop
 pf:pre→FnS P f args κ b (enc v)
 post:β→Prop:=fun _=>True
 hp:post v:=by trivial
def Nh.c {β:Type} (c:Nh β):bD β:=⟨c.v,fun x=>[.same c.κ (c.enc x)],fun x=>some (FnS c.P c.f c.args c.κ c.b (c.enc x)),c.pre,fun hp _ e=>by cases e; exact c.pf hp,c.post,c.hp⟩
@[simp] theorem Nh.Rf {β:Type} (c:Nh β):c.c.pre=c.pre:=rfl
@[simp] theorem Nh.qB {β:Type} (c:Nh β):c.c.v=c.v:=rfl
@[simp] theorem Nh.K9 {β:Type} (c:Nh β) (x:β):c.c.post x=c.post x:=rfl
structure Ni (β:Type) where
 P:Program
 f:FuncId
 args:List AV
 cZ:List (Nat × bK)
 enc:β→AV
 za:β→List (Nat × bK)
 v:β
 pre:Prop
 pf:pre→iU P f args cZ (enc v) (za v)
 post:β→Prop:=fun _=>True
 hp:post v:=by trivial
def Ni.c {β:Type} (c:Ni β):bD β:=⟨c.v,fun x=>[.gen (c.cZ.map (·.1)) (c.enc x) (c.za x)],fun x=>some (iU c.P c.f c.args c.cZ (c.enc x) (c.za x)),c.pre,fun hp _ e=>by cases e; exact c.pf hp,c.post,c.hp⟩
@[simp] theorem Ni.Rf {β:Type} (c:Ni β):c.c.pre=c.pre:=rfl
@[simp] theorem Ni.qB {β:Type} (c:Ni β):c.c.v=c.v:=rfl
@[simp] theorem Ni.K9 {β:Type} (c:Ni β) (x:β):c.c.post x=c.post x:=rfl
section
variable {α β ι : Type}
@[simp] theorem Sk.aN (a:α):(Sk.fin a).val=a:=rfl
@[simp] theorem Sk.aZ (e:Bool) (x y:Sk α):(Sk.br e x y).val=bif e then x.val else y.val:=rfl
@[simp] theorem Sk.bU (id:Nat) (c:bD β) (k:β→Sk α):(Sk.r id c k).val=(k c.v).val:=rfl
@[simp] theorem Sk.cw (t:Nat) (m n:Int) (k:Sk α):(Sk.wi t m n k).val=k.val:=rfl
@[simp] theorem Sk.bQ (t j n:Nat) (k:Sk α):(Sk.Ij t j n k).val=k.val:=rfl
@[simp] theorem Sk.Ux (κ n n':Nat) (k:Sk α):(Sk.wn κ n n' k).val=k.val:=rfl
@[simp] theorem Sk.abl (k:Sk α):(Sk.K7 k).val=k.val:=rfl
@[simp] theorem Sk.abm (k:Sk α):(Sk.K8 k).val=k.val:=rfl
@[simp] theorem Sk.Uy (a:α):(Sk.dead a).val=a:=rfl
@[simp] theorem Sk.abn (t:Nat) (c:Bool) (x y:AV) (k1 k2:Sk α):(Sk.Q5 t c x y k1 k2).val=bif c then k1.val else k2.val:=rfl
@[simp] theorem Sk.abo (t n:Nat) (k1 k2:Sk α):(Sk.O2 t n k1 k2).val=k2.val:=rfl
@[simp] theorem Sk.acC (κ:Nat) (k:List (Int × Int)→Sk α):(Sk.op κ k).val=(k []).val:=rfl
@[simp] theorem Sk.acD (κ:Nat) (m:List (Int × Int)) (k:Sk α):(Sk.cl κ m k).val=k.val:=rfl
@[simp] theorem Sk.acE (κ:Nat) (q:List (Int × Int)→Prop) (k:List (Int × Int)→Sk α):(Sk.oq κ q k).val=(k (canon q)).val:=rfl
@[simp] theorem Sk.acF (κ:Nat) (m:List (Int × Int)) (q:List (Int × Int)→Prop) (k:Sk α):(Sk.cq κ m q k).val=k.val:=rfl
@[simp] theorem Sk.abp (id:Nat) (x:Int) (c:pE) (k:Sk α):(Sk.K1 id x c k).val=k.val:=rfl
@[simp] theorem Sk.acG (κ:Nat) (k:Sk α):(Sk.fz κ k).val=k.val:=rfl
@[simp] theorem Sk.cu (b:Bool) (J:β→Prop) (s:Sk (α ⊕ β)) (u:β→Tg) (k:β→Sk α):(Sk.bind b J s u k).val=dZ s.val fun b=>(k b).val:=rfl
@[simp] theorem Sk.acH {σ β Y:Type} (it:ItC Y) (I:Nat→σ→Prop) (B:β→Prop) (id:Nat) (s0:σ) (u:σ→List (Nat × bK)) (v:β→List (Nat × bK)) (b:σ→Y→Sk (β ⊕ σ)) (k:β ⊕ σ→Sk α):(Sk.rf it I B id s0 u v b k).val=(k (sD (fun s y=>(b s y).val) it.ys s0)).val:=rfl
@[simp] theorem Sk.cS (d:α) (I:ι→Prop) (m:ι→Nat) (i0:ι) (u:ι→Tg) (b:ι→Sk (α ⊕ ι)):(Sk.loop d I m i0 u b).val=iter (fun i=>(b i).val) d (m i0+1) i0:=rfl
variable (L : α → Prop)
@[simp] theorem Sk.abq (a:α):(Sk.fin a).bE L=L a:=rfl
@[simp] theorem Sk.acI (e:Bool) (x y:Sk α):(Sk.br e x y).bE L=((e=true→x.bE L)∧(e=false→y.bE L)):=rfl
@[simp] theorem Sk.adk (id:Nat) (c:bD β) (k:β→Sk α):(Sk.r id c k).bE L=(c.pre∧∀ x,x=c.v→c.post x→(k x).bE L):=rfl
@[simp] theorem Sk.acJ (t:Nat) (m n:Int) (k:Sk α):(Sk.wi t m n k).bE L=(m=n∧k.bE L):=rfl
@[simp] theorem Sk.abr (t j n:Nat) (k:Sk α):(Sk.Ij t j n k).bE L=(n≤maxLen→k.bE L):=rfl
@[simp] theorem Sk.acK (κ n n':Nat) (k:Sk α):(Sk.wn κ n n' k).bE L=(n=n'∧k.bE L):=rfl
@[simp] theorem Sk.abt (k:Sk α):(Sk.K7 k).bE L=k.bE L:=rfl
@[simp] theorem Sk.abu (k:Sk α):(Sk.K8 k).bE L=k.bE L:=rfl
@[simp] theorem Sk.aaT (a:α):(Sk.dead a).bE L=False:=rfl
@[simp] theorem Sk.abv (t:Nat) (c:Bool) (x y:AV) (k1 k2:Sk α):(Sk.Q5 t c x y k1 k2).bE L=((c=true→k1.bE L)∧(c=false→k2.bE L)):=rfl
@[simp] theorem Sk.abw (t n:Nat) (k1 k2:Sk α):(Sk.O2 t n k1 k2).bE L=((n=0→k1.bE L∧k1.val=k2.val)∧k2.bE L):=rfl
@[simp] theorem Sk.abx (id:Nat) (x:Int) (c:pE) (k:Sk α):(Sk.K1 id x c k).bE L=((0≤x∧x≤(c.n:Int))∧k.bE L):=rfl
@[simp] theorem Sk.acL (κ:Nat) (k:Sk α):(Sk.fz κ k).bE L=k.bE L:=rfl
@[simp] theorem Sk.aaU (b:Bool) (J:β→Prop) (s:Sk (α ⊕ β)) (u:β→Tg) (k:β→Sk α):(Sk.bind b J s u k).bE L=(s.bE (ni L J)∧∀ b,s.val=.inr b→J b→(k b).bE L):=rfl
@[simp] theorem Sk.aaV (d:α) (I:ι→Prop) (m:ι→Nat) (i0:ι) (u:ι→Tg) (b:ι→Sk (α ⊕ ι)):(Sk.loop d I m i0 u b).bE L=(I i0∧∀ i,I i→(b i).bE (gd L fun j=>I j∧m j < m i)):=rfl
end
section
variable {α β ι : Type} (L : α → Prop)
@[simp] theorem Sk.aby (a:α):(Sk.fin a).dz L=L a:=rfl
@[simp] theorem Sk.acM (e:Bool) (x y:Sk α):(Sk.br e x y).dz L=((e=true→x.dz L)∧(e=false→y.dz L)):=rfl
@[simp] theorem Sk.adl (id:Nat) (c:bD β) (k:β→Sk α):(Sk.r id c k).dz L=(∀ x,x=c.v→c.post x→(k x).dz L):=rfl
@[simp] theorem Sk.acN (t:Nat) (m n:Int) (k:Sk α):(Sk.wi t m n k).dz L=k.dz L:=rfl
@[simp] theorem Sk.abz (t j n:Nat) (k:Sk α):(Sk.Ij t j n k).dz L=k.dz L:=rfl
@[simp] theorem Sk.acO (κ n n':Nat) (k:Sk α):(Sk.wn κ n n' k).dz L=k.dz L:=rfl
@[simp] theorem Sk.abA (k:Sk α):(Sk.K7 k).dz L=k.dz L:=rfl
@[simp] theorem Sk.abB (k:Sk α):(Sk.K8 k).dz L=k.dz L:=rfl
@[simp] theorem Sk.aaW (a:α):(Sk.dead a).dz L=L a:=rfl
@[simp] theorem Sk.abC (t:Nat) (c:Bool) (x y:AV) (k1 k2:Sk α):(Sk.Q5 t c x y k1 k2).dz L=((c=true→k1.dz L)∧(c=false→k2.dz L)):=rfl
@[simp] theorem Sk.abD (t n:Nat) (k1 k2:Sk α):(Sk.O2 t n k1 k2).dz L=k2.dz L:=rfl
@[simp] theorem Sk.abE (id:Nat) (x:Int) (c:pE) (k:Sk α):(Sk.K1 id x c k).dz L=k.dz L:=rfl
@[simp] theorem Sk.acP (κ:Nat) (k:Sk α):(Sk.fz κ k).dz L=k.dz L:=rfl
@[simp] theorem Sk.aaX (b:Bool) (J:β→Prop) (s:Sk (α ⊕ β)) (u:β→Tg) (k:β→Sk α):(Sk.bind b J s u k).dz L=(s.dz (ni L J)∧∀ b,s.val=.inr b→J b→(k b).dz L):=rfl
@[simp] theorem Sk.aaY (d:α) (I:ι→Prop) (m:ι→Nat) (i0:ι) (u:ι→Tg) (b:ι→Sk (α ⊕ ι)):(Sk.loop d I m i0 u b).dz L=(I i0∧∀ i,I i→(b i).dz (gd L fun j=>I j∧m j < m i)):=rfl
end
@[simp] theorem ZR {α β:Type} (L:α→Prop) (J:β→Prop) (a:α):ni L J (.inl a)=L a:=rfl
@[simp] theorem ZS {α β:Type} (L:α→Prop) (J:β→Prop) (b:β):ni L J (.inr b)=J b:=rfl
@[simp] theorem ZT {α β:Type} (L:α→Prop) (J:β→Prop) (a:α):gd L J (.inl a)=L a:=rfl
@[simp] theorem ZU {α β:Type} (L:α→Prop) (J:β→Prop) (b:β):gd L J (.inr b)=J b:=rfl
@[simp] theorem Ss {α β:Type} (a:α) (f:β→α):dZ (.inl a) f=a:=rfl
@[simp] theorem cN {α β:Type} (b:β) (f:β→α):dZ (.inr b) f=f b:=rfl
def Sk.aU:{α:Type}→Sk α→Bool
 | _,.loop ..=>true
 | _,_=>false
def Sk.cV:{α:Type}→Sk α→(α→Prop)→Prop
 | _,.fin a,L=>L a
 | _,.br e x y,L=>(e=true→x.cV L)∧(e=false→y.cV L)
 | _,.r _ c k,L=>∀ x,x=c.v→c.post x→(k x).cV L
 | _,.wi _ _ _ k,L=>k.cV L
 | _,.wn _ _ _ k,L=>k.cV L
 | _,.K7 k,L=>k.cV L
 | _,.K8 k,L=>k.cV L
 | _,.dead a,L=>L a
 | _,.Ij _ _ _ k,L=>k.cV L
 | _,.Q5 _ c _ _ x y,L=>(c=true→x.cV L)∧(c=false→y.cV L)
 | _,.O2 _ _ _ k,L=>k.cV L
 | _,.fz _ k,L=>k.cV L
 | _,.op _ k,L=>(k []).cV L
 | _,.cl _ _ k,L=>k.cV L
 | _,.oq _ q k,L=>(∃ m,q m)∧∀ m,q m→(k m).cV L
 | _,.cq _ _ _ k,L=>k.cV L
 | _,.K1 _ _ _ k,L=>k.cV L
 | _,.mr n V init _ _ b k,L=>V init∧(∀ g i,V g→i < n→(b g i).cV V)∧∀ g,g=(List.range n).foldr (fun i g=>(b g i).val) init→V g→(k g).cV L
 | _,.bind _ J s _ k,L=>s.cV (ni L J)∧∀ b,(s.aU=false→s.val=.inr b)→J b→(k b).cV L
 | _,.loop _ I m i0 _ b,L=>I i0∧∀ i,I i→(b i).cV (gd L fun j=>I j∧m j < m i)
 | _,.rf it I B _ s0 _ _ b k,L=>I 0 s0∧(∀ i s y,I i s→it.ys[i]? = some y→(b s y).cV (gd B (I (i+1))))∧∀ r,gd B (I it.ys.length) r→(k r).cV L
def Sk.j2:{α:Type}→Sk α→(α→Prop)→Prop
 | _,.fin a,L=>L a
 | _,.br e x y,L=>(e=true→x.j2 L)∧(e=false→y.j2 L)
 | _,.r _ c k,L=>c.pre∧∀ x,x=c.v→c.post x→(k x).j2 L
 | _,.wi _ m n k,L=>m=n∧k.j2 L
 | _,.wn _ n n' k,L=>n=n'∧k.j2 L
 | _,.K7 k,L=>k.j2 L
 | _,.K8 k,L=>k.j2 L
 | _,.dead _,_=>False
 | _,.Ij _ _ n k,L=>n≤maxLen→k.j2 L
 | _,.Q5 _ c _ _ x y,L=>(c=true→x.j2 L)∧(c=false→y.j2 L)
 | _,.O2 _ n k1 k2,L=>(n=0→k1.j2 L∧k1.val=k2.val)∧k2.j2 L
 | _,.fz _ k,L=>k.j2 L
 | _,.op _ k,L=>∀ m,(k m).val=(k []).val∧(k m).j2 L
 | _,.cl _ _ k,L=>k.j2 L
 | _,.oq _ q k,L=>∀ m,q m→(k m).val=(k (canon q)).val∧(k m).j2 L
 | _,.cq _ m q k,L=>q m∧k.j2 L
 | _,.K1 _ x c k,L=>(0≤x∧x≤(c.n:Int))∧k.j2 L
 | _,.mr n V init _ _ b k,L=>V init∧(∀ g i,V g→i < n→(b g i).dz V∧(b g i).j2 fun _=>True)∧(∀ g i j,V g→i < n→j < n→i≠j→(b (b g j).val i).val=(b (b g i).val j).val)∧∀ g,g=(List.range n).foldr (fun i g=>(b g i).val) init→V g→(k g).j2 L
 | _,.bind _ J s _ k,L=>s.j2 (ni L J)∧∀ b,(s.aU=false→s.val=.inr b)→J b→(k b).j2 L
 | _,.loop _ I m i0 _ b,L=>I i0∧∀ i,I i→(b i).j2 (gd L fun j=>I j∧m j < m i)
 | _,.rf it I B _ s0 _ _ b k,L=>it.pre∧I 0 s0∧(∀ i s y,I i s→it.ys[i]? = some y→(b s y).cV (gd B (I (i+1)))∧(b s y).j2 (gd B (I (i+1))))∧∀ r,gd B (I it.ys.length) r→(k r).j2 L
theorem Sk.bq:{α:Type}→(s:Sk α)→{L:α→Prop}→s.cV L→s.dz L
 | _,.fin _,_,h=>h
 | _,.br _ x y,_,h=>⟨fun e=>x.bq (h.1 e),fun e=>y.bq (h.2 e)⟩
 | _,.r _ _ k,_,h=>fun x e p=>(k x).bq (h x e p)
 | _,.wi _ _ _ k,L,h=>k.bq (L:=L) h
 | _,.wn _ _ _ k,L,h=>k.bq (L:=L) h
 | _,.K7 k,L,h=>k.bq (L:=L) h
 | _,.K8 k,L,h=>k.bq (L:=L) h
 | _,.dead _,_,h=>h
 | _,.Ij _ _ _ k,L,h=>k.bq (L:=L) h
 | _,.Q5 _ _ _ _ x y,_,h=>⟨fun e=>x.bq (h.1 e),fun e=>y.bq (h.2 e)⟩
 | _,.O2 _ _ _ k,L,h=>k.bq (L:=L) h
 | _,.fz _ k,L,h=>k.bq (L:=L) h
 | _,.op _ k,L,h=>(k []).bq (L:=L) h
 | _,.cl _ _ k,L,h=>k.bq (L:=L) h
 | _,.oq _ _ k,L,h=>⟨h.1,fun m hm=>(k m).bq (L:=L) (h.2 m hm)⟩
 | _,.cq _ _ _ k,L,h=>k.bq (L:=L) h
 | _,.K1 _ _ _ k,L,h=>k.bq (L:=L) h
 | _,.mr _ _ _ _ _ b k,_,h=>⟨h.1,fun g i hg hi=>(b g i).bq (h.2.1 g i hg hi),fun g e hg=>(k g).bq (h.2.2 g e hg)⟩
 | _,.bind _ _ s _ k,_,h=>⟨s.bq h.1,fun b e hb=>(k b).bq (h.2 b (fun _=>e) hb)⟩
 | _,.loop _ _ _ _ _ b,_,h=>⟨h.1,fun i hi=>(b i).bq (h.2 i hi)⟩
 | _,.rf _ _ _ _ _ _ _ b k,_,h=>⟨h.1,fun i s y hs hy=>(b s y).bq (h.2.1 i s y hs hy),fun r _ hr=>(k r).bq (h.2.2 r hr)⟩
theorem Sk.bm:{α:Type}→(s:Sk α)→{L:α→Prop}→s.j2 L→s.bE L
 | _,.fin _,_,h=>h
 | _,.br _ x y,_,h=>⟨fun e=>x.bm (h.1 e),fun e=>y.bm (h.2 e)⟩
 | _,.r _ _ k,_,h=>⟨h.1,fun x e p=>(k x).bm (h.2 x e p)⟩
 | _,.wi _ _ _ k,L,h=>⟨h.1,k.bm (L:=L) h.2⟩
 | _,.wn _ _ _ k,L,h=>⟨h.1,k.bm (L:=L) h.2⟩
 | _,.K7 k,L,h=>k.bm (L:=L) h
 | _,.K8 k,L,h=>k.bm (L:=L) h
 | _,.dead _,_,h=>h.elim
 | _,.Ij _ _ _ k,L,h=>fun hn=>k.bm (L:=L) (h hn)
 | _,.Q5 _ _ _ _ x y,_,h=>⟨fun e=>x.bm (h.1 e),fun e=>y.bm (h.2 e)⟩
 | _,.O2 _ _ k1 k2,L,h=>⟨fun e=>⟨k1.bm (L:=L) (h.1 e).1,(h.1 e).2⟩,k2.bm (L:=L) h.2⟩
 | _,.fz _ k,L,h=>k.bm (L:=L) h
 | _,.op _ k,L,h=>fun m=>⟨(h m).1,(k m).bm (h m).2⟩
 | _,.cl _ _ k,L,h=>k.bm (L:=L) h
 | _,.oq _ _ k,L,h=>fun m hm=>⟨(h m hm).1,(k m).bm (h m hm).2⟩
 | _,.cq _ _ _ k,L,h=>⟨h.1,k.bm (L:=L) h.2⟩
 | _,.K1 _ _ _ k,L,h=>⟨h.1,k.bm (L:=L) h.2⟩
 | _,.mr _ _ _ _ _ b k,_,h=>⟨h.1,fun g i hg hi=>⟨(h.2.1 g i hg hi).1,(b g i).bm (h.2.1 g i hg hi).2⟩,h.2.2.1,fun g e hg=>(k g).bm (h.2.2.2 g e hg)⟩
 | _,.bind _ _ s _ k,_,h=>⟨s.bm h.1,fun b e hb=>(k b).bm (h.2 b (fun _=>e) hb)⟩
 | _,.loop _ _ _ _ _ b,_,h=>⟨h.1,fun i hi=>(b i).bm (h.2 i hi)⟩
 | _,.rf _ _ _ _ _ _ _ b k,_,h=>⟨h.1,h.2.1,fun i s y hs hy=>⟨(b s y).bq (h.2.2.1 i s y hs hy).1,(b s y).bm (h.2.2.1 i s y hs hy).2⟩,fun r _ hr=>(k r).bm (h.2.2.2 r hr)⟩
theorem mV {α:Type} (l:List α) {i:Nat} (h:i < l.length) (x d:α):(l.set i x).getD i d=x:=by simp [List.getD,h]
theorem mW {α:Type} (l:List α) {i j:Nat} (h:j≠i) (x d:α):(l.set i x).getD j d=l.getD j d:=by simp [List.getD,List.getElem?_set_ne (fun e=>h e.symm)]
def walk {α σ β:Type} (step:α→σ→β ⊕ σ) (fin:σ→β):List α→σ→β
 | [],s=>fin s
 | x :: r,s=>match step x s with
  | .inl b=>b
  | .inr s'=>walk step fin r s'
theorem iter_walk {α σ β ι:Type} [Inhabited α] (l:List α) (pack:σ→Nat→ι) {f:ι→β ⊕ ι} {d:β} (step:α→σ→β ⊕ σ) (fin:σ→β)
  (hs:∀ s i,i < l.length→f (pack s i)=match step (l.getD i default) s with | .inl b=>.inl b | .inr s'=>.inr (pack s' (i+1)))
  (he:∀ s,f (pack s l.length)=.inl (fin s)):∀ (n i:Nat) (s:σ),i≤l.length→l.length - i < n→iter f d n (pack s i)=walk step fin (l.drop i) s
 | 0,i,s,_,hn=>absurd hn (by omega)
 | n+1,i,s,hi,hn=>by
  simp only [iter]
  by_cases h:i < l.length
  ·rw [hs s i h,List.drop_eq_getElem_cons h,show l.getD i default=l[i] from by simp [List.getD,h]]
   simp only [walk]
   cases mG:step l[i] s with
   | inl b=>rfl
   | inr s'=>exact iter_walk l pack step fin hs he n (i+1) s' h (by omega)
  ·obtain rfl:i=l.length:=by omega
   rw [he s,List.drop_length]
   rfl
theorem jC {α σ β ι:Type} [Inhabited α] (l:List α) (pack:σ→Nat→ι) {f:ι→β ⊕ ι} {d:β} (step:α→σ→β ⊕ σ) (fin:σ→β)
  (hs:∀ s i,i < l.length→f (pack s i)=match step (l.getD i default) s with | .inl b=>.inl b | .inr s'=>.inr (pack s' (i+1)))
  (he:∀ s,f (pack s l.length)=.inl (fin s)) {n:Nat} (hn:l.length < n) (s:σ):iter f d n (pack s 0)=walk step fin l s:=by
 have:=iter_walk (d:=d) l pack step fin hs he n 0 s (Nat.zero_le _) (by omega)
 simpa using this
theorem gZ {α σ β:Type} (g:α→σ→σ) (fin:σ→β):∀ (l:List α) (s:σ),walk (fun x s=>.inr (g x s)) fin l s=fin (l.foldl (fun s x=>g x s) s)
 | [],_=>rfl
 | x :: r,s=>by simp only [walk,List.foldl_cons]; exact gZ g fin r (g x s)
theorem ic {α:Type} {l:List α} {i:Nat} (h:i < l.length) (d:α):l.getD i d∈l:=by
 rw [show l.getD i d=l[i] from by simp [List.getD,h]]
 exact List.getElem_mem h
theorem mX {α:Type} [Inhabited α] (L:List α) (lo n:Nat):(fI L lo n).length=n:=by simp [fI]
theorem Gx (n:Int):IntKind.u64.wrap n=n % 18446744073709551616:=rfl
theorem ma (n:Int):0≤IntKind.u64.wrap n∧IntKind.u64.wrap n < 18446744073709551616:=by
 rw [Gx]; omega
theorem fR {n:Int} (h:0≤n) (h2:n < 18446744073709551616):IntKind.u64.wrap n=n:=by
 rw [Gx]; omega
theorem J8 (n:Int):IntKind.u8.wrap n=n % 256:=rfl
theorem CS {a b:Int} (k:IntKind) (h:0≤b∧b≤k.bits):dt k a b=a / 2 ^ b.toNat:=by
 unfold dt
 rw [Nat.min_eq_left (by omega),Int.fdiv_eq_ediv_of_nonneg _ (Int.le_of_lt (Int.pow_pos (by omega)))]
theorem PO {a b:Int} (h:0≤b∧b≤64):eK .u64 a b=(a * 2 ^ b.toNat) % 18446744073709551616:=by
 unfold eK
 have:IntKind.u64.bits=64:=rfl
 rw [this,Nat.min_eq_left (by omega),Gx]
theorem LN:(∀ (p:Prop) [Decidable p],(decide p=true)=p)∧(∀ (p:Prop) [Decidable p],decide p=false↔¬ p) ∧
  (∀ (α:Type) (a b:List α),(a++b).length=a.length+b.length)∧(∀ (α:Type) (x:α) (a:List α),(x :: a).length=a.length+1)∧(∀ α:Type,([]:List α).length=0) ∧
  (∀ (α:Type) (a:List α) (i:Nat) (x:α),(a.set i x).length=a.length)∧(∀ (α:Type) (n:Nat) (x:α),(List.replicate n x).length=n) ∧
  (∀ b:Bool,(¬ b=true)=(b=false))∧(∀ b:Bool,(¬ b=false)=(b=true))∧(∀ a b:Int,¬ a < b↔b≤a)∧(∀ a b:Int,¬ a≤b↔b < a) ∧
  (∀ a b:Bool,((a&&b)=true)=(a=true∧b=true))∧(∀ a b:Bool,((a||b)=true)=(a=true∨b=true))∧(∀ a b:Bool,(a&&b)=false↔a=false∨b=false)∧(∀ a b:Bool,(a||b)=false↔a=false∧b=false) ∧
  (∀ a b:Bool,(!a)=b↔a = !b)∧((!true)=false)∧((!false)=true) ∧
  (∀ (α:Type) [BEq α] [LawfulBEq α] (a b:α),(a == b)=true↔a=b)∧(∀ (α:Type) [BEq α] [LawfulBEq α] (a b:α),(a != b)=true↔a≠b) ∧
  (∀ (α:Type) [BEq α] [LawfulBEq α] (a b:α),(a == b)=false↔a≠b)∧(∀ (α:Type) [BEq α] [LawfulBEq α] (a b:α),(a != b)=false↔a=b) ∧
  (∀ (α:Type) (a b:α),(a≠b) = ¬ a=b)∧(∀ (α:Type) [Inhabited α] (L:List α) (lo n:Nat),(fI L lo n).length=n) :=
 ⟨fun _ _=>decide_eq_true_eq,fun _ _=>decide_eq_false_iff_not,fun _ _ _=>List.length_append,fun _ _ _=>rfl,fun _=>rfl,fun _ _ _ _=>List.length_set,fun _ _ _=>List.length_replicate,
  Bool.not_eq_true,Bool.not_eq_false,fun _ _=>Int.not_lt,fun _ _=>Int.not_le,Bool.and_eq_true,Bool.or_eq_true,fun _ _=>Bool.and_eq_false_iff,fun _ _=>Bool.or_eq_false_iff,
  fun _ _=>Bool.not_eq_eq_eq_not,rfl,rfl,fun _ _ _ _ _=>beq_iff_eq,fun _ _ _ _ _=>bne_iff_ne,fun _ _ _ _ _=>beq_eq_false_iff_ne,fun _ _ _ _ _=>bne_eq_false_iff_eq,fun _ _ _=>rfl,fun _ _=>mX⟩
theorem ON:(∀ (x:Unit),bD.z.post x=True) ∧
 (∀ (p:Prop) (x:Unit),(bD.p p).post x=True) ∧
 (∀ {p:Prop} (h:p) (x:Unit),(bD.t h).post x=True) ∧
 (∀ (p:Prop) {q:Prop} (h:q) (x:Unit),(bD.pt p h).post x=True) ∧
 (∀ (l:List zP) (x:Unit),(bD.o l).post x=True) ∧
 (∀ {α β:Type} (a:bD α) (b:bD β) (x:α × β),(a.and b).post x=(a.post x.1∧b.post x.2)) ∧
 (∀ {β:Type} (a:bD Unit) (b:bD β) (x:β),(a.au b).post x=b.post x) ∧
 (∀ {β:Type} (a:bD β) (b:bD Unit) (x:β),(a.zX b).post x=a.post x) ∧
 (∀ {β:Type} (e w:Bool) (a:bD β) (x:β),(a.wh e w).post x=a.post x) ∧
 (∀ {α β:Type} (a:bD α) (b:α→bD β) (x:α × β),(a.dep b).post x=(a.post x.1∧(b x.1).post x.2)) ∧
 (∀ {α:Type} (a:bD α) (b:α→bD Unit) (x:α),(a.fA b).post x=a.post x) ∧
 (∀ {β:Type} (c:eo β) (x:β),c.c.post x=c.post x) ∧
 (∀ {β:Type} (c:eo β) (i:Nat) (h:∃ g,c.args[i]? = some (.d (.sl 0 g))) (x:β),(c.nil i h).post x=c.post x) ∧
 (∀ {β:Type} (c:eo β) (i j:Nat) (cs:List D) (h:c.args[i]? = some (.d (.agg cs))) (h2:∃ g,cs[j]? = some (.sl 0 g)) (x:β),(c.zc i j cs h h2).post x=c.post x) ∧
 (bD.z.pre=True) ∧
 (∀ (p:Prop),(bD.p p).pre=p) ∧
 (∀ {p:Prop} (h:p),(bD.t h).pre=True) ∧
 (∀ (p:Prop) {q:Prop} (h:q),(bD.pt p h).pre=p) ∧
 (∀ (l:List zP),(bD.o l).pre=True) ∧
 (∀ {α β:Type} (a:bD α) (b:bD β),(a.and b).pre=(a.pre∧b.pre)) ∧
 (∀ {β:Type} (a:bD Unit) (b:bD β),(a.au b).pre=(a.pre∧b.pre)) ∧
 (∀ {β:Type} (a:bD β) (b:bD Unit),(a.zX b).pre=(a.pre∧b.pre)) ∧
 (∀ {β:Type} (e w:Bool) (a:bD β),(a.wh e w).pre=(e=w→a.pre)) ∧
 (∀ {α β:Type} (a:bD α) (b:α→bD β),(a.dep b).pre=(a.pre∧∀ x,x=a.v→a.post x→(b x).pre)) ∧
 (∀ {α:Type} (a:bD α) (b:α→bD Unit),(a.fA b).pre=(a.pre∧∀ x,x=a.v→a.post x→(b x).pre)) ∧
 (∀ {α β:Type} (a:bD α) (b:α→bD β),(a.dep b).v=(a.v,(b a.v).v)) ∧
 (∀ {α:Type} (a:bD α) (b:α→bD Unit),(a.fA b).v=a.v) ∧
 (∀ {β:Type} (c:eo β),c.c.pre=c.pre) ∧
 (∀ {β:Type} (c:eo β),c.c.v=c.v) ∧
 (∀ {β:Type} (c:eo β) (i:Nat) (h:∃ g,c.args[i]? = some (.d (.sl 0 g))),(c.nil i h).pre=c.pre) ∧
 (∀ {β:Type} (c:eo β) (i:Nat) (h:∃ g,c.args[i]? = some (.d (.sl 0 g))),(c.nil i h).v=c.v) ∧
 (∀ {β:Type} (c:eo β) (i j:Nat) (cs:List D) (h:c.args[i]? = some (.d (.agg cs))) (h2:∃ g,cs[j]? = some (.sl 0 g)),(c.zc i j cs h h2).pre=c.pre) ∧
 (∀ {β:Type} (c:eo β) (i j:Nat) (cs:List D) (h:c.args[i]? = some (.d (.agg cs))) (h2:∃ g,cs[j]? = some (.sl 0 g)),(c.zc i j cs h h2).v=c.v) ∧
 (∀ {α β:Type} (a:bD α) (b:bD β),(a.and b).v=(a.v,b.v)) ∧
 (∀ {β:Type} (a:bD Unit) (b:bD β),(a.au b).v=b.v) ∧
 (∀ {β:Type} (a:bD β) (b:bD Unit),(a.zX b).v=a.v) ∧
 (∀ {β:Type} (e w:Bool) (a:bD β),(a.wh e w).v=a.v) ∧
 (∀ {β:Type} (c:jg β),c.c.pre=c.pre) ∧
 (∀ {β:Type} (c:jg β),c.c.v=c.v) ∧
 (∀ {β:Type} (c:jg β) (i:Nat) (h:∃ g,c.args[i]? = some (.d (.sl 0 g))),(c.nil i h).pre=c.pre) ∧
 (∀ {β:Type} (c:jg β) (i:Nat) (h:∃ g,c.args[i]? = some (.d (.sl 0 g))),(c.nil i h).v=c.v) ∧
 (∀ {β:Type} (c:jg β) (x:β),c.c.post x=c.post x) ∧
 (∀ {β:Type} (c:jg β) (i:Nat) (h:∃ g,c.args[i]? = some (.d (.sl 0 g))) (x:β),(c.nil i h).post x=c.post x) ∧
 (∀ {α β:Type} (L:α→Prop) (J:β→Prop) (a:α),ni L J (.inl a)=L a) ∧
 (∀ {α β:Type} (L:α→Prop) (J:β→Prop) (b:β),ni L J (.inr b)=J b) ∧
 (∀ {α β:Type} (L:α→Prop) (J:β→Prop) (a:α),gd L J (.inl a)=L a) ∧
 (∀ {α β:Type} (L:α→Prop) (J:β→Prop) (b:β),gd L J (.inr b)=J b) ∧
 (∀ (i:Int) (n:Nat),bz i n=(0≤i∧i < (n:Int))) ∧
 (∀ n m bytes:Nat,zb n m bytes=(n+m≤maxLen∧(n+m) * bytes≤140737488355328)) ∧
 (∀ (n:Int) (bytes:Nat),PL n bytes=(0≤n∧n.toNat≤maxLen∧n.toNat * bytes≤140737488355328)) ∧
 (∀ α:Prop,(α→True)=True) ∧
 (∀ α:Type,(α→True)=True) ∧
 (∀ p:Prop,(True∧p)=p) ∧
 (∀ p:Prop,(p∧True)=p) ∧
 (∀ p:Prop,(p∧p)=p) ∧
 (∀ p:Prop,(True→p)=p) ∧
 (∀ p:Prop,(False→p)=True):=by
 refine ⟨?_,?_,?_,?_,?_,?_,?_,?_,?_,?_,?_,?_,?_,?_,?_,?_,?_,?_,?_,?_,?_,?_,?_,?_,?_,?_,?_,?_,?_,?_,?_,?_,?_,?_,?_,?_,?_,?_,?_,?_,?_,?_,?_,?_,?_,?_,?_,?_,?_,?_,?_,?_,?_,?_,?_,?_,?_⟩
 all_goals first | rfl | (intros; rfl) | (intros; simp)
def kk {P:Program} {T:List (Nat × TI)} (hT:mP P T) (hm:P.follows .mixedOrders=true) {f:FuncId} {fn:Func} (hf:P.funcs[f]? = some fn) (args:List AV) {α:Type} (enc:α→AV) (fl:Bool) (s:Sk α) (v:α) {pre:Prop} (ok:pre→s.bE fun _=>True)
  (post:α→Prop:=fun _=>True) (hp:post v:=by trivial) (hv:v=s.val:=by exact id rfl) (n:Nat:=3000) (hb:fn.body.isSome=true:=by exact id (by kernel_rfl)) (hc:(ib P f&&Nat.ble args.length fn.ntmps)=true:=by exact id (by kernel_rfl))
  (h:nj P T fn.ntmps fn.results.toList (Bo fn.results.toList) 0 [] n [.code (fn.body.get hb)] ⟨fm 0 args,[]⟩ (fun a=>.ret (enc a) []) s=(nj P T fn.ntmps fn.results.toList (Bo fn.results.toList) 0 [] n [.code (fn.body.get hb)] ⟨fm 0 args,[]⟩ (fun a=>.ret (enc a) []) s).diag:=by exact id (by kernel_rfl)):eo α :=
 ⟨P,f,args,enc,fl,v,pre,fun hp=>hv ▸ iU.sk hT hm enc (fun _=>[]) hf (Option.some_get hb).symm hc n s h (ok hp),post,hp⟩
theorem u0 {c:Prop} (f:c) (_:True):c:=f
theorem u2 {a b c:Prop} (f:a→b→c) (h:a∧b):c:=f h.1 h.2
theorem u3 {a b c d:Prop} (f:a→b→c→d) (h:a∧b∧c):d:=f h.1 h.2.1 h.2.2
theorem u4 {a b c d e:Prop} (f:a→b→c→d→e) (h:a∧b∧c∧d):e:=f h.1 h.2.1 h.2.2.1 h.2.2.2
theorem u5 {a b c d e g:Prop} (f:a→b→c→d→e→g) (h:a∧b∧c∧d∧e):g:=f h.1 h.2.1 h.2.2.1 h.2.2.2.1 h.2.2.2.2
def kp {P:Program} {T:List (Nat × TI)} (hT:mP P T) (hm:P.follows .mixedOrders=true) {f:FuncId} {fn:Func} (hf:P.funcs[f]? = some fn) (args:List AV) {α:Type} (enc:α→AV) (fl:Bool) {s:Sk α} (v:α) {pre:Prop} (ok:pre→s.bE fun _=>True)
  {post:α→Prop} (hq:s.dz post) (hv:v=s.val:=by exact id rfl) (n:Nat:=3000) (hb:fn.body.isSome=true:=by exact id (by kernel_rfl)) (hc:(ib P f&&Nat.ble args.length fn.ntmps)=true:=by exact id (by kernel_rfl))
  (h:nj P T fn.ntmps fn.results.toList (Bo fn.results.toList) 0 [] n [.code (fn.body.get hb)] ⟨fm 0 args,[]⟩ (fun a=>.ret (enc a) []) s=(nj P T fn.ntmps fn.results.toList (Bo fn.results.toList) 0 [] n [.code (fn.body.get hb)] ⟨fm 0 args,[]⟩ (fun a=>.ret (enc a) []) s).diag:=by exact id (by kernel_rfl)):eo α :=
 ⟨P,f,args,enc,fl,v,pre,fun hp=>hv ▸ iU.sk hT hm enc (fun _=>[]) hf (Option.some_get hb).symm hc n s h (ok hp),post,hv ▸ Sk.dA s hq⟩
@[simp] theorem ady {P:Program} {T:List (Nat × TI)} (hT:mP P T) (hm:P.follows .mixedOrders=true) {f:FuncId} {fn:Func} (hf:P.funcs[f]? = some fn) (args:List AV) {α:Type} (enc:α→AV) (fl:Bool) (s:Sk α) (v:α) {pre:Prop} (ok:pre→s.bE fun _=>True) (post:α→Prop) (hp:post v) (hv:v=s.val) (n:Nat) (hb:fn.body.isSome=true) (hc:(ib P f&&Nat.ble args.length fn.ntmps)=true) (h:nj P T fn.ntmps fn.results.toList (Bo fn.results.toList) 0 [] n [.code (fn.body.get hb)] ⟨fm 0 args,[]⟩ (fun a=>.ret (enc a) []) s=(nj P T fn.ntmps fn.results.toList (Bo fn.results.toList) 0 [] n [.code (fn.body.get hb)] ⟨fm 0 args,[]⟩ (fun a=>.ret (enc a) []) s).diag):(kk hT hm hf args enc fl s v ok post hp hv n hb hc h).v=v:=rfl
@[simp] theorem acQ {P:Program} {T:List (Nat × TI)} (hT:mP P T) (hm:P.follows .mixedOrders=true) {f:FuncId} {fn:Func} (hf:P.funcs[f]? = some fn) (args:List AV) {α:Type} (enc:α→AV) (fl:Bool) (s:Sk α) (v:α) {pre:Prop} (ok:pre→s.bE fun _=>True) (post:α→Prop) (hp:post v) (hv:v=s.val) (n:Nat) (hb:fn.body.isSome=true) (hc:(ib P f&&Nat.ble args.length fn.ntmps)=true) (h:nj P T fn.ntmps fn.results.toList (Bo fn.results.toList) 0 [] n [.code (fn.body.get hb)] ⟨fm 0 args,[]⟩ (fun a=>.ret (enc a) []) s=(nj P T fn.ntmps fn.results.toList (Bo fn.results.toList) 0 [] n [.code (fn.body.get hb)] ⟨fm 0 args,[]⟩ (fun a=>.ret (enc a) []) s).diag):(kk hT hm hf args enc fl s v ok post hp hv n hb hc h).pre=pre:=rfl
@[simp] theorem abF {P:Program} {T:List (Nat × TI)} (hT:mP P T) (hm:P.follows .mixedOrders=true) {f:FuncId} {fn:Func} (hf:P.funcs[f]? = some fn) (args:List AV) {α:Type} (enc:α→AV) (fl:Bool) (s:Sk α) (v:α) {pre:Prop} (ok:pre→s.bE fun _=>True) (post:α→Prop) (hp:post v) (hv:v=s.val) (n:Nat) (hb:fn.body.isSome=true) (hc:(ib P f&&Nat.ble args.length fn.ntmps)=true) (h:nj P T fn.ntmps fn.results.toList (Bo fn.results.toList) 0 [] n [.code (fn.body.get hb)] ⟨fm 0 args,[]⟩ (fun a=>.ret (enc a) []) s=(nj P T fn.ntmps fn.results.toList (Bo fn.results.toList) 0 [] n [.code (fn.body.get hb)] ⟨fm 0 args,[]⟩ (fun a=>.ret (enc a) []) s).diag):(kk hT hm hf args enc fl s v ok post hp hv n hb hc h).post=post:=rfl
theorem aaZ {p:Prop} (h:p:=by
 all_goals (repeat' first | assumption | (apply And.intro) | (intro h))
 all_goals first | trivial | assumption | omega | ((try simp only [LN] at *) <;> first | omega | (refine (az ?_ ?_).trans ?_ <;> omega) | (simp (disch:=omega) only [az] at *; omega) | (grind) | (simp (disch:=omega) only [az] at *; grind) | (simp_all; done) | (simp_all; omega))):p:=h
theorem mY {p:Prop} (h:p:=by
 refine Sk.bm _ ?_
 simp only [Sk.j2,Sk.aU,reduceCtorEq,ni,gd,bD.z,bD.p,bD.t,bD.pt,bD.o,bD.and,bD.au,bD.zX,bD.wh,bD.dep,bD.fA,eo.c,kk,kp,eo.nil,eo.zc,jg.c,jg.nil,Sk.dz,Sk.cV,maxLen,implies_true,true_and,and_true,and_self,true_implies,false_implies,bz,zb,PL]):p:=h
theorem oj {p:Prop} (h:p:=by
 refine Sk.bm _ ?_
 simp only [Sk.j2,Sk.aU,reduceCtorEq,ni,gd,bD.z,bD.p,bD.t,bD.pt,bD.o,bD.and,bD.au,bD.zX,bD.wh,bD.dep,bD.fA,eo.c,kk,kp,eo.nil,eo.zc,jg.c,jg.nil,Sk.dz,Sk.cV,maxLen,implies_true,true_and,and_true,and_self,true_implies,false_implies,bz,zb,PL]
 all_goals (repeat' first | assumption | (apply And.intro) | (intro h))
 all_goals first | trivial | assumption | omega | ((try simp only [LN] at *) <;> first | omega | (refine (az ?_ ?_).trans ?_ <;> omega) | (simp (disch:=omega) only [az] at *; omega) | (grind) | (simp_all; done) | (simp_all; omega))):p:=h
theorem qJ {p:Prop} (h:p:=by
 refine Sk.bm _ ?_
 simp only [Sk.j2,Sk.aU,reduceCtorEq,ni,gd,bD.z,bD.p,bD.t,bD.pt,bD.o,bD.and,bD.au,bD.zX,bD.wh,bD.dep,bD.fA,eo.c,kk,kp,eo.nil,eo.zc,jg.c,jg.nil,Sk.dz,Sk.cV,forall_eq,Sum.forall,maxLen,implies_true,true_and,and_true,and_self,true_implies,false_implies,bz,zb,PL]
 all_goals (repeat' first | assumption | (apply And.intro) | (intro h))
 all_goals first | trivial | assumption | omega | ((try simp only [LN] at *) <;> first | omega | (refine (az ?_ ?_).trans ?_ <;> omega) | (simp (disch:=omega) only [az] at *; omega) | (grind) | (simp_all; done) | (simp_all; omega))):p:=h
theorem Rg {p:Prop} (h:p:=by
 refine Sk.bq _ ?_
 simp only [Sk.aU,reduceCtorEq,ni,gd,bD.z,bD.p,bD.t,bD.pt,bD.o,bD.and,bD.au,bD.zX,bD.wh,bD.dep,bD.fA,eo.c,kk,kp,eo.nil,eo.zc,jg.c,jg.nil,Sk.cV,maxLen,implies_true,true_and,and_true,and_self,true_implies,false_implies,bz,zb,PL]
 all_goals (repeat' first | assumption | (apply And.intro) | (intro h))
 all_goals first | trivial | assumption | omega | ((try simp only [LN] at *) <;> first | omega | (refine (az ?_ ?_).trans ?_ <;> omega) | (simp (disch:=omega) only [az] at *; omega) | (grind) | (simp_all; done) | (simp_all; omega))):p:=h
theorem Su {p:Prop} (h:p:=by
 refine Sk.bq _ ?_
 simp only [Sk.aU,reduceCtorEq,ni,gd,bD.z,bD.p,bD.t,bD.pt,bD.o,bD.and,bD.au,bD.zX,bD.wh,bD.dep,bD.fA,eo.c,kk,kp,eo.nil,eo.zc,jg.c,jg.nil,Sk.cV,forall_eq,Sum.forall,maxLen,implies_true,true_and,and_true,and_self,true_implies,false_implies,bz,zb,PL]
 all_goals (repeat' first | assumption | (apply And.intro) | (intro h))
 all_goals first | trivial | assumption | omega | ((try simp only [LN] at *) <;> first | omega | (refine (az ?_ ?_).trans ?_ <;> omega) | (simp (disch:=omega) only [az] at *; omega) | (grind) | (simp_all; done) | (simp_all; omega))):p:=h
theorem PQ {α σ β:Type} {step:α→σ→β ⊕ σ} {I:Nat→σ→Prop} {Q:β→Prop}:∀ (l:List α) (k0:Nat) (s:σ),(∀ k x s,x∈l→I k s→match step x s with | .inl b=>Q b | .inr s'=>I (k+1) s')→I k0 s →
  (∃ b,Q b∧∀ fin,walk step fin l s=b)∨∃ s',I (k0+l.length) s'∧∀ fin,walk step fin l s=fin s'
 | [],k0,s,_,h0=>.inr ⟨s,h0,fun _=>rfl⟩
 | x :: r,k0,s,h,h0=>by
  have hx:=h k0 x s (by simp) h0
  simp only [walk]
  cases hs:step x s with
  | inl b=>rw [hs] at hx; exact .inl ⟨b,hx,fun _=>rfl⟩
  | inr s' =>
   rw [hs] at hx
   rcases PQ r (k0+1) s' (fun k y t hy=>h k y t (List.mem_cons_of_mem _ hy)) hx with ⟨b,q,e⟩ | ⟨t,q,e⟩
   ·exact .inl ⟨b,q,e⟩
   ·exact .inr ⟨t,by rw [List.length_cons,show k0+(r.length+1)=k0+1+r.length by omega]; exact q,e⟩
theorem a9 {α σ γ δ ι:Type} [Inhabited α] (l:List α) (pack:σ→Nat→ι) {f:ι→(γ ⊕ δ) ⊕ ι} {d:γ ⊕ δ} (step:α→σ→γ ⊕ σ) (fin:σ→δ) (g:δ→γ)
  (hs:∀ s i,i < l.length→f (pack s i)=match step (l.getD i default) s with | .inl b=>.inl (.inl b) | .inr s'=>.inr (pack s' (i+1)))
  (he:∀ s,f (pack s l.length)=.inl (.inr (fin s))) {n:Nat} (hn:l.length < n) (s:σ):dZ (iter f d n (pack s 0)) g=walk step (fun s=>g (fin s)) l s:=by
 rw [jC (d:=d) l pack (fun x s=>match step x s with | .inl b=>.inl (.inl b) | .inr s'=>.inr s') (fun s=>.inr (fin s)) (fun s i hi=>by rw [hs s i hi]; cases step (l.getD i default) s <;> rfl) he hn s]
 clear hs he
 induction l generalizing s with
 | nil=>rfl
 | cons x r ih =>
  simp only [walk]
  cases step x s with
  | inl b=>rfl
  | inr s'=>exact ih (by simp at hn; omega) s'
end Go.Av
