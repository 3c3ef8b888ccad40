/- The abstract values by which Go code is read: pure data, blocks of the call's own, and what a frame and a world must have to do with them. No program in sight. -/
import Derived.WalkKit
set_option linter.unusedSimpArgs false
set_option linter.unusedVariables false
namespace Go.Av
open Go
def scalar:Value→Bool
 | .bool _ | .int _ _ | .string _ | .nilFunc | .nilIface | .pointer none | .map none | .slice none 0 0=>true
 | _=>false
inductive D where
 | v (x:Value)
 | agg (cs:List D)
 | sl (n:Nat) (f:Nat→List D)
instance:Inhabited D:=⟨.v (.bool false)⟩
inductive Rd (w:World) (S:Nat→Prop):D→Value→Prop
 | v (x:Value) (h:scalar x=true):Rd w S (.v x) x
 | agg (cs:List D) (vs:Array Value) (hl:vs.size=cs.length) (h:∀ i,i < cs.length→Rd w S (cs.getD i default) (vs.getD i undef)):Rd w S (.agg cs) (.agg vs)
 | nil (f:Nat→List D):Rd w S (.sl 0 f) (.slice none 0 0)
 | sl (n:Nat) (f:Nat→List D) (a:Addr) (cap k:Nat) (vals:Nat→Nat→Value) (hc:n≤cap) (hm:cap≤maxLen) (hs:n=0∨a.spot=none)
   (hk:∀ i,i < n→(f i).length=k)
   (hcell:∀ i j,i < n→j < k→S a.block∧w.cell? ⟨a.block,a.off+(i * k+j),none⟩=some (vals i j))
   (h:∀ i j,i < n→j < k→Rd w S ((f i).getD j default) (vals i j)):Rd w S (.sl n f) (.slice (some a) n cap)
theorem Rd.mono {w w':World} {S S':Nat→Prop} (hS:∀ b,S b→S' b) (hw:∀ b,S b→w'.heap[b]? = w.heap[b]?) {d:D} {x:Value} (h:Rd w S d x):Rd w' S' d x:=by
 induction h with
 | v x h=>exact .v x h
 | agg cs vs hl h ih=>exact .agg cs vs hl ih
 | nil f=>exact .nil f
 | sl n f a cap k vals hc hm hs hk hcell h ih =>
  refine .sl n f a cap k vals hc hm hs hk (fun i j hi hj=>?_) ih
  obtain ⟨h1,h2⟩:=hcell i j hi hj
  exact ⟨hS _ h1,by rw [← h2]; exact World.cell?_of_block (hw _ h1)⟩
def DLe (d d':D):Prop:=∀ w S x,Rd w S d x→Rd w S d' x
theorem DLe.rfl' {d:D}:DLe d d:=fun _ _ _ h=>h
theorem DLe.of_eq {d d':D} (h:d=d'):DLe d d':=h ▸ DLe.rfl'
theorem DLe.trans {a b c:D} (h:DLe a b) (k:DLe b c):DLe a c:=fun w S x r=>k w S x (h w S x r)
theorem DLe.sl {n m:Nat} {f g:Nat→List D} (hn:n=m) (he:∀ i,i < n→f i=g i):DLe (.sl n f) (.sl m g):=by
 subst hn
 intro w S x h
 cases h with
 | nil=>exact .nil g
 | sl _ _ a cap k vals hc hm hs hk hcell h =>
  exact .sl n g a cap k vals hc hm hs (fun i hi=>by rw [← he i hi]; exact hk i hi) hcell (fun i j hi hj=>by rw [← he i hi]; exact h i j hi hj)
theorem DLe.nil (g:Nat→List D):DLe (.v (.slice none 0 0)) (.sl 0 g):=by
 intro w S x h
 cases h with
 | v=>exact .nil g
theorem DLe.agg {cs ds:List D} (hl:cs.length=ds.length) (he:∀ i,i < cs.length→DLe (cs.getD i default) (ds.getD i default)):DLe (.agg cs) (.agg ds):=by
 intro w S x h
 cases h with
 | agg _ vs hv h=>exact .agg ds vs (hv.trans hl) (fun i hi=>he i (by omega) w S _ (h i (by omega)))
def Qs (cs ds:List D):Prop:=cs.length=ds.length∧∀ j,j < cs.length→DLe (cs.getD j default) (ds.getD j default)
theorem Qs.rfl' {cs:List D}:Qs cs cs:=⟨rfl,fun _ _=>DLe.rfl'⟩
theorem Qs.of_eq {cs ds:List D} (h:cs=ds):Qs cs ds:=h ▸ Qs.rfl'
theorem Qs.trans {a b c:List D} (h:Qs a b) (k:Qs b c):Qs a c:=⟨h.1.trans k.1,fun j hj=>(h.2 j hj).trans (k.2 j (by rw [← h.1]; exact hj))⟩
theorem Qs.nil:Qs [] []:=Qs.rfl'
theorem Qs.cons {x y:D} {cs ds:List D} (h:DLe x y) (k:Qs cs ds):Qs (x :: cs) (y :: ds):=⟨by simp [k.1],fun j hj=>by
 cases j with
 | zero=>simpa using h
 | succ j=>simpa using k.2 j (by simpa using hj)⟩
theorem Qs.append {a b c d:List D} (h:Qs a b) (k:Qs c d):Qs (a++c) (b++d):=by
 refine ⟨by simp [h.1,k.1],fun j hj=>?_⟩
 by_cases hl:j < a.length
 ·have e1:(a++c).getD j default=a.getD j default:=by simp [List.getD,List.getElem?_append_left hl]
  have e2:(b++d).getD j default=b.getD j default:=by simp [List.getD,List.getElem?_append_left (h.1 ▸ hl)]
  rw [e1,e2]; exact h.2 j hl
 ·have e1:(a++c).getD j default=c.getD (j - a.length) default:=by simp [List.getD,List.getElem?_append_right (Nat.le_of_not_lt hl)]
  have e2:(b++d).getD j default=d.getD (j - a.length) default:=by rw [h.1]; simp [List.getD,List.getElem?_append_right (h.1 ▸ Nat.le_of_not_lt hl)]
  rw [e1,e2]; exact k.2 _ (by simp at hj; omega)
theorem DLe.slc {n m:Nat} {f g:Nat→List D} (hn:n=m) (he:∀ i,i < n→Qs (f i) (g i)):DLe (.sl n f) (.sl m g):=by
 subst hn
 intro w S x h
 cases h with
 | nil=>exact .nil g
 | sl _ _ a cap k vals hc hm hs hk hcell h =>
  exact .sl n g a cap k vals hc hm hs (fun i hi=>by rw [← (he i hi).1]; exact hk i hi) hcell (fun i j hi hj=>(he i hi).2 j (by rw [hk i hi]; exact hj) w S _ (h i j hi hj))
def zqY (w:World) (S:Nat→Prop) (n:Nat) (f:Nat→Value × D) (g:Nat):Prop:=S g∧∃ cur:Array MapEntry,w.heap[g]? = some (.map cur n)∧cur.size=n∧∀ i,i < n→∃ e,cur[i]? = some e∧e.key=(f i).1∧scalar e.key=true∧e.born=i∧Rd w S (f i).2 e.val
theorem zqY.mono {w w':World} {S S':Nat→Prop} (hS:∀ b,S b→S' b) (hw:∀ b,S b→w'.heap[b]? = w.heap[b]?) {n:Nat} {f:Nat→Value × D} {g:Nat} (h:zqY w S n f g):zqY w' S' n f g:=by
 obtain ⟨h0,cur,h1,h2,h3⟩:=h
 refine ⟨hS _ h0,cur,(hw _ h0).trans h1,h2,fun i hi=>?_⟩
 obtain ⟨e,q1,q2,q3,q4,q5⟩:=h3 i hi
 exact ⟨e,q1,q2,q3,q4,q5.mono hS hw⟩
inductive AV where
 | any
 | d (x:D)
 | own (key n:Nat)
 | ptr (key off:Nat)
 | elt (key k i off:Nat)
 | ref (cs:List D)
 | nns (n:Nat) (f:Nat→List D)
 | mpv (key:Nat)
 | pmp (n:Nat) (f:Nat→Value × D)
 | fn (f:FuncId) (caps:List AV)
 | tup (l:List AV)
 | ag (l:List AV)
 | g (p:List (Nat × Bool)) (a:AV)
instance:Inhabited AV:=⟨.any⟩
abbrev Mu:=Nat→Option (Option (Nat × Nat))
inductive Rel (w:World) (S:Nat→Prop) (μ:Mu) (ν:Nat→Bool):AV→Value→Prop
 | any (x:Value):Rel w S μ ν .any x
 | d {c:D} {x:Value} (h:Rd w S c x):Rel w S μ ν (.d c) x
 | ownNil {key:Nat} {ad:Option Addr} (h:μ key=some none):Rel w S μ ν (.own key 0) (.slice ad 0 0)
 | own {key n g cap:Nat} (h:μ key=some (some (g,cap))):Rel w S μ ν (.own key n) (.slice (some ⟨g,0,none⟩) n cap)
 | ptr {key off g cap:Nat} (h:μ key=some (some (g,cap))):Rel w S μ ν (.ptr key off) (.pointer (some ⟨g,off,none⟩))
 | elt {key k i off g cap:Nat} (h:μ key=some (some (g,cap))):Rel w S μ ν (.elt key k i off) (.pointer (some ⟨g,i * k+off,none⟩))
 | ref {cs:List D} {b o:Nat} (vals:Nat→Value) (hcell:∀ j,j < cs.length→S b∧w.cell? ⟨b,o+j,none⟩=some (vals j)) (h:∀ j,j < cs.length→Rd w S (cs.getD j default) (vals j)) :
   Rel w S μ ν (.ref cs) (.pointer (some ⟨b,o,none⟩))
 | nns {n:Nat} {f:Nat→List D} {a:Addr} {m cap:Nat} (h:Rd w S (.sl n f) (.slice (some a) m cap)):Rel w S μ ν (.nns n f) (.slice (some a) m cap)
 | mpv {key g cap:Nat} (h:μ key=some (some (g,cap))):Rel w S μ ν (.mpv key) (.map (some g))
 | pmp {n:Nat} {f:Nat→Value × D} {g:Nat} (h:zqY w S n f g):Rel w S μ ν (.pmp n f) (.map (some g))
 | fn {f:FuncId} {caps:List AV} {vs:Array Value} (hl:vs.size=caps.length) (h:∀ i,i < caps.length→Rel w S μ ν (caps.getD i default) (vs.getD i undef)):Rel w S μ ν (.fn f caps) (.func (.func f) #[] vs)
 | tup {l:List AV} {vs:Array Value} (hl:vs.size=l.length) (h:∀ i,i < l.length→Rel w S μ ν (l.getD i default) (vs.getD i undef)):Rel w S μ ν (.tup l) (.tuple vs)
 | ag {l:List AV} {vs:Array Value} (hl:vs.size=l.length) (h:∀ i,i < l.length→Rel w S μ ν (l.getD i default) (vs.getD i undef)):Rel w S μ ν (.ag l) (.agg vs)
 | g {p:List (Nat × Bool)} {a:AV} {x:Value} (h1:(∀ y,y∈p→ν y.1=y.2)→Rel w S μ ν a x) (h0:¬ (∀ y,y∈p→ν y.1=y.2)→x=undef):Rel w S μ ν (.g p a) x
theorem Rel.mono {w w':World} {S S':Nat→Prop} {μ μ':Mu} {ν:Nat→Bool} (hS:∀ b,S b→S' b) (hw:∀ b,S b→w'.heap[b]? = w.heap[b]?) (hμ:∀ k y,μ k=some y→μ' k=some y)
  {a:AV} {x:Value} (h:Rel w S μ ν a x):Rel w' S' μ' ν a x:=by
 induction h with
 | any x=>exact .any x
 | d h=>exact .d (h.mono hS hw)
 | ownNil h=>exact .ownNil (hμ _ _ h)
 | own h=>exact .own (hμ _ _ h)
 | ptr h=>exact .ptr (hμ _ _ h)
 | elt h=>exact .elt (hμ _ _ h)
 | ref vals hcell h=>exact .ref vals (fun j hj=>⟨hS _ (hcell j hj).1,by rw [← (hcell j hj).2]; exact World.cell?_of_block (hw _ (hcell j hj).1)⟩) (fun j hj=>(h j hj).mono hS hw)
 | nns h=>exact .nns (h.mono hS hw)
 | mpv h=>exact .mpv (hμ _ _ h)
 | pmp h=>exact .pmp (h.mono hS hw)
 | fn hl _ ih=>exact .fn hl ih
 | tup hl _ ih=>exact .tup hl ih
 | ag hl _ ih=>exact .ag hl ih
 | g _ h0 ih=>exact .g ih h0
mutual
def AV.keys:AV→List Nat
 | .own k _ | .ptr k _ | .elt k _ _ _ | .mpv k=>[k]
 | .fn _ caps=>AV.keysL caps
 | .tup l=>AV.keysL l
 | .ag l=>AV.keysL l
 | .g _ a=>a.keys
 | _=>[]
def AV.keysL:List AV→List Nat
 | []=>[]
 | a :: r=>a.keys++AV.keysL r
end
theorem AV.keysL_of {k:Nat}:∀ (l:List AV) (i:Nat),k ∉ AV.keysL l→i < l.length→k ∉ (l.getD i default).keys
 | [],i,_,hi=>absurd hi (by simp)
 | a :: r,0,h,_=>fun hk=>h (by simp [AV.keysL]; exact .inl (by simpa using hk))
 | a :: r,i+1,h,hi=>by
  have:=AV.keysL_of r i (fun hk=>h (by simp [AV.keysL]; exact .inr hk)) (by simpa using hi)
  simpa using this
theorem Rel.forget {w:World} {S:Nat→Prop} {μ:Mu} {ν:Nat→Bool} {κ:Nat} {a:AV} {x:Value} (h:Rel w S μ ν a x) (hk:κ ∉ a.keys):Rel w S (fun k=>if k=κ then none else μ k) ν a x:=by
 induction h with
 | any x=>exact .any x
 | d h=>exact .d h
 | @ownNil key _ h=>exact .ownNil (by have:key≠κ:=fun e=>hk (by simp [AV.keys,e]); simpa [this] using h)
 | @own key _ _ _ h=>exact .own (by have:key≠κ:=fun e=>hk (by simp [AV.keys,e]); simpa [this] using h)
 | @ptr key _ _ _ h=>exact .ptr (by have:key≠κ:=fun e=>hk (by simp [AV.keys,e]); simpa [this] using h)
 | @elt key _ _ _ _ _ h=>exact .elt (by have:key≠κ:=fun e=>hk (by simp [AV.keys,e]); simpa [this] using h)
 | ref vals hcell h=>exact .ref vals hcell h
 | nns h=>exact .nns h
 | @mpv key _ _ h=>exact .mpv (by have:key≠κ:=fun e=>hk (by simp [AV.keys,e]); simpa [this] using h)
 | pmp h=>exact .pmp h
 | @fn _ caps _ hl _ ih=>exact .fn hl (fun i hi=>ih i hi (AV.keysL_of caps i (by simpa [AV.keys] using hk) hi))
 | @tup l _ hl _ ih=>exact .tup hl (fun i hi=>ih i hi (AV.keysL_of l i (by simpa [AV.keys] using hk) hi))
 | @ag l _ hl _ ih=>exact .ag hl (fun i hi=>ih i hi (AV.keysL_of l i (by simpa [AV.keys] using hk) hi))
 | g _ h0 ih=>exact .g (fun hp=>ih hp (by simpa [AV.keys] using hk)) h0
inductive Blk where
 | box (cs:List AV)
 | row (e k n:Nat) (f:Nat→List D)
 | mp (n:Nat) (f:Nat→Value × D)
 | it (mk n:Nat) (seen:List Nat)
 | mx
def Blk.keys:Blk→List Nat
 | .box cs=>AV.keysL cs
 | .row _ _ _ _=>[]
 | .mp _ _=>[]
 | .it mk _ _=>[mk]
 | .mx=>[]
def qd (w:World) (S:Nat→Prop) (μ:Mu):Blk→Nat→Nat→Prop
 | .box cs,g,_=>∃ cur e,w.heap[g]? = some (.cells cur e (0,0))∧¬ S g∧cur.size=cs.length∧∀ j,j < cs.length→∃ x,cur[j]? = some x∧∀ ν,Rel w S μ ν (cs.getD j default) x
 | .row e k n f,g,cap=>∃ cur,w.heap[g]? = some (.cells cur e (0,0))∧¬ S g∧cur.size=cap * k∧n≤cap∧cap≤maxLen ∧
   ∀ i,i < n→(f i).length=k∧∀ j,j < k→∃ x,cur[i * k+j]? = some x∧Rd w S ((f i).getD j default) x
 | .mp n f,g,_=>∃ cur:Array MapEntry,w.heap[g]? = some (.map cur n)∧¬ S g∧cur.size=n∧∀ i,i < n→∃ e,cur[i]? = some e∧e.key=(f i).1∧scalar e.key=true∧e.born=i∧Rd w S (f i).2 e.val
 | .mx,g,_=>∃ m:List (Int × Int),∃ cur:Array MapEntry,w.heap[g]? = some (.map cur m.length)∧¬ S g∧cur.size=m.length∧∀ i,i < m.length→∃ e,cur[i]? = some e∧e.key=.int .i64 (m.getD i default).1∧scalar e.key=true∧e.born=i∧Rd w S (.v (.int .i64 (m.getD i default).2)) e.val
 | .it mk n seen,g,_=>∃ mg c,μ mk=some (some (mg,c))∧w.heap[g]? = some (.mapIter (some mg) n seen.reverse.toArray n)∧¬ S g
def vb (w:World) (S:Nat→Prop) (μ:Mu):Blk→Option (Option (Nat × Nat))→Prop
 | _,none=>False
 | .box _,some none=>False
 | .row _ _ n _,some none=>n=0
 | .mp _ _,some none=>False
 | .it _ _ _,some none=>False
 | .mx,some none=>False
 | b,some (some (g,cap))=>qd w S μ b g cap
structure M where
 sl:Nat→AV
 lb:Nat→Option Blk
def M.put (A:M) (t:Nat) (x:AV):M:={ A with sl:=fun u=>if u=t then x else A.sl u }
def M.set (A:M) (κ:Nat) (b:Option Blk):M:={ A with lb:=fun u=>if u=κ then b else A.lb u }
def M.putO (A:M) (t:Option Nat) (x:AV):M:=match t with | some t=>A.put t x | none=>A
structure Kept (w w':World) (T:Nat→Prop):Prop where
 os:w'.os=w.os
 tape:w'.tape=w.tape
 output:w'.output=w.output
 size:w.heap.size≤w'.heap.size
 block:∀ b,b < w.heap.size→¬ T b→w'.heap[b]? = w.heap[b]?
theorem Kept.refl (w:World) (T:Nat→Prop):Kept w w T:=⟨rfl,rfl,rfl,Nat.le_refl _,fun _ _ _=>rfl⟩
theorem Kept.trans {w w' w'':World} {T T':Nat→Prop} (h:Kept w w' T) (k:Kept w' w'' T') (hT:∀ b,b < w.heap.size→T' b→T b):Kept w w'' T :=
 ⟨k.os.trans h.os,k.tape.trans h.tape,k.output.trans h.output,Nat.le_trans h.size k.size,
  fun b hb ht=>(k.block b (Nat.lt_of_lt_of_le hb h.size) (fun h'=>ht (hT b hb h'))).trans (h.block b hb ht)⟩
theorem Kept.mono' {w w':World} {T T':Nat→Prop} (h:Kept w w' T) (hT:∀ b,T b→T' b):Kept w w' T':=⟨h.os,h.tape,h.output,h.size,fun b hb ht=>h.block b hb (fun h'=>ht (hT b h'))⟩
class qz where
 gl:List (Nat × List D)
set_option linter.unusedSectionVars false
variable [qz]
def ud (w:World) (S:Nat→Prop):Prop :=
 ∀ p,p∈qz.gl→∃ vals:Nat→Value,(∀ j,j < p.2.length→S p.1∧w.cell? ⟨p.1,0+j,none⟩=some (vals j))∧∀ j,j < p.2.length→Rd w S (p.2.getD j default) (vals j)
theorem ud.mono {w w':World} {S S':Nat→Prop} (h:ud w S) (hS:∀ b,S b→S' b) (hw:∀ b,S b→w'.heap[b]? = w.heap[b]?):ud w' S':=fun p hp=>by
 obtain ⟨vals,h1,h2⟩:=h p hp
 exact ⟨vals,fun j hj=>⟨hS _ (h1 j hj).1,by rw [← (h1 j hj).2]; exact World.cell?_of_block (hw _ (h1 j hj).1)⟩,fun j hj=>(h2 j hj).mono hS hw⟩
structure Cx where
 P:Program
 w0:World
 S0:Nat→Prop
 T0:Nat→Prop
 nt:Nat
 gok:ud w0 S0
 dis:∀ b,S0 b→¬ T0 b
 bnd:∀ b,S0 b→b < w0.heap.size
 dl:List Deferred
 dok:∀ d,d∈dl→∃ q,d = { target:=.collected q,args:=#[] }∧w0.heap[q]? = some (.deferred (some []))∧¬ T0 q∧¬ S0 q
 dnd:dl.Nodup
structure Sim (C:Cx) (A:M) (a:Act) (w:World) (S:Nat→Prop) (μ:Mu) (ν:Nat→Bool):Prop where
 tmps:a.tmps.size=C.nt
 defers:a.defers=C.dl
 slots:∀ t,Rel w S μ ν (A.sl t) (a.tmps.getD t undef)
 mem:∀ κ b,A.lb κ=some b→vb w S μ b (μ κ)
 inj:∀ κ κ' b b' g c c',A.lb κ=some b→A.lb κ'=some b'→μ κ=some (some (g,c))→μ κ'=some (some (g,c'))→κ=κ'
 own:∀ κ b g c,A.lb κ=some b→μ κ=some (some (g,c))→C.w0.heap.size≤g∨C.T0 g
 stable:∀ b,C.S0 b→S b
 fresh:∀ b,S b→C.S0 b∨C.w0.heap.size≤b∨C.T0 b
 bound:∀ b,S b→b < w.heap.size
 kept:Kept C.w0 w C.T0
theorem Sim.glob {C:Cx} {A:M} {a:Act} {w:World} {S:Nat→Prop} {μ:Mu} {ν:Nat→Bool} (h:Sim C A a w S μ ν):ud w S :=
 C.gok.mono h.stable (fun b hb=>h.kept.block b (C.bnd b hb) (C.dis b hb))
theorem qd.lt {w:World} {S:Nat→Prop} {μ:Mu} {b:Blk} {g cap:Nat} (h:qd w S μ b g cap):g < w.heap.size:=by
 cases b with
 | box cs=>obtain ⟨cur,e,hg,_⟩:=h; exact (Array.getElem?_eq_some_iff.1 hg).1
 | row e k n f=>obtain ⟨cur,hg,_⟩:=h; exact (Array.getElem?_eq_some_iff.1 hg).1
 | mp n f=>obtain ⟨cur,hg,_⟩:=h; exact (Array.getElem?_eq_some_iff.1 hg).1
 | it mk n seen=>obtain ⟨mg,c,_,hg,_⟩:=h; exact (Array.getElem?_eq_some_iff.1 hg).1
 | mx=>obtain ⟨m,cur,hg,_⟩:=h; exact (Array.getElem?_eq_some_iff.1 hg).1
theorem qd.not {w:World} {S:Nat→Prop} {μ:Mu} {b:Blk} {g cap:Nat} (h:qd w S μ b g cap):¬ S g:=by
 cases b with
 | box cs=>obtain ⟨cur,e,_,hg,_⟩:=h; exact hg
 | row e k n f=>obtain ⟨cur,_,hg,_⟩:=h; exact hg
 | mp n f=>obtain ⟨cur,_,hg,_⟩:=h; exact hg
 | it mk n seen=>obtain ⟨mg,c,_,_,hg⟩:=h; exact hg
 | mx=>obtain ⟨m,cur,_,hg,_⟩:=h; exact hg
theorem qd.mono {w w':World} {S S':Nat→Prop} {μ μ':Mu} {b:Blk} {g cap:Nat} (h:qd w S μ b g cap) (hS:∀ b,S b→S' b) (hw:∀ b,S b→w'.heap[b]? = w.heap[b]?) (hμ:∀ k y,μ k=some y→μ' k=some y)
  (hg:w'.heap[g]? = w.heap[g]?) (hn:¬ S' g):qd w' S' μ' b g cap:=by
 cases b with
 | box cs =>
  obtain ⟨cur,e,h1,_,h2,h6⟩:=h
  refine ⟨cur,e,hg.trans h1,hn,h2,fun j hj=>?_⟩
  obtain ⟨x,hx,hr⟩:=h6 j hj
  exact ⟨x,hx,fun ν=>(hr ν).mono hS hw hμ⟩
 | row e k n f =>
  obtain ⟨cur,h1,_,h2,h3,h4,h6⟩:=h
  refine ⟨cur,hg.trans h1,hn,h2,h3,h4,fun i hi=>⟨(h6 i hi).1,fun j hj=>?_⟩⟩
  obtain ⟨x,hx,hr⟩:=(h6 i hi).2 j hj
  exact ⟨x,hx,hr.mono hS hw⟩
 | mp n f =>
  obtain ⟨cur,h1,_,h2,h6⟩:=h
  refine ⟨cur,hg.trans h1,hn,h2,fun i hi=>?_⟩
  obtain ⟨e,q1,q2,q3,q4,q5⟩:=h6 i hi
  exact ⟨e,q1,q2,q3,q4,q5.mono hS hw⟩
 | it mk n seen =>
  obtain ⟨mg,c,h0,h1,_⟩:=h
  exact ⟨mg,c,hμ _ _ h0,hg.trans h1,hn⟩
 | mx =>
  obtain ⟨m,cur,h1,_,h2,h6⟩:=h
  refine ⟨m,cur,hg.trans h1,hn,h2,fun i hi=>?_⟩
  obtain ⟨e,q1,q2,q3,q4,q5⟩:=h6 i hi
  exact ⟨e,q1,q2,q3,q4,q5.mono hS hw⟩
theorem qd.forget {w:World} {S:Nat→Prop} {μ:Mu} {b:Blk} {g cap κ:Nat} (h:qd w S μ b g cap) (hk:κ ∉ b.keys):qd w S (fun k=>if k=κ then none else μ k) b g cap:=by
 cases b with
 | box cs =>
  obtain ⟨cur,e,h1,h0,h2,h6⟩:=h
  refine ⟨cur,e,h1,h0,h2,fun j hj=>?_⟩
  obtain ⟨x,hx,hr⟩:=h6 j hj
  exact ⟨x,hx,fun ν=>(hr ν).forget (AV.keysL_of _ j hk hj)⟩
 | row e k n f=>exact h
 | mp n f=>exact h
 | it mk n seen =>
  obtain ⟨mg,c,h0,h1⟩:=h
  have:mk≠κ:=fun e=>hk (by simp [Blk.keys,e])
  exact ⟨mg,c,by simpa [this] using h0,h1⟩
 | mx=>exact h
theorem vb.at {w:World} {S:Nat→Prop} {μ:Mu} {b:Blk} {g c:Nat} (h:vb w S μ b (some (some (g,c)))):qd w S μ b g c:=by cases b <;> exact h
theorem qd.ok {w:World} {S:Nat→Prop} {μ:Mu} {b:Blk} {g c:Nat} (h:qd w S μ b g c):vb w S μ b (some (some (g,c))):=by cases b <;> exact h
theorem vb.mono {w w':World} {S S':Nat→Prop} {μ μ':Mu} {b:Blk} {y:Option (Option (Nat × Nat))} (h:vb w S μ b y) (hS:∀ b,S b→S' b) (hw:∀ b,S b→w'.heap[b]? = w.heap[b]?) (hμ:∀ k y,μ k=some y→μ' k=some y)
  (hg:∀ g c,y=some (some (g,c))→w'.heap[g]? = w.heap[g]?∧¬ S' g):vb w' S' μ' b y:=by
 cases y with
 | none=>cases b <;> exact h
 | some y =>
  cases y with
  | none=>cases b <;> exact h
  | some gc=>obtain ⟨g,c⟩:=gc; exact (h.at.mono hS hw hμ (hg g c rfl).1 (hg g c rfl).2).ok
theorem vb.forget {w:World} {S:Nat→Prop} {μ:Mu} {b:Blk} {y:Option (Option (Nat × Nat))} {κ:Nat} (h:vb w S μ b y) (hk:κ ∉ b.keys):vb w S (fun k=>if k=κ then none else μ k) b y:=by
 cases y with
 | none=>cases b <;> exact h
 | some y =>
  cases y with
  | none=>cases b <;> exact h
  | some gc=>obtain ⟨g,c⟩:=gc; exact (h.at.forget hk).ok
section
variable {C : Cx} {A : M} {a : Act} {w : World} {S : Nat → Prop} {μ : Mu} {ν : Nat → Bool}
theorem Sim.world (h:Sim C A a w S μ ν) {w':World} {S':Nat→Prop} (hS:∀ b,S b→S' b) (hS':∀ b,S' b→S b∨(w.heap.size≤b∧b < w'.heap.size)) (hk:Kept w w' fun _=>False):Sim C A a w' S' μ ν:=by
 have hw:∀ b,S b→w'.heap[b]? = w.heap[b]?:=fun b hb=>hk.block b (h.bound b hb) (fun x=>x)
 refine ⟨h.tmps,h.defers,fun t=>(h.slots t).mono hS hw (fun _ _ e=>e),fun κ b hb=>?_,h.inj,h.own,fun b hb=>hS b (h.stable b hb),fun b hb=>?_,fun b hb=>?_,h.kept.trans hk (fun _ _ x=>x.elim)⟩
 ·refine (h.mem κ b hb).mono hS hw (fun _ _ e=>e) (fun g c e=>?_)
  have h0:=h.mem κ b hb
  rw [e] at h0
  have hlt:=h0.at.lt
  exact ⟨hk.block g hlt (fun x=>x),fun hs=>(hS' g hs).elim h0.at.not (fun x=>by omega)⟩
 ·rcases hS' b hb with h1 | h1
  ·exact h.fresh b h1
  ·exact .inr (.inl (Nat.le_trans h.kept.size h1.1))
 ·rcases hS' b hb with h1 | h1
  ·exact Nat.lt_of_lt_of_le (h.bound b h1) hk.size
  ·exact h1.2
theorem zK (t:Array Value) (i:Nat) (x:Value) (h:i < t.size):(t.setIfInBounds i x).getD i undef=x:=by
 simp [Array.getD,h]
theorem kF (t:Array Value) (i j:Nat) (x:Value) (h:j≠i):(t.setIfInBounds i x).getD j undef=t.getD j undef:=by
 simp only [Array.getD_eq_getD_getElem?,Array.getElem?_setIfInBounds]
 rw [if_neg (fun e=>h e.symm)]
theorem Sim.put (h:Sim C A a w S μ ν) {dst:Option Nat} {x:AV} {v:Value} (hd:∀ t,dst=some t→t < C.nt) (hr:Rel w S μ ν x v):Sim C (A.putO dst x) (a.put dst v) w S μ ν:=by
 cases dst with
 | none=>exact h
 | some t =>
  have ht:=hd t rfl
  refine ⟨by simp [Act.put,h.tmps],h.defers,fun u=>?_,h.mem,h.inj,h.own,h.stable,h.fresh,h.bound,h.kept⟩
  simp only [M.putO,M.put,Act.put]
  by_cases e:u=t
  ·subst e
   simp only [if_true]
   rw [zK _ _ _ (by rw [h.tmps]; exact ht)]
   exact hr
  ·simp only [e,if_false]
   rw [kF _ _ _ _ e]
   exact h.slots u
structure uO (A:M) (κ:Nat):Prop where
 sl:∀ t,κ ∉ (A.sl t).keys
 lb:A.lb κ=none
 bl:∀ κ' b,A.lb κ'=some b→κ ∉ b.keys
theorem Sim.forget (h:Sim C A a w S μ ν) {κ:Nat} (hf:uO A κ):Sim C A a w S (fun k=>if k=κ then none else μ k) ν:=by
 refine ⟨h.tmps,h.defers,fun t=>(h.slots t).forget (hf.sl t),fun κ' b hb=>?_,fun κ1 κ2 b b' g c c' h1 h2 h3 h4=>?_,fun κ' b g c h1 h2=>?_,h.stable,h.fresh,h.bound,h.kept⟩
 ·have hne:κ'≠κ:=fun e=>by rw [e,hf.lb] at hb; cases hb
  simp only [hne,if_false]
  exact (h.mem κ' b hb).forget (hf.bl κ' b hb)
 ·have n1:κ1≠κ:=fun e=>by rw [e,hf.lb] at h1; cases h1
  have n2:κ2≠κ:=fun e=>by rw [e,hf.lb] at h2; cases h2
  simp only [n1,n2,if_false] at h3 h4
  exact h.inj κ1 κ2 b b' g c c' h1 h2 h3 h4
 ·have n1:κ'≠κ:=fun e=>by rw [e,hf.lb] at h1; cases h1
  simp only [n1,if_false] at h2
  exact h.own κ' b g c h1 h2
end
end Go.Av
