/- The abstract values by which Go code is read: pure data, blocks of the call's own, and what a frame and a world must have to do with them. No program in sight. -/
import Derived.WalkKit
import Derived.Lib.SliceRun
import Derived.WalkSpells
set_option linter.unusedSimpArgs false
set_option linter.unusedVariables false
set_option linter.unusedSectionVars false
namespace Go.Av
open Go
section
def scal0:Value→Bool
 | .bool _ | .int _ _ | .string _=>true
 | _=>false
def scalar:Value→Bool
 | .bool _ | .int _ _ | .string _ | .nilFunc | .nilIface | .pointer none | .map none | .slice none 0 0=>true
 | .iface _ (.agg cs)=>cs.toList.all scal0
 | _=>false
def keyK:Value→Bool
 | .agg cs=>cs.toList.all scalar
 | v=>scalar v
inductive D where
 | v (x:Value)
 | agg (cs:List D)
 | sl (n:Nat) (f:Nat→List D)
 | mp (n:Nat) (k:Nat→Value) (f:Nat→D)
instance:Inhabited D:=⟨.v (.bool false)⟩
inductive Rd (w:World) (S:Nat→Prop):D→Value→Prop
 | v (x:Value) (h:scalar x=true):Rd w S (.v x) x
 | agg (cs:List D) (vs:Array Value) (hl:vs.size=cs.length) (h:∀ i,i < cs.length→Rd w S (cs.getD i default) (vs.getD i undef)):Rd w S (.agg cs) (.agg vs)
 | nil (f:Nat→List D):Rd w S (.sl 0 f) (.slice none 0 0)
 | sl (n:Nat) (f:Nat→List D) (a:Addr) (cap k:Nat) (vals:Nat→Nat→Value) (hc:n≤cap) (hm:cap≤maxLen) (hs:n=0∨a.spot=none)
   (hk:∀ i,i < n→(f i).length=k)
   (hcell:∀ i j,i < n→j < k→S a.block∧w.cell? ⟨a.block,a.off+(i * k+j),none⟩=some (vals i j))
   (h:∀ i j,i < n→j < k→Rd w S ((f i).getD j default) (vals i j)):Rd w S (.sl n f) (.slice (some a) n cap)
 | mp (n:Nat) (k:Nat→Value) (f:Nat→D) (g:Nat) (cur:Array MapEntry) (vals:Nat→Value) (hS:S g) (hg:w.heap[g]? = some (.map cur n)) (hs:cur.size=n)
   (he:∀ i,i < n→∃ e,cur[i]? = some e∧e.key=k i∧keyK e.key=true∧e.born=i∧e.val=vals i) (h:∀ i,i < n→Rd w S (f i) (vals i)):Rd w S (.mp n k f) (.map (some g))
theorem Rd.mono {w w':World} {S S':Nat→Prop} (hS:∀ b,S b→S' b) (hw:∀ b,S b→w'.heap[b]? = w.heap[b]?) {d:D} {x:Value} (h:Rd w S d x):Rd w' S' d x:=by
 induction h with
 | v x h=>exact .v x h
 | agg cs vs hl h ih=>exact .agg cs vs hl ih
 | nil f=>exact .nil f
 | sl n f a cap k vals hc hm hs hk hcell h ih =>
  refine .sl n f a cap k vals hc hm hs hk (fun i j hi hj=>?_) ih
  obtain ⟨h1,h2⟩:=hcell i j hi hj
  exact ⟨hS _ h1,by rw [← h2]; exact World.cell?_of_block (hw _ h1)⟩
 | mp n k f g cur vals h0 hg hs he h ih=>exact .mp n k f g cur vals (hS _ h0) ((hw _ h0).trans hg) hs he ih
def keyD:Value→D
 | .agg cs=>.agg (cs.toList.map .v)
 | v=>.v v
theorem keyD_rd {w:World} {S:Nat→Prop} {x:Value} (h:keyK x=true):Rd w S (keyD x) x:=by
 cases x with
 | agg cs =>
  refine .agg _ cs (by simp) (fun i hi=>?_)
  simp only [List.length_map,Array.length_toList] at hi
  have e1:(cs.toList.map D.v).getD i default=.v cs[i]:=by simp [List.getD,hi]
  have e2:cs.getD i undef=cs[i]:=by simp [Array.getD,hi]
  rw [e1,e2]
  exact .v _ (List.all_eq_true.1 h _ (by simp))
 | _=>exact .v _ h
def DLe (d d':D):Prop:=∀ w S x,Rd w S d x→Rd w S d' x
theorem DLe.rfl' {d:D}:DLe d d:=fun _ _ _ h=>h
theorem DLe.of_eq {d d':D} (h:d=d'):DLe d d':=h ▸ DLe.rfl'
theorem DLe.sl {n m:Nat} {f g:Nat→List D} (hn:n=m) (he:∀ i,i < n→f i=g i):DLe (.sl n f) (.sl m g):=by
 subst hn
 intro w S x h
 cases h with
 | nil=>exact .nil g
 | sl _ _ a cap k vals hc hm hs hk hcell h =>
  exact .sl n g a cap k vals hc hm hs (fun i hi=>by rw [← he i hi]; exact hk i hi) hcell (fun i j hi hj=>by rw [← he i hi]; exact h i j hi hj)
theorem DLe.nil (g:Nat→List D):DLe (.v (.slice none 0 0)) (.sl 0 g):=by
 intro w S x h
 cases h with
 | v=>exact .nil g
theorem DLe.agg {cs ds:List D} (hl:cs.length=ds.length) (he:∀ i,i < cs.length→DLe (cs.getD i default) (ds.getD i default)):DLe (.agg cs) (.agg ds):=by
 intro w S x h
 cases h with
 | agg _ vs hv h=>exact .agg ds vs (hv.trans hl) (fun i hi=>he i (by omega) w S _ (h i (by omega)))
def CsLe (cs ds:List D):Prop:=cs.length=ds.length∧∀ j,j < cs.length→DLe (cs.getD j default) (ds.getD j default)
theorem CsLe.rfl' {cs:List D}:CsLe cs cs:=⟨rfl,fun _ _=>DLe.rfl'⟩
theorem CsLe.of_eq {cs ds:List D} (h:cs=ds):CsLe cs ds:=h ▸ CsLe.rfl'
theorem CsLe.nil:CsLe [] []:=CsLe.rfl'
theorem CsLe.cons {x y:D} {cs ds:List D} (h:DLe x y) (k:CsLe cs ds):CsLe (x :: cs) (y :: ds):=⟨by simp [k.1],fun j hj=>by
 cases j with
 | zero=>simpa using h
 | succ j=>simpa using k.2 j (by simpa using hj)⟩
theorem CsLe.append {a b c d:List D} (h:CsLe a b) (k:CsLe c d):CsLe (a++c) (b++d):=by
 refine ⟨by simp [h.1,k.1],fun j hj=>?_⟩
 by_cases hl:j < a.length
 ·have e1:(a++c).getD j default=a.getD j default:=by simp [List.getD,List.getElem?_append_left hl]
  have e2:(b++d).getD j default=b.getD j default:=by simp [List.getD,List.getElem?_append_left (h.1 ▸ hl)]
  rw [e1,e2]; exact h.2 j hl
 ·have e1:(a++c).getD j default=c.getD (j - a.length) default:=by simp [List.getD,List.getElem?_append_right (Nat.le_of_not_lt hl)]
  have e2:(b++d).getD j default=d.getD (j - a.length) default:=by rw [h.1]; simp [List.getD,List.getElem?_append_right (h.1 ▸ Nat.le_of_not_lt hl)]
  rw [e1,e2]; exact k.2 _ (by simp at hj; omega)
theorem DLe.slc {n m:Nat} {f g:Nat→List D} (hn:n=m) (he:∀ i,i < n→CsLe (f i) (g i)):DLe (.sl n f) (.sl m g):=by
 subst hn
 intro w S x h
 cases h with
 | nil=>exact .nil g
 | sl _ _ a cap k vals hc hm hs hk hcell h =>
  exact .sl n g a cap k vals hc hm hs (fun i hi=>by rw [← (he i hi).1]; exact hk i hi) hcell (fun i j hi hj=>(he i hi).2 j (by rw [hk i hi]; exact hj) w S _ (h i j hi hj))
def PMap (w:World) (S:Nat→Prop) (n:Nat) (f:Nat→Value × D) (g:Nat):Prop:=S g∧∃ cur:Array MapEntry,w.heap[g]? = some (.map cur n)∧cur.size=n∧∀ i,i < n→∃ e,cur[i]? = some e∧e.key=(f i).1∧keyK e.key=true∧e.born=i∧Rd w S (f i).2 e.val
theorem Rd.pmap {w:World} {S:Nat→Prop} {n:Nat} {k:Nat→Value} {f:Nat→D} {x:Value} (h:Rd w S (.mp n k f) x):∃ g,x=.map (some g)∧PMap w S n (fun i=>(k i,f i)) g:=by
 cases h with
 | mp _ _ _ g cur vals hS hg hs he h =>
  refine ⟨g,rfl,hS,cur,hg,hs,fun i hi=>?_⟩
  obtain ⟨e,q1,q2,q3,q4,q5⟩:=he i hi
  exact ⟨e,q1,q2,q3,q4,by rw [q5]; exact h i hi⟩
theorem PMap.mono {w w':World} {S S':Nat→Prop} (hS:∀ b,S b→S' b) (hw:∀ b,S b→w'.heap[b]? = w.heap[b]?) {n:Nat} {f:Nat→Value × D} {g:Nat} (h:PMap w S n f g):PMap w' S' n f g:=by
 obtain ⟨h0,cur,h1,h2,h3⟩:=h
 refine ⟨hS _ h0,cur,(hw _ h0).trans h1,h2,fun i hi=>?_⟩
 obtain ⟨e,q1,q2,q3,q4,q5⟩:=h3 i hi
 exact ⟨e,q1,q2,q3,q4,q5.mono hS hw⟩
inductive AV where
 | any
 | d (x:D)
 | own (key n:Nat)
 | ptr (key off:Nat)
 | elt (key k i off:Nat)
 | ref (cs:List D)
 | nns (n:Nat) (f:Nat→List D)
 | mpv (key:Nat)
 | pmp (n:Nat) (f:Nat→Value × D)
 | fn (f:FuncId) (caps:List AV)
 | tup (l:List AV)
 | ag (l:List AV)
 | g (p:List (Nat × Bool)) (a:AV)
instance:Inhabited AV:=⟨.any⟩
abbrev Mu:=Nat→Option (Option (Nat × Nat))
inductive Rel (w:World) (S:Nat→Prop) (μ:Mu) (ν:Nat→Bool):AV→Value→Prop
 | any (x:Value):Rel w S μ ν .any x
 | d {c:D} {x:Value} (h:Rd w S c x):Rel w S μ ν (.d c) x
 | ownNil {key:Nat} {ad:Option Addr} (h:μ key=some none):Rel w S μ ν (.own key 0) (.slice ad 0 0)
 | own {key n g cap:Nat} (h:μ key=some (some (g,cap))):Rel w S μ ν (.own key n) (.slice (some ⟨g,0,none⟩) n cap)
 | ptr {key off g cap:Nat} (h:μ key=some (some (g,cap))):Rel w S μ ν (.ptr key off) (.pointer (some ⟨g,off,none⟩))
 | elt {key k i off g cap:Nat} (h:μ key=some (some (g,cap))):Rel w S μ ν (.elt key k i off) (.pointer (some ⟨g,i * k+off,none⟩))
 | ref {cs:List D} {b o:Nat} (vals:Nat→Value) (hcell:∀ j,j < cs.length→S b∧w.cell? ⟨b,o+j,none⟩=some (vals j)) (h:∀ j,j < cs.length→Rd w S (cs.getD j default) (vals j)) :
   Rel w S μ ν (.ref cs) (.pointer (some ⟨b,o,none⟩))
 | nns {n:Nat} {f:Nat→List D} {a:Addr} {m cap:Nat} (h:Rd w S (.sl n f) (.slice (some a) m cap)):Rel w S μ ν (.nns n f) (.slice (some a) m cap)
 | mpv {key g cap:Nat} (h:μ key=some (some (g,cap))):Rel w S μ ν (.mpv key) (.map (some g))
 | pmp {n:Nat} {f:Nat→Value × D} {g:Nat} (h:PMap w S n f g):Rel w S μ ν (.pmp n f) (.map (some g))
 | fn {f:FuncId} {caps:List AV} {vs:Array Value} (hl:vs.size=caps.length) (h:∀ i,i < caps.length→Rel w S μ ν (caps.getD i default) (vs.getD i undef)):Rel w S μ ν (.fn f caps) (.func (.func f) #[] vs)
 | tup {l:List AV} {vs:Array Value} (hl:vs.size=l.length) (h:∀ i,i < l.length→Rel w S μ ν (l.getD i default) (vs.getD i undef)):Rel w S μ ν (.tup l) (.tuple vs)
 | ag {l:List AV} {vs:Array Value} (hl:vs.size=l.length) (h:∀ i,i < l.length→Rel w S μ ν (l.getD i default) (vs.getD i undef)):Rel w S μ ν (.ag l) (.agg vs)
 | g {p:List (Nat × Bool)} {a:AV} {x:Value} (h1:(∀ y,y∈p→ν y.1=y.2)→Rel w S μ ν a x) (h0:¬ (∀ y,y∈p→ν y.1=y.2)→x=undef):Rel w S μ ν (.g p a) x
theorem Rel.mono {w w':World} {S S':Nat→Prop} {μ μ':Mu} {ν:Nat→Bool} (hS:∀ b,S b→S' b) (hw:∀ b,S b→w'.heap[b]? = w.heap[b]?) (hμ:∀ k y,μ k=some y→μ' k=some y)
  {a:AV} {x:Value} (h:Rel w S μ ν a x):Rel w' S' μ' ν a x:=by
 induction h with
 | any x=>exact .any x
 | d h=>exact .d (h.mono hS hw)
 | ownNil h=>exact .ownNil (hμ _ _ h)
 | own h=>exact .own (hμ _ _ h)
 | ptr h=>exact .ptr (hμ _ _ h)
 | elt h=>exact .elt (hμ _ _ h)
 | ref vals hcell h=>exact .ref vals (fun j hj=>⟨hS _ (hcell j hj).1,by rw [← (hcell j hj).2]; exact World.cell?_of_block (hw _ (hcell j hj).1)⟩) (fun j hj=>(h j hj).mono hS hw)
 | nns h=>exact .nns (h.mono hS hw)
 | mpv h=>exact .mpv (hμ _ _ h)
 | pmp h=>exact .pmp (h.mono hS hw)
 | fn hl _ ih=>exact .fn hl ih
 | tup hl _ ih=>exact .tup hl ih
 | ag hl _ ih=>exact .ag hl ih
 | g _ h0 ih=>exact .g ih h0
mutual
def AV.keys:AV→List Nat
 | .own k _ | .ptr k _ | .elt k _ _ _ | .mpv k=>[k]
 | .fn _ caps=>AV.keysL caps
 | .tup l=>AV.keysL l
 | .ag l=>AV.keysL l
 | .g _ a=>a.keys
 | _=>[]
def AV.keysL:List AV→List Nat
 | []=>[]
 | a :: r=>a.keys++AV.keysL r
end
theorem AV.keysL_of {k:Nat}:∀ (l:List AV) (i:Nat),k ∉ AV.keysL l→i < l.length→k ∉ (l.getD i default).keys
 | [],i,_,hi=>absurd hi (by simp)
 | a :: r,0,h,_=>fun hk=>h (by simp [AV.keysL]; exact .inl (by simpa using hk))
 | a :: r,i+1,h,hi=>by
  have:=AV.keysL_of r i (fun hk=>h (by simp [AV.keysL]; exact .inr hk)) (by simpa using hi)
  simpa using this
theorem Rel.forget {w:World} {S:Nat→Prop} {μ:Mu} {ν:Nat→Bool} {κ:Nat} {a:AV} {x:Value} (h:Rel w S μ ν a x) (hk:κ ∉ a.keys):Rel w S (fun k=>if k=κ then none else μ k) ν a x:=by
 induction h with
 | any x=>exact .any x
 | d h=>exact .d h
 | @ownNil key _ h=>exact .ownNil (by have:key≠κ:=fun e=>hk (by simp [AV.keys,e]); simpa [this] using h)
 | @own key _ _ _ h=>exact .own (by have:key≠κ:=fun e=>hk (by simp [AV.keys,e]); simpa [this] using h)
 | @ptr key _ _ _ h=>exact .ptr (by have:key≠κ:=fun e=>hk (by simp [AV.keys,e]); simpa [this] using h)
 | @elt key _ _ _ _ _ h=>exact .elt (by have:key≠κ:=fun e=>hk (by simp [AV.keys,e]); simpa [this] using h)
 | ref vals hcell h=>exact .ref vals hcell h
 | nns h=>exact .nns h
 | @mpv key _ _ h=>exact .mpv (by have:key≠κ:=fun e=>hk (by simp [AV.keys,e]); simpa [this] using h)
 | pmp h=>exact .pmp h
 | @fn _ caps _ hl _ ih=>exact .fn hl (fun i hi=>ih i hi (AV.keysL_of caps i (by simpa [AV.keys] using hk) hi))
 | @tup l _ hl _ ih=>exact .tup hl (fun i hi=>ih i hi (AV.keysL_of l i (by simpa [AV.keys] using hk) hi))
 | @ag l _ hl _ ih=>exact .ag hl (fun i hi=>ih i hi (AV.keysL_of l i (by simpa [AV.keys] using hk) hi))
 | g _ h0 ih=>exact .g (fun hp=>ih hp (by simpa [AV.keys] using hk)) h0
inductive Blk where
 | box (cs:List AV)
 | row (e k n:Nat) (f:Nat→List D)
 | mp (n:Nat) (f:Nat→Value × D)
 | it (mk n:Nat) (seen:List Nat)
 | mx (q:List (Int × Int)→Prop)
 | tx (q:Nat→(Nat→Value × D)→Prop)
 | rx (e k n:Nat) (q:(Nat→List D)→Prop)
 | ml (n:Nat) (f:Nat→Value × D)
def Blk.keys:Blk→List Nat
 | .box cs=>AV.keysL cs
 | .row _ _ _ _=>[]
 | .mp _ _=>[]
 | .it mk _ _=>[mk]
 | .mx _=>[]
 | .tx _=>[]
 | .rx _ _ _ _=>[]
 | .ml _ _=>[]
def BlkAt (w:World) (S:Nat→Prop) (μ:Mu):Blk→Nat→Nat→Prop
 | .box cs,g,_=>∃ cur e,w.heap[g]? = some (.cells cur e (0,0))∧¬ S g∧cur.size=cs.length∧∀ j,j < cs.length→∃ x,cur[j]? = some x∧∀ ν,Rel w S μ ν (cs.getD j default) x
 | .row e k n f,g,cap=>∃ cur,w.heap[g]? = some (.cells cur e (0,0))∧¬ S g∧cur.size=cap * k∧n≤cap∧cap≤maxLen ∧
   ∀ i,i < n→(f i).length=k∧∀ j,j < k→∃ x,cur[i * k+j]? = some x∧Rd w S ((f i).getD j default) x
 | .mp n f,g,_=>∃ cur:Array MapEntry,w.heap[g]? = some (.map cur n)∧¬ S g∧cur.size=n∧∀ i,i < n→∃ e,cur[i]? = some e∧e.key=(f i).1∧keyK e.key=true∧e.born=i∧Rd w S (f i).2 e.val
 | .mx q,g,_=>∃ m:List (Int × Int),q m∧∃ cur:Array MapEntry,w.heap[g]? = some (.map cur m.length)∧¬ S g∧cur.size=m.length∧∀ i,i < m.length→∃ e,cur[i]? = some e∧e.key=.int .i64 (m.getD i default).1∧keyK e.key=true∧e.born=i∧Rd w S (.v (.int .i64 (m.getD i default).2)) e.val
 | .tx q,g,_=>∃ n f,q n f∧∃ cur:Array MapEntry,w.heap[g]? = some (.map cur n)∧¬ S g∧cur.size=n∧∀ i,i < n→∃ e,cur[i]? = some e∧e.key=(f i).1∧keyK e.key=true∧e.born=i∧Rd w S (f i).2 e.val
 | .rx e k n q,g,cap=>∃ f,q f∧∃ cur,w.heap[g]? = some (.cells cur e (0,0))∧¬ S g∧cur.size=cap * k∧n≤cap∧cap≤maxLen ∧
   ∀ i,i < n→(f i).length=k∧∀ j,j < k→∃ x,cur[i * k+j]? = some x∧Rd w S ((f i).getD j default) x
 | .ml n f,g,_=>∃ (cur:Array MapEntry) (c:Nat),w.heap[g]? = some (.map cur c)∧¬ S g∧cur.size=n∧∀ i,i < n→∃ e,cur[i]? = some e∧e.key=(f i).1∧keyK e.key=true∧Rd w S (f i).2 e.val
 | .it mk n seen,g,_=>∃ mg c,μ mk=some (some (mg,c))∧w.heap[g]? = some (.mapIter (some mg) n seen.reverse.toArray n)∧¬ S g
def BlkOK (w:World) (S:Nat→Prop) (μ:Mu):Blk→Option (Option (Nat × Nat))→Prop
 | _,none=>False
 | .box _,some none=>False
 | .row _ _ n _,some none=>n=0
 | .mp _ _,some none=>False
 | .it _ _ _,some none=>False
 | .mx _,some none=>False
 | .tx _,some none=>False
 | .ml _ _,some none=>False
 | .rx _ _ n q,some none=>n=0∧∃ f,q f
 | b,some (some (g,cap))=>BlkAt w S μ b g cap
structure M where
 sl:Nat→AV
 lb:Nat→Option Blk
def M.put (A:M) (t:Nat) (x:AV):M:={ A with sl:=fun u=>if u=t then x else A.sl u }
def M.set (A:M) (κ:Nat) (b:Option Blk):M:={ A with lb:=fun u=>if u=κ then b else A.lb u }
def M.putO (A:M) (t:Option Nat) (x:AV):M:=match t with | some t=>A.put t x | none=>A
structure Kept (w w':World) (T:Nat→Prop):Prop where
 os:w'.os=w.os
 tape:w'.tape=w.tape
 output:w'.output=w.output
 size:w.heap.size≤w'.heap.size
 block:∀ b,b < w.heap.size→¬ T b→w'.heap[b]? = w.heap[b]?
theorem Kept.refl (w:World) (T:Nat→Prop):Kept w w T:=⟨rfl,rfl,rfl,Nat.le_refl _,fun _ _ _=>rfl⟩
theorem Kept.trans {w w' w'':World} {T T':Nat→Prop} (h:Kept w w' T) (k:Kept w' w'' T') (hT:∀ b,b < w.heap.size→T' b→T b):Kept w w'' T :=
 ⟨k.os.trans h.os,k.tape.trans h.tape,k.output.trans h.output,Nat.le_trans h.size k.size,
  fun b hb ht=>(k.block b (Nat.lt_of_lt_of_le hb h.size) (fun h'=>ht (hT b hb h'))).trans (h.block b hb ht)⟩
theorem Kept.mono' {w w':World} {T T':Nat→Prop} (h:Kept w w' T) (hT:∀ b,T b→T' b):Kept w w' T':=⟨h.os,h.tape,h.output,h.size,fun b hb ht=>h.block b hb (fun h'=>ht (hT b h'))⟩
class Globs where
 gl:List (Nat × List D)
 op:List (Nat × (Obj→Bool))
set_option linter.unusedSectionVars false
variable [Globs]
def GlobOK (w:World) (S:Nat→Prop):Prop :=
 (∀ p,p∈Globs.op→S p.1∧∃ v,w.heap[p.1]? = some v∧p.2 v=true)∧∀ p,p∈Globs.gl→∃ vals:Nat→Value,(∀ j,j < p.2.length→S p.1∧w.cell? ⟨p.1,0+j,none⟩=some (vals j))∧∀ j,j < p.2.length→Rd w S (p.2.getD j default) (vals j)
theorem GlobOK.mono {w w':World} {S S':Nat→Prop} (h:GlobOK w S) (hS:∀ b,S b→S' b) (hw:∀ b,S b→w'.heap[b]? = w.heap[b]?):GlobOK w' S':=by
 refine ⟨fun p hp=>?_,fun p hp=>?_⟩
 ·obtain ⟨h1,v,h2,h3⟩:=h.1 p hp
  exact ⟨hS _ h1,v,(hw _ h1).trans h2,h3⟩
 have h:=h.2
 obtain ⟨vals,h1,h2⟩:=h p hp
 exact ⟨vals,fun j hj=>⟨hS _ (h1 j hj).1,by rw [← (h1 j hj).2]; exact World.cell?_of_block (hw _ (h1 j hj).1)⟩,fun j hj=>(h2 j hj).mono hS hw⟩
structure Cx where
 P:Program
 w0:World
 S0:Nat→Prop
 T0:Nat→Prop
 nt:Nat
 gok:GlobOK w0 S0
 dis:∀ b,S0 b→¬ T0 b
 bnd:∀ b,S0 b→b < w0.heap.size
 dl:List Deferred
 dx:List Deferred
 dxc:∀ d,d∈dx→∀ q,d≠{ target:=.collected q,args:=#[] }
 dok:∀ d,d∈dl→d∈dx∨∃ q,d = { target:=.collected q,args:=#[] }∧w0.heap[q]? = some (.deferred (some []))∧¬ T0 q∧¬ S0 q
 dnd:dl.Nodup
structure Sim (C:Cx) (A:M) (a:Act) (w:World) (S:Nat→Prop) (μ:Mu) (ν:Nat→Bool):Prop where
 tmps:a.tmps.size=C.nt
 defers:a.defers=C.dl
 slots:∀ t,Rel w S μ ν (A.sl t) (a.tmps.getD t undef)
 mem:∀ κ b,A.lb κ=some b→BlkOK w S μ b (μ κ)
 inj:∀ κ κ' b b' g c c',A.lb κ=some b→A.lb κ'=some b'→μ κ=some (some (g,c))→μ κ'=some (some (g,c'))→κ=κ'
 own:∀ κ b g c,A.lb κ=some b→μ κ=some (some (g,c))→C.w0.heap.size≤g∨C.T0 g
 stable:∀ b,C.S0 b→S b
 fresh:∀ b,S b→C.S0 b∨C.w0.heap.size≤b∨C.T0 b
 bound:∀ b,S b→b < w.heap.size
 kept:Kept C.w0 w C.T0
theorem Sim.glob {C:Cx} {A:M} {a:Act} {w:World} {S:Nat→Prop} {μ:Mu} {ν:Nat→Bool} (h:Sim C A a w S μ ν):GlobOK w S :=
 C.gok.mono h.stable (fun b hb=>h.kept.block b (C.bnd b hb) (C.dis b hb))
theorem BlkAt.lt {w:World} {S:Nat→Prop} {μ:Mu} {b:Blk} {g cap:Nat} (h:BlkAt w S μ b g cap):g < w.heap.size:=by
 cases b with
 | box cs=>obtain ⟨cur,e,hg,_⟩:=h; exact (Array.getElem?_eq_some_iff.1 hg).1
 | row e k n f=>obtain ⟨cur,hg,_⟩:=h; exact (Array.getElem?_eq_some_iff.1 hg).1
 | mp n f=>obtain ⟨cur,hg,_⟩:=h; exact (Array.getElem?_eq_some_iff.1 hg).1
 | it mk n seen=>obtain ⟨mg,c,_,hg,_⟩:=h; exact (Array.getElem?_eq_some_iff.1 hg).1
 | mx=>obtain ⟨m,_,cur,hg,_⟩:=h; exact (Array.getElem?_eq_some_iff.1 hg).1
 | tx=>obtain ⟨n,f,_,cur,hg,_⟩:=h; exact (Array.getElem?_eq_some_iff.1 hg).1
 | rx=>obtain ⟨f,_,cur,hg,_⟩:=h; exact (Array.getElem?_eq_some_iff.1 hg).1
 | ml=>obtain ⟨cur,c,hg,_⟩:=h; exact (Array.getElem?_eq_some_iff.1 hg).1
theorem BlkAt.not {w:World} {S:Nat→Prop} {μ:Mu} {b:Blk} {g cap:Nat} (h:BlkAt w S μ b g cap):¬ S g:=by
 cases b with
 | box cs=>obtain ⟨cur,e,_,hg,_⟩:=h; exact hg
 | row e k n f=>obtain ⟨cur,_,hg,_⟩:=h; exact hg
 | mp n f=>obtain ⟨cur,_,hg,_⟩:=h; exact hg
 | it mk n seen=>obtain ⟨mg,c,_,_,hg⟩:=h; exact hg
 | mx=>obtain ⟨m,_,cur,_,hg,_⟩:=h; exact hg
 | tx=>obtain ⟨n,f,_,cur,_,hg,_⟩:=h; exact hg
 | rx=>obtain ⟨f,_,cur,_,hg,_⟩:=h; exact hg
 | ml=>obtain ⟨cur,c,_,hg,_⟩:=h; exact hg
theorem BlkAt.mono {w w':World} {S S':Nat→Prop} {μ μ':Mu} {b:Blk} {g cap:Nat} (h:BlkAt w S μ b g cap) (hS:∀ b,S b→S' b) (hw:∀ b,S b→w'.heap[b]? = w.heap[b]?) (hμ:∀ k y,μ k=some y→μ' k=some y)
  (hg:w'.heap[g]? = w.heap[g]?) (hn:¬ S' g):BlkAt w' S' μ' b g cap:=by
 cases b with
 | box cs =>
  obtain ⟨cur,e,h1,_,h2,h6⟩:=h
  refine ⟨cur,e,hg.trans h1,hn,h2,fun j hj=>?_⟩
  obtain ⟨x,hx,hr⟩:=h6 j hj
  exact ⟨x,hx,fun ν=>(hr ν).mono hS hw hμ⟩
 | row e k n f =>
  obtain ⟨cur,h1,_,h2,h3,h4,h6⟩:=h
  refine ⟨cur,hg.trans h1,hn,h2,h3,h4,fun i hi=>⟨(h6 i hi).1,fun j hj=>?_⟩⟩
  obtain ⟨x,hx,hr⟩:=(h6 i hi).2 j hj
  exact ⟨x,hx,hr.mono hS hw⟩
 | mp n f =>
  obtain ⟨cur,h1,_,h2,h6⟩:=h
  refine ⟨cur,hg.trans h1,hn,h2,fun i hi=>?_⟩
  obtain ⟨e,q1,q2,q3,q4,q5⟩:=h6 i hi
  exact ⟨e,q1,q2,q3,q4,q5.mono hS hw⟩
 | it mk n seen =>
  obtain ⟨mg,c,h0,h1,_⟩:=h
  exact ⟨mg,c,hμ _ _ h0,hg.trans h1,hn⟩
 | mx =>
  obtain ⟨m,h0,cur,h1,_,h2,h6⟩:=h
  refine ⟨m,h0,cur,hg.trans h1,hn,h2,fun i hi=>?_⟩
  obtain ⟨e,q1,q2,q3,q4,q5⟩:=h6 i hi
  exact ⟨e,q1,q2,q3,q4,q5.mono hS hw⟩
 | tx =>
  obtain ⟨n,f,h0,cur,h1,_,h2,h6⟩:=h
  refine ⟨n,f,h0,cur,hg.trans h1,hn,h2,fun i hi=>?_⟩
  obtain ⟨e,q1,q2,q3,q4,q5⟩:=h6 i hi
  exact ⟨e,q1,q2,q3,q4,q5.mono hS hw⟩
 | rx =>
  obtain ⟨f,h0,cur,h1,_,h2,h3,h4,h6⟩:=h
  refine ⟨f,h0,cur,hg.trans h1,hn,h2,h3,h4,fun i hi=>⟨(h6 i hi).1,fun j hj=>?_⟩⟩
  obtain ⟨x,hx,hr⟩:=(h6 i hi).2 j hj
  exact ⟨x,hx,hr.mono hS hw⟩
 | ml =>
  obtain ⟨cur,c,h1,_,h2,h6⟩:=h
  refine ⟨cur,c,hg.trans h1,hn,h2,fun i hi=>?_⟩
  obtain ⟨e,q1,q2,q3,q5⟩:=h6 i hi
  exact ⟨e,q1,q2,q3,q5.mono hS hw⟩
theorem BlkAt.forget {w:World} {S:Nat→Prop} {μ:Mu} {b:Blk} {g cap κ:Nat} (h:BlkAt w S μ b g cap) (hk:κ ∉ b.keys):BlkAt w S (fun k=>if k=κ then none else μ k) b g cap:=by
 cases b with
 | box cs =>
  obtain ⟨cur,e,h1,h0,h2,h6⟩:=h
  refine ⟨cur,e,h1,h0,h2,fun j hj=>?_⟩
  obtain ⟨x,hx,hr⟩:=h6 j hj
  exact ⟨x,hx,fun ν=>(hr ν).forget (AV.keysL_of _ j hk hj)⟩
 | row e k n f=>exact h
 | mp n f=>exact h
 | it mk n seen =>
  obtain ⟨mg,c,h0,h1⟩:=h
  have:mk≠κ:=fun e=>hk (by simp [Blk.keys,e])
  exact ⟨mg,c,by simpa [this] using h0,h1⟩
 | mx=>exact h
 | tx=>exact h
 | rx=>exact h
 | ml=>exact h
theorem BlkOK.at {w:World} {S:Nat→Prop} {μ:Mu} {b:Blk} {g c:Nat} (h:BlkOK w S μ b (some (some (g,c)))):BlkAt w S μ b g c:=by cases b <;> exact h
theorem BlkAt.ok {w:World} {S:Nat→Prop} {μ:Mu} {b:Blk} {g c:Nat} (h:BlkAt w S μ b g c):BlkOK w S μ b (some (some (g,c))):=by cases b <;> exact h
theorem BlkOK.mono {w w':World} {S S':Nat→Prop} {μ μ':Mu} {b:Blk} {y:Option (Option (Nat × Nat))} (h:BlkOK w S μ b y) (hS:∀ b,S b→S' b) (hw:∀ b,S b→w'.heap[b]? = w.heap[b]?) (hμ:∀ k y,μ k=some y→μ' k=some y)
  (hg:∀ g c,y=some (some (g,c))→w'.heap[g]? = w.heap[g]?∧¬ S' g):BlkOK w' S' μ' b y:=by
 cases y with
 | none=>cases b <;> exact h
 | some y =>
  cases y with
  | none=>cases b <;> exact h
  | some gc=>obtain ⟨g,c⟩:=gc; exact (h.at.mono hS hw hμ (hg g c rfl).1 (hg g c rfl).2).ok
theorem BlkOK.forget {w:World} {S:Nat→Prop} {μ:Mu} {b:Blk} {y:Option (Option (Nat × Nat))} {κ:Nat} (h:BlkOK w S μ b y) (hk:κ ∉ b.keys):BlkOK w S (fun k=>if k=κ then none else μ k) b y:=by
 cases y with
 | none=>cases b <;> exact h
 | some y =>
  cases y with
  | none=>cases b <;> exact h
  | some gc=>obtain ⟨g,c⟩:=gc; exact (h.at.forget hk).ok
section
variable {C : Cx} {A : M} {a : Act} {w : World} {S : Nat → Prop} {μ : Mu} {ν : Nat → Bool}
theorem Sim.world (h:Sim C A a w S μ ν) {w':World} {S':Nat→Prop} (hS:∀ b,S b→S' b) (hS':∀ b,S' b→S b∨(w.heap.size≤b∧b < w'.heap.size)) (hk:Kept w w' fun _=>False):Sim C A a w' S' μ ν:=by
 have hw:∀ b,S b→w'.heap[b]? = w.heap[b]?:=fun b hb=>hk.block b (h.bound b hb) (fun x=>x)
 refine ⟨h.tmps,h.defers,fun t=>(h.slots t).mono hS hw (fun _ _ e=>e),fun κ b hb=>?_,h.inj,h.own,fun b hb=>hS b (h.stable b hb),fun b hb=>?_,fun b hb=>?_,h.kept.trans hk (fun _ _ x=>x.elim)⟩
 ·refine (h.mem κ b hb).mono hS hw (fun _ _ e=>e) (fun g c e=>?_)
  have h0:=h.mem κ b hb
  rw [e] at h0
  have hlt:=h0.at.lt
  exact ⟨hk.block g hlt (fun x=>x),fun hs=>(hS' g hs).elim h0.at.not (fun x=>by omega)⟩
 ·rcases hS' b hb with h1 | h1
  ·exact h.fresh b h1
  ·exact .inr (.inl (Nat.le_trans h.kept.size h1.1))
 ·rcases hS' b hb with h1 | h1
  ·exact Nat.lt_of_lt_of_le (h.bound b h1) hk.size
  ·exact h1.2
theorem getD_set_self (t:Array Value) (i:Nat) (x:Value) (h:i < t.size):(t.setIfInBounds i x).getD i undef=x:=by
 simp [Array.getD,h]
theorem getD_set_other (t:Array Value) (i j:Nat) (x:Value) (h:j≠i):(t.setIfInBounds i x).getD j undef=t.getD j undef:=by
 simp only [Array.getD_eq_getD_getElem?,Array.getElem?_setIfInBounds]
 rw [if_neg (fun e=>h e.symm)]
theorem Sim.put (h:Sim C A a w S μ ν) {dst:Option Nat} {x:AV} {v:Value} (hd:∀ t,dst=some t→t < C.nt) (hr:Rel w S μ ν x v):Sim C (A.putO dst x) (a.put dst v) w S μ ν:=by
 cases dst with
 | none=>exact h
 | some t =>
  have ht:=hd t rfl
  refine ⟨by simp [Act.put,h.tmps],h.defers,fun u=>?_,h.mem,h.inj,h.own,h.stable,h.fresh,h.bound,h.kept⟩
  simp only [M.putO,M.put,Act.put]
  by_cases e:u=t
  ·subst e
   simp only [if_true]
   rw [getD_set_self _ _ _ (by rw [h.tmps]; exact ht)]
   exact hr
  ·simp only [e,if_false]
   rw [getD_set_other _ _ _ _ e]
   exact h.slots u
structure Fresh (A:M) (κ:Nat):Prop where
 sl:∀ t,κ ∉ (A.sl t).keys
 lb:A.lb κ=none
 bl:∀ κ' b,A.lb κ'=some b→κ ∉ b.keys
theorem Sim.forget (h:Sim C A a w S μ ν) {κ:Nat} (hf:Fresh A κ):Sim C A a w S (fun k=>if k=κ then none else μ k) ν:=by
 refine ⟨h.tmps,h.defers,fun t=>(h.slots t).forget (hf.sl t),fun κ' b hb=>?_,fun κ1 κ2 b b' g c c' h1 h2 h3 h4=>?_,fun κ' b g c h1 h2=>?_,h.stable,h.fresh,h.bound,h.kept⟩
 ·have hne:κ'≠κ:=fun e=>by rw [e,hf.lb] at hb; cases hb
  simp only [hne,if_false]
  exact (h.mem κ' b hb).forget (hf.bl κ' b hb)
 ·have n1:κ1≠κ:=fun e=>by rw [e,hf.lb] at h1; cases h1
  have n2:κ2≠κ:=fun e=>by rw [e,hf.lb] at h2; cases h2
  simp only [n1,n2,if_false] at h3 h4
  exact h.inj κ1 κ2 b b' g c c' h1 h2 h3 h4
 ·have n1:κ'≠κ:=fun e=>by rw [e,hf.lb] at h1; cases h1
  simp only [n1,if_false] at h2
  exact h.own κ' b g c h1 h2
end
end
variable [Globs]
def look {α:Type}:List (Nat × α)→Nat→Option α
 | [],_=>none
 | (k,x) :: r,t=>bif Nat.beq k t then some x else look r t
theorem look_mem {α:Type} {l:List (Nat × α)} {t:Nat} {x:α} (h:look l t=some x):(t,x)∈l:=by
 induction l with
 | nil=>simp [look] at h
 | cons p r ih =>
  obtain ⟨k,y⟩:=p
  simp only [look] at h
  cases hb:Nat.beq k t with
  | true =>
   rw [hb] at h
   simp only [cond_true,Option.some.injEq] at h
   have:=Nat.eq_of_beq_eq_true hb
   subst this; subst h
   exact List.mem_cons_self
  | false =>
   rw [hb] at h
   exact List.mem_cons_of_mem _ (ih (by simpa using h))
theorem look_none {α:Type} {l:List (Nat × α)} {t:Nat} (h:t ∉ l.map (·.1)):look l t=none:=by
 induction l with
 | nil=>rfl
 | cons p r ih =>
  obtain ⟨k,y⟩:=p
  simp only [List.map_cons,List.mem_cons,not_or] at h
  have:Nat.beq k t=false:=by
   cases hb:Nat.beq k t with
   | true=>exact absurd (Nat.eq_of_beq_eq_true hb).symm h.1
   | false=>rfl
  simp only [look,this,cond_false]
  exact ih h.2
theorem look_keys {α:Type} {l:List (Nat × α)} {t:Nat} {x:α} (h:look l t=some x):t∈l.map (·.1):=List.mem_map.2 ⟨_,look_mem h,rfl⟩
structure Tr where
 need:List (Nat × AV)
 dst:Option Nat
 v:AV
 ro:List (Nat × Blk):=[]
 mem:List (Nat × Blk):=[]
 mem':List (Nat × Blk):=[]
 gs:List (Nat × Bool):=[]
def Tr.wk (τ:Tr):List Nat:=τ.mem.map (·.1)++τ.mem'.map (·.1)
def Tr.created (τ:Tr):List Nat:=(τ.mem'.map (·.1)).filter fun k=>!(τ.mem.map (·.1)).contains k
def Tr.men (τ:Tr):List Nat:=τ.v.keys++τ.mem'.flatMap fun p=>p.1 :: p.2.keys
structure En (τ:Tr) (A:M):Prop where
 need:∀ p,p∈τ.need→A.sl p.1=p.2
 ro:∀ p,p∈τ.ro→A.lb p.1=some p.2
 mem:∀ p,p∈τ.mem→A.lb p.1=some p.2
def Tr.apply (τ:Tr) (A:M):M :=
 {sl:=fun t=>if τ.dst=some t then τ.v else A.sl t
  lb:=fun k=>match look τ.mem' k with | some b=>some b | none=>if k∈τ.mem.map (·.1) then none else A.lb k }
def Tr.indep (τ σ:Tr):Bool :=
 (match τ.dst with | some d=>!(σ.need.map (·.1)).contains d&&σ.dst != some d | none=>true) &&
 (match σ.dst with | some d=>!(τ.need.map (·.1)).contains d | none=>true) &&
 τ.wk.all (fun k=>!(σ.wk++σ.ro.map (·.1)).contains k)&&σ.wk.all (fun k=>!(τ.ro.map (·.1)).contains k) &&
 σ.created.all (fun k=>!τ.men.contains k)&&τ.created.all (fun k=>!σ.men.contains k)
structure Indep (τ σ:Tr):Prop where
 a:∀ d,τ.dst=some d→d ∉ σ.need.map (·.1)
 b:∀ d,τ.dst=some d→σ.dst≠some d
 c:∀ d,σ.dst=some d→d ∉ τ.need.map (·.1)
 d:∀ k,k∈τ.wk→k ∉ σ.wk
 e:∀ k,k∈τ.wk→k ∉ σ.ro.map (·.1)
 f:∀ k,k∈σ.wk→k ∉ τ.ro.map (·.1)
 g:∀ k,k∈σ.created→k ∉ τ.men
 h:∀ k,k∈τ.created→k ∉ σ.men
theorem Tr.indep_spec {τ σ:Tr} (h:τ.indep σ=true):Indep τ σ:=by
 simp only [Tr.indep,Bool.and_eq_true] at h
 obtain ⟨⟨⟨⟨⟨h1,h2⟩,h3⟩,h4⟩,h5⟩,h6⟩:=h
 simp only [List.all_eq_true,Bool.not_eq_true',List.contains_eq_mem,List.mem_append,decide_eq_false_iff_not,not_or] at h3 h4 h5 h6
 refine ⟨fun d hd=>?_,fun d hd=>?_,fun d hd=>?_,fun k hk=>(h3 k hk).1,fun k hk=>(h3 k hk).2,h4,h5,h6⟩
 ·rw [hd] at h1; simp only [Bool.and_eq_true,Bool.not_eq_true',List.contains_eq_mem,decide_eq_false_iff_not] at h1; exact h1.1
 ·rw [hd] at h1; simp only [Bool.and_eq_true,bne_iff_ne] at h1; exact h1.2
 ·rw [hd] at h2; simpa using h2
theorem mem_wk {τ:Tr} {k:Nat}:k∈τ.wk↔k∈τ.mem.map (·.1)∨k∈τ.mem'.map (·.1):=by simp [Tr.wk]
theorem Tr.apply_lb {τ:Tr} {A:M} {k:Nat} (h:k ∉ τ.wk):(τ.apply A).lb k=A.lb k:=by
 rw [mem_wk,not_or] at h
 simp only [Tr.apply,look_none h.2,h.1,if_false]
theorem Tr.apply_sl {τ:Tr} {A:M} {t:Nat} (h:τ.dst≠some t):(τ.apply A).sl t=A.sl t:=by simp [Tr.apply,h]
theorem commute {τ σ:Tr} {A:M} (hi:Indep τ σ) (h1:En τ A) (h2:En σ (τ.apply A)):En σ A∧En τ (σ.apply A)∧σ.apply (τ.apply A)=τ.apply (σ.apply A):=by
 refine ⟨⟨fun p hp=>?_,fun p hp=>?_,fun p hp=>?_⟩,⟨fun p hp=>?_,fun p hp=>?_,fun p hp=>?_⟩,?_⟩
 ·rw [← h2.need p hp,Tr.apply_sl]
  exact fun e=>hi.a p.1 e (List.mem_map.2 ⟨p,hp,rfl⟩)
 ·rw [← h2.ro p hp,Tr.apply_lb]
  exact fun e=>hi.e p.1 e (List.mem_map.2 ⟨p,hp,rfl⟩)
 ·rw [← h2.mem p hp,Tr.apply_lb]
  exact fun e=>hi.d p.1 e (mem_wk.2 (.inl (List.mem_map.2 ⟨p,hp,rfl⟩)))
 ·rw [← h1.need p hp,Tr.apply_sl]
  exact fun e=>hi.c p.1 e (List.mem_map.2 ⟨p,hp,rfl⟩)
 ·rw [← h1.ro p hp,Tr.apply_lb]
  exact fun e=>hi.f p.1 e (List.mem_map.2 ⟨p,hp,rfl⟩)
 ·rw [← h1.mem p hp,Tr.apply_lb]
  exact fun e=>hi.d p.1 (mem_wk.2 (.inl (List.mem_map.2 ⟨p,hp,rfl⟩))) e
 ·have e1:(σ.apply (τ.apply A)).sl=(τ.apply (σ.apply A)).sl:=by
   funext t
   simp only [Tr.apply]
   by_cases c1:σ.dst=some t
   ·by_cases c2:τ.dst=some t
    ·exact absurd c1 (hi.b t c2)
    ·simp [c1,c2]
   ·simp [c1]
  have e2:(σ.apply (τ.apply A)).lb=(τ.apply (σ.apply A)).lb:=by
   funext k
   by_cases c1:k∈σ.wk
   ·have c2:k ∉ τ.wk:=fun e=>hi.d k e c1
    rw [Tr.apply_lb (τ:=τ) c2]
    simp only [Tr.apply]
    have c3:=c2
    rw [mem_wk,not_or] at c3
    simp only [look_none c3.2,c3.1,if_false]
   ·rw [Tr.apply_lb (τ:=σ) c1]
    simp only [Tr.apply]
    have c3:=c1
    rw [mem_wk,not_or] at c3
    simp only [look_none c3.2,c3.1,if_false]
  show M.mk _ _=M.mk _ _
  rw [show (σ.apply (τ.apply A))=⟨(σ.apply (τ.apply A)).sl,(σ.apply (τ.apply A)).lb⟩ from rfl] at *
  exact congr (congrArg M.mk e1) e2
def Exec:List Tr→M→M→Prop
 | [],A,B=>A=B
 | τ :: L,A,B=>En τ A∧Exec L (τ.apply A) B
theorem move_front {τ:Tr} {l2:List Tr} {B:M}:∀ (l1:List Tr) (A:M),Exec (l1++τ :: l2) A B→(∀ σ,σ∈l1→Indep σ τ)→En τ A∧Exec (l1++l2) (τ.apply A) B
 | [],_,h,_=>h
 | σ :: l1,A,h,hi=>by
  obtain ⟨h1,h2⟩:=h
  obtain ⟨h3,h4⟩:=move_front l1 (σ.apply A) h2 (fun x hx=>hi x (List.mem_cons_of_mem _ hx))
  obtain ⟨c1,c2,c3⟩:=commute (hi σ List.mem_cons_self) h1 h3
  exact ⟨c1,c2,by rw [← c3]; exact h4⟩
theorem Fresh.apply {A:M} {κ:Nat} {τ:Tr} (h:Fresh A κ) (hm:κ ∉ τ.men):Fresh (τ.apply A) κ:=by
 simp only [Tr.men,List.mem_append,List.mem_flatMap,not_or,not_exists,not_and] at hm
 obtain ⟨h1,h2⟩:=hm
 have hk:κ ∉ τ.mem'.map (·.1):=fun e=>by
  obtain ⟨p,hp,rfl⟩:=List.mem_map.1 e
  exact h2 p hp List.mem_cons_self
 refine ⟨fun t=>?_,?_,fun κ' b hb=>?_⟩
 ·simp only [Tr.apply]
  split
  ·exact h1
  ·exact h.sl t
 ·simp only [Tr.apply,look_none hk]
  split
  ·rfl
  ·exact h.lb
 ·simp only [Tr.apply] at hb
  cases hl:look τ.mem' κ' with
  | some b' =>
   rw [hl] at hb
   simp only [Option.some.injEq] at hb
   subst hb
   exact fun e=>h2 (κ',b') (look_mem hl) (List.mem_cons_of_mem _ e)
  | none =>
   rw [hl] at hb
   simp only at hb
   split at hb
   ·cases hb
   ·exact h.bl κ' b hb
def OpSound (C:Cx) (ν:Nat→Bool) (ops:Array Oper) (o:Oper) (τ:Tr):Prop :=
 ∀ A a w S μ,Sim C A a w S μ ν→En τ A→(∀ κ,κ∈τ.created→Fresh A κ)→(∀ p,p∈τ.gs→ν p.1=p.2) →
  if Region.wanted o (yielded ops a.tmps) then o.wp C.P a w (fun a' w'=>∃ S' μ',Sim C (τ.apply A) a' w' S' μ' ν) (fun _ _ _=>False)
  else ∃ S' μ',Sim C (τ.apply A) (a.put o.dst undef) w S' μ' ν
def FreshAll (L:List Tr) (A:M):Prop:=∀ τ,τ∈L→∀ κ,κ∈τ.created→Fresh A κ
def ordOK:List Tr→Bool
 | []=>true
 | τ :: L=>L.all (fun σ=>σ.created.all fun k=>!τ.men.contains k)&&ordOK L
theorem ordOK_cons {τ:Tr} {L:List Tr} (h:ordOK (τ :: L)=true):(∀ σ,σ∈L→∀ k,k∈σ.created→k ∉ τ.men)∧ordOK L=true:=by
 simp only [ordOK,Bool.and_eq_true,List.all_eq_true,Bool.not_eq_true',List.contains_eq_mem,decide_eq_false_iff_not] at h
 exact h
theorem ordOK_mid {τ:Tr}:∀ {l1 l2:List Tr},ordOK (l1++τ :: l2)=true→(∀ σ,σ∈l2→∀ k,k∈σ.created→k ∉ τ.men)∧ordOK (l1++l2)=true
 | [],l2,h=>ordOK_cons h
 | σ :: l1,l2,h=>by
  obtain ⟨h1,h2⟩:=ordOK_cons h
  obtain ⟨h3,h4⟩:=ordOK_mid (l1:=l1) h2
  refine ⟨h3,?_⟩
  simp only [List.cons_append,ordOK,Bool.and_eq_true,List.all_eq_true,Bool.not_eq_true',List.contains_eq_mem,decide_eq_false_iff_not]
  refine ⟨fun x hx k hk=>h1 x ?_ k hk,h4⟩
  rcases List.mem_append.1 hx with hx | hx
  ·exact List.mem_append.2 (.inl hx)
  ·exact List.mem_append.2 (.inr (List.mem_cons_of_mem _ hx))
section
variable {C : Cx} {ν : Nat → Bool} {ops : Array Oper}
theorem wpOps_seq {Q:Exit→Act→World→Prop}:∀ (L:List Tr) (k:Nat) (A B:M) (a:Act) (w:World) (S:Nat→Prop) (μ:Mu),
  k+L.length=ops.size→(∀ i τ o,L[i]? = some τ→ops[k+i]? = some o→OpSound C ν ops o τ∧∀ p,p∈τ.gs→ν p.1=p.2)→Exec L A B→FreshAll L A→ordOK L=true→Sim C A a w S μ ν →
  (∀ a' w' S' μ',Sim C B a' w' S' μ' ν→Q .normal a' w')→wpOps C.P ops Q ((List.range' k L.length)) a w
 | [],k,A,B,a,w,S,μ,_,_,he,_,_,hs,hq=>by
  cases he
  simp [wpOps]; exact hq a w S μ hs
 | τ :: L,k,A,B,a,w,S,μ,hk,ho,he,hf,hord,hs,hq=>by
  have hk':k < ops.size:=by simp at hk; omega
  have hop:ops[k]? = some ops[k]:=Array.getElem?_eq_getElem hk'
  obtain ⟨h1,h2⟩:=he
  obtain ⟨o1,o2⟩:=ordOK_cons hord
  have hrest:∀ a' w' S' μ',Sim C (τ.apply A) a' w' S' μ' ν→wpOps C.P ops Q (List.range' (k+1) L.length) a' w':=fun a' w' S' μ' hs' =>
   wpOps_seq L (k+1) (τ.apply A) B a' w' S' μ' (by simp at hk; omega) (fun i τ' o hi hoi=>ho (i+1) τ' o (by simpa using hi) (by rw [← hoi]; congr 1; omega)) h2
    (fun σ hσ κ hκ=>(hf σ (List.mem_cons_of_mem _ hσ) κ hκ).apply (o1 σ hσ κ hκ)) o2 hs' hq
  have hso:=(ho 0 τ ops[k] rfl (by simp))
  have:=hso.1 A a w S μ hs h1 (hf τ List.mem_cons_self) hso.2
  simp only [List.length_cons,List.range'_succ,wpOps,hop]
  split
  ·rename_i hw
   rw [if_pos hw] at this
   left
   unfold Oper.wp at *
   generalize (execOp a.eval ops[k]).run C.P w=r at *
   cases r with
   | ok n w' =>
    cases n <;> simp only [Oper.upon] at this ⊢ <;>
     first
      | exact (let ⟨S',μ',q⟩:=this; hrest _ _ S' μ' q)
      | exact Calls.mono this (fun e w'' he=>by cases e <;> first | exact (let ⟨S',μ',q⟩:=he; hrest _ _ S' μ' q) | exact he.elim | exact (let ⟨_,_,q⟩:=he; q.elim))
      | exact Rows.mono this (fun _ _ he=>let ⟨S',μ',q⟩:=he; hrest _ _ S' μ' q)
   | halt x w'=>cases x <;> simp only [Oper.upon] at this ⊢ <;> exact this.elim
  ·rename_i hw
   rw [if_neg hw] at this
   exact let ⟨S',μ',q⟩:=this; hrest _ _ S' μ' q
def afterB (o:Oper) (j:Nat):Bool:=o.after.any fun e=>Region.binds .any e&&e.on == j
def heldB (ops:Array Oper):Nat→Nat→Nat→Bool
 | 0,_,_=>false
 | n+1,i,j=>match ops[i]? with | some o=>(o.after.any fun e=>Region.binds .any e&&(e.on == j||heldB ops n e.on j)) | none=>false
theorem heldB_listed {listed:Array Bool} (hcl:∀ (m:Nat) (o:Oper),ops[m]? = some o→listed.getD m false=true→∀ e,e∈o.after→Region.binds .any e=true→listed.getD e.on false=true) :
  ∀ (n i j:Nat) (o:Oper),ops[i]? = some o→(∀ e,e∈o.after→Region.binds .any e=true→listed.getD e.on false=true)→heldB ops n i j=true→listed.getD j false=true
 | 0,_,_,_,_,_,h=>by cases h
 | n+1,i,j,o,ho,hr,h=>by
  simp only [heldB,ho,Array.any_eq_true',Bool.and_eq_true,Bool.or_eq_true,beq_iff_eq] at h
  obtain ⟨e,he1,he2,he3⟩:=h
  have hl:=hr e he1 he2
  rcases he3 with he3 | he3
  ·rw [← he3]; exact hl
  ·cases n with
   | zero=>cases he3
   | succ n =>
    cases ho2:ops[e.on]? with
    | none=>simp [heldB,ho2] at he3
    | some o2=>exact heldB_listed hcl (n+1) e.on j o2 ho2 (hcl e.on o2 ho2 hl) he3
def regOK (ops:Array Oper) (trs:List Tr):Bool :=
 trs.length == ops.size&&ordOK trs &&
 (List.range ops.size).all fun i=>match ops[i]?,trs[i]? with
  | some o,some τ=>(o.after.all fun e=>!Region.binds .any e||decide (e.on < i))&&(List.range i).all fun j=>afterB o j||match trs[j]? with | some σ=>σ.indep τ||heldB ops 4 i j | none=>false
  | _,_=>false
theorem split_at {rem:List Nat} (hs:rem.Pairwise (· < ·)) {i:Nat} (hi:i∈rem):∃ r1 r2,rem=r1++i :: r2∧(∀ j,j∈r1→j < i):=by
 obtain ⟨r1,r2,rfl⟩:=List.append_of_mem hi
 refine ⟨r1,r2,rfl,fun j hj=>?_⟩
 rw [List.pairwise_append] at hs
 exact hs.2.2 j hj i List.mem_cons_self
theorem wpAny_trs {Q:Exit→Act→World→Prop} (trs:List Tr) (hok:regOK ops trs=true) (hop:∀ (i:Nat) (τ:Tr) (o:Oper),trs[i]? = some τ→ops[i]? = some o→OpSound C ν ops o τ∧∀ p,p∈τ.gs→ν p.1=p.2) (B:M)
  (hq:∀ a' w' S' μ',Sim C B a' w' S' μ' ν→Q .normal a' w') :
  ∀ (fuel:Nat) (rem:List Nat) (listed:Array Bool) (A:M) (a:Act) (w:World) (S:Nat→Prop) (μ:Mu),rem.length=fuel→rem.Pairwise (· < ·)→listed.size=ops.size →
   (∀ i,i∈rem↔(i < ops.size∧listed.getD i true=false))→Exec (rem.map fun i=>trs.getD i ⟨[],none,.any,[],[],[],[]⟩) A B→FreshAll (rem.map fun i=>trs.getD i ⟨[],none,.any,[],[],[],[]⟩) A→ordOK (rem.map fun i=>trs.getD i ⟨[],none,.any,[],[],[],[]⟩)=true →
   (∀ (m:Nat) (o:Oper),ops[m]? = some o→listed.getD m false=true→∀ e,e∈o.after→Region.binds .any e=true→listed.getD e.on false=true)→Sim C A a w S μ ν→wpAny C.P .any ops Q fuel listed a w:=by
 simp only [regOK,Bool.and_eq_true,beq_iff_eq,List.all_eq_true,List.mem_range] at hok
 obtain ⟨⟨hlen,_⟩,hall⟩:=hok
 have hsp:∀ i,i < ops.size→∃ o τ,ops[i]? = some o∧trs[i]? = some τ∧(∀ e,e∈o.after→Region.binds .any e=true→e.on < i)∧∀ j,j < i→(afterB o j=true∨heldB ops 4 i j=true)∨∃ σ,trs[j]? = some σ∧σ.indep τ=true:=by
  intro i hi
  have h:=hall i hi
  have ho:ops[i]? = some ops[i]:=Array.getElem?_eq_getElem hi
  have ht:trs[i]? = some (trs[i]'(by omega)):=List.getElem?_eq_getElem (by omega)
  rw [ho,ht] at h
  simp only [Bool.and_eq_true,Array.all_eq_true',Bool.or_eq_true,Bool.not_eq_true',decide_eq_true_eq,List.all_eq_true,List.mem_range] at h
  refine ⟨_,_,ho,ht,fun e he hb=>?_,fun j hj=>?_⟩
  ·rcases h.1 e he with h' | h'
   ·rw [hb] at h'; cases h'
   ·exact h'
  ·rcases h.2 j hj with h' | h'
   ·exact .inl (.inl h')
   ·have htj:trs[j]? = some (trs[j]'(by omega)):=List.getElem?_eq_getElem (by omega)
    rw [htj] at h'
    simp only [Bool.or_eq_true] at h'
    exact h'.elim (fun h'=>.inr ⟨_,htj,h'⟩) (fun h'=>.inl (.inr h'))
 intro fuel
 induction fuel with
 | zero =>
  intro rem listed A a w S μ hrl _ _ hrem he _ _ _ hs
  have hnil:rem=[]:=List.eq_nil_of_length_eq_zero hrl
  subst hnil
  refine ⟨?_,?_⟩
  ·rw [List.eq_nil_iff_forall_not_mem]
   intro i hi
   obtain ⟨h1,o,ho,_⟩:=mem_ready.1 hi
   have:i∈([]:List Nat):=(hrem i).2 ⟨(Array.getElem?_eq_some_iff.1 ho).1,h1⟩
   cases this
  ·cases he
   exact hq a w S μ hs
 | succ fuel ih =>
  intro rem listed A a w S μ hrl hsort hls hrem he hf hord hcl hs
  refine ⟨fun hr=>?_,fun i hi=>?_⟩
  ·exfalso
   match rem,hrl,hsort,hrem with
   | i :: rem,_,hsort,hrem =>
    have h0:=(hrem i).1 List.mem_cons_self
    obtain ⟨o,τ,ho,_,hb,_⟩:=hsp i h0.1
    have:i∈Region.ready .any ops listed:=mem_ready.2 ⟨h0.2,o,ho,fun e he hbe=>by
     have hlt:=hb e he hbe
     cases hl:listed.getD e.on false with
     | true=>rfl
     | false =>
      exfalso
      have:e.on∈i :: rem:=(hrem e.on).2 ⟨by omega,by
       have h1:e.on < listed.size:=by omega
       simp only [Array.getD_eq_getD_getElem?,Array.getElem?_eq_getElem h1,Option.getD_some] at hl ⊢
       exact hl⟩
      rcases List.mem_cons.1 this with h2 | h2
      ·omega
      ·have:=(List.pairwise_cons.1 hsort).1 e.on h2
       omega⟩
    rw [hr] at this
    cases this
  ·obtain ⟨hun,o',ho',hall'⟩:=mem_ready.1 hi
   have hisz:i < ops.size:=(Array.getElem?_eq_some_iff.1 ho').1
   obtain ⟨o,τ,ho,hτ,hb,hpre⟩:=hsp i hisz
   obtain rfl:o'=o:=by rw [ho] at ho'; exact (Option.some.inj ho').symm
   have hirem:i∈rem:=(hrem i).2 ⟨hisz,hun⟩
   obtain ⟨r1,r2,rfl,hr1⟩:=split_at hsort hirem
   have hτd:trs.getD i ⟨[],none,.any,[],[],[],[]⟩=τ:=by simp [List.getD,hτ]
   simp only [List.map_append,List.map_cons,hτd] at he hf hord
   have hind:∀ σ,σ∈(r1.map fun i=>trs.getD i ⟨[],none,.any,[],[],[],[]⟩)→Indep σ τ:=by
    intro σ hσ
    obtain ⟨j,hj,rfl⟩:=List.mem_map.1 hσ
    have hji:=hr1 j hj
    rcases hpre j hji with h' | ⟨σ',hσ',hi'⟩
    ·exfalso
     have h3:listed.getD j false=true:=by
      rcases h' with h' | h'
      ·simp only [afterB,Array.any_eq_true',Bool.and_eq_true,beq_iff_eq] at h'
       obtain ⟨e,he1,he2,he3⟩:=h'
       have h3:=hall' e he1 he2
       rw [he3] at h3
       exact h3
      ·exact heldB_listed hcl 4 i j o' ho hall' h'
     have h4:=((hrem j).1 (List.mem_append.2 (.inl hj))).2
     have h5:j < listed.size:=by omega
     simp only [Array.getD_eq_getD_getElem?,Array.getElem?_eq_getElem h5,Option.getD_some] at h3 h4
     rw [h3] at h4
     cases h4
    ·have:trs.getD j ⟨[],none,.any,[],[],[],[]⟩=σ':=by simp [List.getD,hσ']
     rw [this]
     exact Tr.indep_spec hi'
   obtain ⟨hen,hex⟩:=move_front _ A he hind
   obtain ⟨om,ord'⟩:=ordOK_mid hord
   have hso:=hop i τ o' hτ ho
   have hstep:=hso.1 A a w S μ hs hen (hf τ (List.mem_append.2 (.inr List.mem_cons_self))) hso.2
   have hfr:FreshAll ((r1++r2).map fun i=>trs.getD i ⟨[],none,.any,[],[],[],[]⟩) (τ.apply A):=by
    intro σ hσ κ hκ
    rw [List.map_append] at hσ
    rcases List.mem_append.1 hσ with h' | h'
    ·exact (hf σ (List.mem_append.2 (.inl h')) κ hκ).apply ((hind σ h').h κ hκ)
    ·exact (hf σ (List.mem_append.2 (.inr (List.mem_cons_of_mem _ h'))) κ hκ).apply (om σ h' κ hκ)
   have hlt:i < listed.size:=by omega
   have hrest:∀ a' w' S' μ',Sim C (τ.apply A) a' w' S' μ' ν→wpAny C.P .any ops Q fuel (listed.setIfInBounds i true) a' w':=fun a' w' S' μ' hs' =>
    ih (r1++r2) (listed.setIfInBounds i true) (τ.apply A) a' w' S' μ' (by simp at hrl ⊢; omega) (by
     rw [List.pairwise_append] at hsort ⊢
     exact ⟨hsort.1,(List.pairwise_cons.1 hsort.2.1).2,fun x hx y hy=>hsort.2.2 x hx y (List.mem_cons_of_mem _ hy)⟩) (by simpa using hls) (fun j=>by
     have hnd:i ∉ r1++r2:=by
      intro hc
      rw [List.pairwise_append] at hsort
      rcases List.mem_append.1 hc with hc | hc
      ·exact absurd (hsort.2.2 i hc i List.mem_cons_self) (Nat.lt_irrefl i)
      ·exact absurd ((List.pairwise_cons.1 hsort.2.1).1 i hc) (Nat.lt_irrefl i)
     by_cases hji:j=i
     ·subst hji
      refine ⟨fun hc=>absurd hc hnd,fun hc=>?_⟩
      have:=hc.2
      simp [Array.getD,hlt] at this
     ·rw [getD_set_ne true (fun e=>hji e.symm)]
      rw [← hrem j]
      simp [hji]) (by rw [List.map_append]; exact hex) hfr (by rw [List.map_append]; exact ord') (fun m o hm hl e he1 he2=>by
      have key:listed.getD e.on false=true:=by
       by_cases hmi:m=i
       ·subst hmi
        rw [ho] at hm
        obtain rfl:=Option.some.inj hm
        exact hall' e he1 he2
       ·rw [getD_set_ne false (fun e=>hmi e.symm)] at hl
        exact hcl m o hm hl e he1 he2
      by_cases hei:e.on=i
      ·rw [hei]; simp [Array.getD,hlt]
      ·rw [getD_set_ne false (fun e=>hei e.symm)]; exact key) hs'
   show wpOp C.P ops Q i _ a w
   unfold wpOp
   simp only [ho]
   split
   ·rename_i hw
    rw [if_pos hw] at hstep
    left
    unfold Oper.wp at *
    generalize (execOp a.eval o').run C.P w=r at *
    cases r with
    | ok n w' =>
     cases n <;> simp only [Oper.upon] at hstep ⊢ <;>
      first
       | exact (let ⟨S',μ',q⟩:=hstep; hrest _ _ S' μ' q)
       | exact Calls.mono hstep (fun e w'' he=>by cases e <;> first | exact (let ⟨S',μ',q⟩:=he; hrest _ _ S' μ' q) | exact he.elim | exact (let ⟨_,_,q⟩:=he; q.elim))
       | exact Rows.mono hstep (fun _ _ he=>let ⟨S',μ',q⟩:=he; hrest _ _ S' μ' q)
    | halt x w'=>cases x <;> simp only [Oper.upon] at hstep ⊢ <;> exact hstep.elim
   ·rename_i hw
    rw [if_neg hw] at hstep
    exact let ⟨S',μ',q⟩:=hstep; hrest _ _ S' μ' q
def dfT:Tr:=⟨[],none,.any,[],[],[],[]⟩
structure Swap (τ σ τ':Tr):Prop where
 sw:∀ A,En τ A→En σ (τ.apply A)→En σ A∧En τ' (σ.apply A)∧σ.apply (τ.apply A)=τ'.apply (σ.apply A)
theorem Indep.swap {τ σ:Tr} (h:Indep τ σ):Swap τ σ τ:=⟨fun A h1 h2=>commute h h1 h2⟩
theorem move_tf {τ:Tr} {l2:List Tr} {B:M} {f g:Nat→Tr}:∀ (l1:List Nat) (A:M),Exec (l1.map f++τ :: l2) A B→(∀ j,j∈l1→Swap (f j) τ (g j))→En τ A∧Exec (l1.map g++l2) (τ.apply A) B
 | [],_,h,_=>h
 | j :: l1,A,h,hi=>by
  obtain ⟨h1,h2⟩:=h
  obtain ⟨h3,h4⟩:=move_tf l1 ((f j).apply A) h2 (fun x hx=>hi x (List.mem_cons_of_mem _ hx))
  obtain ⟨c1,c2,c3⟩:=(hi j List.mem_cons_self).sw A h1 h3
  exact ⟨c1,c2,by rw [← c3]; exact h4⟩
theorem ordOK_congr {f g:Nat→Tr} (h:∀ i,(f i).created=(g i).created∧(f i).men=(g i).men):∀ (l:List Nat),ordOK (l.map f)=ordOK (l.map g)
 | []=>rfl
 | i :: l=>by
  simp only [List.map_cons,ordOK,List.all_map,Function.comp_def]
  rw [ordOK_congr h l,(h i).2]
  have:(fun x=>(f x).created.all fun k=>!(g i).men.contains k)=fun x=>(g x).created.all fun k=>!(g i).men.contains k:=by funext x; rw [(h x).1]
  rw [this]
theorem wpAny_tf {Q:Exit→Act→World→Prop} (tf:Bool→Nat→Tr) (i0 j0:Nat) (hij:i0 < j0) (hop:∀ (f:Bool) (i:Nat) (o:Oper),ops[i]? = some o→OpSound C ν ops o (tf f i)∧∀ p,p∈(tf f i).gs→ν p.1=p.2)
  (hsp:∀ (f:Bool) (i:Nat),i < ops.size→∃ o,ops[i]? = some o∧(∀ e,e∈o.after→Region.binds .any e=true→e.on < i)∧∀ j,j < i→(afterB o j=true∨heldB ops 4 i j=true)∨(j=i0∧i=j0)∨Indep (tf f j) (tf f i))
  (hsame:∀ i,i≠i0→tf true i=tf false i) (hswap:Swap (tf false i0) (tf false j0) (tf true i0)) (hcr:(tf false i0).created=[]) (hcm:(tf true i0).created=(tf false i0).created∧(tf true i0).men=(tf false i0).men) (B:M)
  (hq:∀ a' w' S' μ',Sim C B a' w' S' μ' ν→Q .normal a' w') :
  ∀ (fuel:Nat) (rem:List Nat) (f:Bool) (listed:Array Bool) (A:M) (a:Act) (w:World) (S:Nat→Prop) (μ:Mu),(f=true→j0 ∉ rem)→rem.length=fuel→rem.Pairwise (· < ·)→listed.size=ops.size →
   (∀ i,i∈rem↔(i < ops.size∧listed.getD i true=false))→Exec (rem.map (tf f)) A B→FreshAll (rem.map (tf f)) A→ordOK (rem.map (tf f))=true →
   (∀ (m:Nat) (o:Oper),ops[m]? = some o→listed.getD m false=true→∀ e,e∈o.after→Region.binds .any e=true→listed.getD e.on false=true)→Sim C A a w S μ ν→wpAny C.P .any ops Q fuel listed a w:=by
 have hcmA:∀ f f' i,(tf f i).created=(tf f' i).created∧(tf f i).men=(tf f' i).men:=fun f f' i=>by
  by_cases c:i=i0
  ·subst c
   cases f <;> cases f' <;> first | exact ⟨rfl,rfl⟩ | exact hcm | exact ⟨hcm.1.symm,hcm.2.symm⟩
  ·cases f <;> cases f' <;> simp only [hsame i c] <;> exact ⟨trivial,trivial⟩
 intro fuel
 induction fuel with
 | zero =>
  intro rem f listed A a w S μ _ hrl _ _ hrem he _ _ _ hs
  have hnil:rem=[]:=List.eq_nil_of_length_eq_zero hrl
  subst hnil
  refine ⟨?_,?_⟩
  ·rw [List.eq_nil_iff_forall_not_mem]
   intro i hi
   obtain ⟨h1,o,ho,_⟩:=mem_ready.1 hi
   have:i∈([]:List Nat):=(hrem i).2 ⟨(Array.getElem?_eq_some_iff.1 ho).1,h1⟩
   cases this
  ·cases he
   exact hq a w S μ hs
 | succ fuel ih =>
  intro rem f listed A a w S μ hfl hrl hsort hls hrem he hf hord hcl hs
  refine ⟨fun hr=>?_,fun i hi=>?_⟩
  ·exfalso
   match rem,hrl,hsort,hrem with
   | i :: rem,_,hsort,hrem =>
    have h0:=(hrem i).1 List.mem_cons_self
    obtain ⟨o,ho,hb,_⟩:=hsp f i h0.1
    have:i∈Region.ready .any ops listed:=mem_ready.2 ⟨h0.2,o,ho,fun e he hbe=>by
     have hlt:=hb e he hbe
     cases hl:listed.getD e.on false with
     | true=>rfl
     | false =>
      exfalso
      have:e.on∈i :: rem:=(hrem e.on).2 ⟨by omega,by
       have h1:e.on < listed.size:=by omega
       simp only [Array.getD_eq_getD_getElem?,Array.getElem?_eq_getElem h1,Option.getD_some] at hl ⊢
       exact hl⟩
      rcases List.mem_cons.1 this with h2 | h2
      ·omega
      ·have:=(List.pairwise_cons.1 hsort).1 e.on h2
       omega⟩
    rw [hr] at this
    cases this
  ·obtain ⟨hun,o',ho',hall'⟩:=mem_ready.1 hi
   have hisz:i < ops.size:=(Array.getElem?_eq_some_iff.1 ho').1
   obtain ⟨o,ho,hb,hpre⟩:=hsp f i hisz
   obtain rfl:o'=o:=by rw [ho] at ho'; exact (Option.some.inj ho').symm
   have hirem:i∈rem:=(hrem i).2 ⟨hisz,hun⟩
   obtain ⟨r1,r2,rfl,hr1⟩:=split_at hsort hirem
   simp only [List.map_append,List.map_cons] at he hf hord
   obtain ⟨f',hf',hfe⟩:∃ f',f'=(f||decide (i=j0))∧(f=false∧i=j0∨f'=f):=⟨_,rfl,by by_cases c:i=j0 <;> cases f <;> simp [c]⟩
   have hni:i ∉ r1++r2:=by
    intro hc
    rw [List.pairwise_append] at hsort
    rcases List.mem_append.1 hc with hc | hc
    ·exact absurd (hsort.2.2 i hc i List.mem_cons_self) (Nat.lt_irrefl i)
    ·exact absurd ((List.pairwise_cons.1 hsort.2.1).1 i hc) (Nat.lt_irrefl i)
   have hswp:∀ j,j∈r1→Swap (tf f j) (tf f i) (tf f' j):=by
    intro j hj
    have hji:=hr1 j hj
    rcases hpre j hji with h' | h' | h'
    ·exfalso
     have h3:listed.getD j false=true:=by
      rcases h' with h' | h'
      ·simp only [afterB,Array.any_eq_true',Bool.and_eq_true,beq_iff_eq] at h'
       obtain ⟨e,he1,he2,he3⟩:=h'
       have h3:=hall' e he1 he2
       rw [he3] at h3
       exact h3
      ·exact heldB_listed hcl 4 i j o' ho hall' h'
     have h4:=((hrem j).1 (List.mem_append.2 (.inl hj))).2
     have h5:j < listed.size:=by omega
     simp only [Array.getD_eq_getD_getElem?,Array.getElem?_eq_getElem h5,Option.getD_some] at h3 h4
     rw [h3] at h4
     cases h4
    ·obtain ⟨rfl,rfl⟩:=h'
     have hff:f=false:=by
      cases f with
      | false=>rfl
      | true=>exact absurd hirem (hfl rfl)
     subst hff
     have:f'=true:=by rw [hf']; simp
     rw [this]
     exact hswap
    ·rcases hfe with ⟨e1,e2⟩ | e1
     ·subst e1
      have:f'=true:=by rw [hf',e2]; simp
      rw [this]
      by_cases c:j=i0
      ·rw [c,e2]; exact hswap
      ·rw [hsame j c]; exact h'.swap
     ·rw [e1]; exact h'.swap
   have hr2:r2.map (tf f)=r2.map (tf f'):=by
    refine List.map_congr_left (fun j hj=>?_)
    rcases hfe with ⟨e1,e2⟩ | e1
    ·have hlt:i < j:=by
      rw [List.pairwise_append] at hsort
      exact (List.pairwise_cons.1 hsort.2.1).1 j hj
     have hne:j≠i0:=by omega
     cases f <;> cases f' <;> simp only [hsame j hne]
    ·rw [e1]
   obtain ⟨hen,hex⟩:=move_tf (f:=tf f) (g:=tf f') r1 A he hswp
   obtain ⟨om,ord'⟩:=ordOK_mid hord
   have hso:=hop f i o' ho
   have hstep:=hso.1 A a w S μ hs hen (hf _ (List.mem_append.2 (.inr List.mem_cons_self))) hso.2
   have hindF:∀ j,j∈r1→∀ κ,κ∈(tf f j).created→κ ∉ (tf f i).men:=by
    intro j hj κ hκ
    have hji:=hr1 j hj
    rcases hpre j hji with h' | h' | h'
    ·exfalso
     have h3:listed.getD j false=true:=by
      rcases h' with h' | h'
      ·simp only [afterB,Array.any_eq_true',Bool.and_eq_true,beq_iff_eq] at h'
       obtain ⟨e,he1,he2,he3⟩:=h'
       have h3:=hall' e he1 he2
       rw [he3] at h3
       exact h3
      ·exact heldB_listed hcl 4 i j o' ho hall' h'
     have h4:=((hrem j).1 (List.mem_append.2 (.inl hj))).2
     have h5:j < listed.size:=by omega
     simp only [Array.getD_eq_getD_getElem?,Array.getElem?_eq_getElem h5,Option.getD_some] at h3 h4
     rw [h3] at h4
     cases h4
    ·obtain ⟨rfl,rfl⟩:=h'
     rw [(hcmA f false j).1,hcr] at hκ
     cases hκ
    ·exact h'.h κ hκ
   have hfr:FreshAll ((r1++r2).map (tf f')) ((tf f i).apply A):=by
    intro σ hσ κ hκ
    obtain ⟨j,hj,rfl⟩:=List.mem_map.1 hσ
    rw [(hcmA f' f j).1] at hκ
    rcases List.mem_append.1 hj with h' | h'
    ·exact (hf _ (List.mem_append.2 (.inl (List.mem_map.2 ⟨j,h',rfl⟩))) κ hκ).apply (hindF j h' κ hκ)
    ·exact (hf _ (List.mem_append.2 (.inr (List.mem_cons_of_mem _ (List.mem_map.2 ⟨j,h',rfl⟩)))) κ hκ).apply (om _ (List.mem_map.2 ⟨j,h',rfl⟩) κ hκ)
   have hlt:i < listed.size:=by omega
   have hrest:∀ a' w' S' μ',Sim C ((tf f i).apply A) a' w' S' μ' ν→wpAny C.P .any ops Q fuel (listed.setIfInBounds i true) a' w':=fun a' w' S' μ' hs' =>
    ih (r1++r2) f' (listed.setIfInBounds i true) ((tf f i).apply A) a' w' S' μ' (fun h0=>by
     rcases hfe with ⟨e1,e2⟩ | e1
     ·rw [← e2]; exact hni
     ·rw [e1] at h0
      intro hc
      refine hfl h0 ?_
      rcases List.mem_append.1 hc with hc | hc
      ·exact List.mem_append.2 (.inl hc)
      ·exact List.mem_append.2 (.inr (List.mem_cons_of_mem _ hc))) (by simp at hrl ⊢; omega) (by
     rw [List.pairwise_append] at hsort ⊢
     exact ⟨hsort.1,(List.pairwise_cons.1 hsort.2.1).2,fun x hx y hy=>hsort.2.2 x hx y (List.mem_cons_of_mem _ hy)⟩) (by simpa using hls) (fun j=>by
     have hnd:=hni
     by_cases hji:j=i
     ·subst hji
      refine ⟨fun hc=>absurd hc hnd,fun hc=>?_⟩
      have:=hc.2
      simp [Array.getD,hlt] at this
     ·rw [getD_set_ne true (fun e=>hji e.symm)]
      rw [← hrem j]
      simp [hji]) (by rw [List.map_append,← hr2]; exact hex) hfr (by rw [ordOK_congr (hcmA f' f),List.map_append]; exact ord') (fun m o hm hl e he1 he2=>by
      have key:listed.getD e.on false=true:=by
       by_cases hmi:m=i
       ·subst hmi
        rw [ho] at hm
        obtain rfl:=Option.some.inj hm
        exact hall' e he1 he2
       ·rw [getD_set_ne false (fun e=>hmi e.symm)] at hl
        exact hcl m o hm hl e he1 he2
      by_cases hei:e.on=i
      ·rw [hei]; simp [Array.getD,hlt]
      ·rw [getD_set_ne false (fun e=>hei e.symm)]; exact key) hs'
   show wpOp C.P ops Q i _ a w
   unfold wpOp
   simp only [ho]
   split
   ·rename_i hw
    rw [if_pos hw] at hstep
    left
    unfold Oper.wp at *
    generalize (execOp a.eval o').run C.P w=r at *
    cases r with
    | ok n w' =>
     cases n <;> simp only [Oper.upon] at hstep ⊢ <;>
      first
       | exact (let ⟨S',μ',q⟩:=hstep; hrest _ _ S' μ' q)
       | exact Calls.mono hstep (fun e w'' he=>by cases e <;> first | exact (let ⟨S',μ',q⟩:=he; hrest _ _ S' μ' q) | exact he.elim | exact (let ⟨_,_,q⟩:=he; q.elim))
       | exact Rows.mono hstep (fun _ _ he=>let ⟨S',μ',q⟩:=he; hrest _ _ S' μ' q)
    | halt x w'=>cases x <;> simp only [Oper.upon] at hstep ⊢ <;> exact hstep.elim
   ·rename_i hw
    rw [if_neg hw] at hstep
    exact let ⟨S',μ',q⟩:=hstep; hrest _ _ S' μ' q
end
/-- what must hold; the equations that are meant to hold by computation stand apart -/
inductive Ob where
  | tt
  | pr (p:Prop)
  | be (a b:Bool)
  | ne (a b:Nat)
  | ze (a b:Int)
  | fe (f g:Nat→List D)
  | me (f g:Nat→Value × D)
  | ve (a b:AV)
  | two (a b:Ob)
  | wh (e w:Bool) (a:Ob)

def Ob.den:Ob→Prop
  | .tt=>True
  | .pr p=>p
  | .be a b=>a=b
  | .ne a b=>a=b
  | .ze a b=>a=b
  | .fe f g=>f=g
  | .me f g=>f=g
  | .ve a b=>a=b
  | .two a b=>a.den∧b.den
  | .wh e w a=>e=w→a.den

def Ob.and:Ob→Ob→Ob
  | .tt,b=>b
  | a,.tt=>a
  | a,b=>.two a b

def Ob.imp (e w:Bool):Ob→Ob
  | .tt=>.tt
  | a=>.wh e w a

theorem Ob.and_den {a b:Ob} (h:(a.and b).den):a.den∧b.den:=by
  unfold Ob.and at h
  split at h
  · exact ⟨trivial,h⟩
  · exact ⟨h,trivial⟩
  · exact h

theorem Ob.imp_den {a:Ob} {e w:Bool} (h:(a.imp e w).den) (he:e=w):a.den:=by
  unfold Ob.imp at h
  split at h
  · trivial
  · exact h he

/-- kinds of types,as far as operations look at them -/
inductive TK where
  | int (k:IntKind)
  | bool
  | str
  | struct (fs:List (Nat × Nat))
  | slice (e:Nat)
  | array (n e:Nat)
  | map (k e:Nat)
  | other
  deriving DecidableEq

structure TI where
  kind:TK
  size:Nat
  bytes:Nat
  zero:List D
  eq:Bool:=false

def scalarEq:Value→Value→Bool
  | .bool a,.bool b=>a == b
  | .int k a,.int k' b=>decide (k=k')&&a == b
  | .string a,.string b=>a.data.toList == b.data.toList
  | .nilFunc,.nilFunc=>true
  | .nilIface,.nilIface=>true
  | .pointer none,.pointer none=>true
  | .map none,.map none=>true
  | .slice none 0 0,.slice none 0 0=>true
  | _,_=>false

theorem scalarEq_spec {x y:Value} (h:scalarEq x y=true):x=y∧scalar x=true:=by
  unfold scalarEq at h
  split at h <;> simp_all [scalar]
  rename_i a b
  obtain ⟨⟨a⟩⟩:=a
  obtain ⟨⟨b⟩⟩:=b
  simp_all

def zeroOK:List Value→List D→Bool
  | [],[]=>true
  | x :: xs,.v y :: ys=>scalarEq x y&&zeroOK xs ys
  | _,_=>false

def kindOK (P:Program) (t:Nat):TK→Bool
  | .int k=>match P.underlying t with | some (.int k')=>decide (k=k') | _=>false
  | .bool=>match P.underlying t with | some .bool=>true | _=>false
  | .str=>match P.underlying t with | some .string=>true | _=>false
  | .struct fs=>match P.underlying t with | some (.struct gs)=>gs.toList.map (fun f=>(f.offset,f.type)) == fs | _=>false
  | .slice e=>match P.underlying t with | some (.slice e')=>e == e' | _=>false
  | .array n e=>match P.underlying t with | some (.array n' e')=>n == n'&&e == e' | _=>false
  | .map k e=>match P.underlying t with | some (.map k' e')=>k == k'&&e == e' | _=>false
  | .other=>match P.underlying t with | some (.struct _)=>false | some (.array _ _)=>false | some _=>true | none=>false

def fieldEqOK (P:Program) (f:Field):Bool :=
  f.name != "_"&&(match P.info? f.type with | some i=>i.size == 1 | none=>false)&&match P.underlying f.type with | some (.int _)=>true | some .bool=>true | some .string=>true | _=>false

/-- a field of a struct whose values are compared: of a scalar type,or a struct itself -/
def fieldEqOK' (P:Program) (f:Field):Bool :=
  f.name != "_"&&(fieldEqOK P f||match P.underlying f.type with | some (.struct _)=>true | _=>false)

def tiOK (P:Program) (t:Nat) (i:TI):Bool :=
  (match P.info? t with
   | some j=>j.size == i.size&&j.bytes == i.bytes&&i.zero.length == i.size&&(match j.zero with | some z=>zeroOK z.cells.toList i.zero | none=>false)
   | none=>false)&&kindOK P t i.kind &&
  (!i.eq||(!P.stoodInHeld t&&!P.eqGuardType P.depth t&&match P.underlying t with | some (.struct gs)=>gs.toList.all (fieldEqOK' P) | _=>false))

def TOk (P:Program) (T:List (Nat × TI)):Prop:=∀ t i,look T t=some i→tiOK P t i=true

def TOkB (P:Program):List (Nat × TI)→Bool
  | []=>true
  | (t,i) :: r=>tiOK P t i&&TOkB P r

theorem TOk.of {P:Program} {T:List (Nat × TI)} (h:TOkB P T=true):TOk P T:=by
  induction T with
  | nil=>intro t i h; simp [look] at h
  | cons p r ih =>
    obtain ⟨k,j⟩:=p
    simp only [TOkB,Bool.and_eq_true] at h
    intro t i hl
    simp only [look] at hl
    cases hb:Nat.beq k t with
    | true =>
      rw [hb] at hl
      simp only [cond_true,Option.some.injEq] at hl
      have:=Nat.eq_of_beq_eq_true hb
      subst this; subst hl
      exact h.1
    | false =>
      rw [hb] at hl
      exact ih h.2 t i (by simpa using hl)

theorem zeroOK_rd {w:World} {S:Nat→Prop}:∀ {xs:List Value} {ds:List D},zeroOK xs ds=true→xs.length=ds.length∧∀ i,i < ds.length→Rd w S (ds.getD i default) (xs.getD i undef)
  | [],[],_=>⟨rfl,fun i hi=>absurd hi (by simp)⟩
  | x :: xs,.v y :: ys,h=>by
    simp only [zeroOK,Bool.and_eq_true] at h
    obtain ⟨h1,h2⟩:=zeroOK_rd (w:=w) (S:=S) h.2
    obtain ⟨e,hs⟩:=scalarEq_spec h.1
    subst e
    refine ⟨by simp [h1],fun i hi=>?_⟩
    cases i with
    | zero=>simpa using Rd.v x hs
    | succ i=>simpa using h2 i (by simpa using hi)
  | [],.v _ :: _,h=>by simp [zeroOK] at h
  | [],.agg _ :: _,h=>by simp [zeroOK] at h
  | [],.sl _ _ :: _,h=>by simp [zeroOK] at h
  | _ :: _,[],h=>by simp [zeroOK] at h
  | _ :: _,.agg _ :: _,h=>by simp [zeroOK] at h
  | _ :: _,.sl _ _ :: _,h=>by simp [zeroOK] at h

structure TiFacts (P:Program) (t:Nat) (i:TI) (j:TypeInfo) (z:Value):Prop where
  info:P.info? t=some j
  size:j.size=i.size
  bytes:j.bytes=i.bytes
  zero:j.zero=some z
  zok:zeroOK z.cells.toList i.zero=true
  zlen:i.zero.length=i.size
  kind:kindOK P t i.kind=true

theorem tiOK_facts {P:Program} {t:Nat} {i:TI} (h:tiOK P t i=true):∃ j z,TiFacts P t i j z:=by
  simp only [tiOK,Bool.and_eq_true] at h
  obtain ⟨⟨h1,h2⟩,_⟩:=h
  cases hi:P.info? t with
  | none=>rw [hi] at h1; cases h1
  | some j =>
    rw [hi] at h1
    simp only [Bool.and_eq_true,beq_iff_eq] at h1
    cases hz:j.zero with
    | none=>rw [hz] at h1; simp at h1
    | some z =>
      rw [hz] at h1
      exact ⟨j,z,hi,h1.1.1.1,h1.1.1.2,hz,h1.2,h1.1.2,h2⟩

section
variable {C : Cx} {A : M} {a : Act} {w : World} {S : Nat → Prop} {μ : Mu} {ν : Nat → Bool}

/-- An operation that yields a value and leaves the world alone. -/
theorem core_value {o:Oper} {τ:Tr} (hs:Sim C A a w S μ ν) (hd:∀ t,o.dst=some t→t < C.nt) {x:Value} (hrun:(execOp a.eval o).run C.P w=.ok (.value x) w) (hr:Rel w S μ ν τ.v x)
    (h1:τ.dst=o.dst) (h2:τ.mem=[]) (h3:τ.mem'=[]):o.wp C.P a w (fun a' w'=>∃ S' μ',Sim C (τ.apply A) a' w' S' μ' ν) (fun _ _ _=>False):=by
  unfold Oper.wp
  rw [hrun]
  refine ⟨S,μ,?_⟩
  have:=hs.put hd hr
  have e:τ.apply A=A.putO o.dst τ.v:=by
    unfold Tr.apply M.putO M.put
    rw [h1,h2,h3]
    cases ho:o.dst with
    | none=>simp [look]
    | some d =>
      simp only [look,List.map_nil,List.not_mem_nil,if_false,Option.some.injEq]
      congr 1
      funext t
      by_cases c:d=t
      · simp [c]
      · have:¬ t=d:=fun e=>c e.symm
        simp [c,this]
  rw [e]
  exact this

theorem rel_scalar {x y:Value} {c:AV} (hc:c=.d (.v x)) (h:Rel w S μ ν c y):y=x:=by
  subst hc
  cases h with
  | d h=>cases h with | v=>rfl

theorem rel_v {x:Value} (h:scalar x=true):Rel w S μ ν (.d (.v x)) x:=.d (.v x h)

/-- a constant -/
def ofConst:Value→Option AV
  | .agg cs=>if cs.toList.all scalar then some (.d (.agg (cs.toList.map .v))) else none
  | v=>if scalar v then some (.d (.v v)) else none

theorem ofConst_rel {v:Value} {x:AV} (h:ofConst v=some x):Rel w S μ ν x v:=by
  have h0:∀ v,scalar v=true→Rel w S μ ν (.d (.v v)) v:=fun v hv=>rel_v hv
  cases v <;> simp only [ofConst] at h <;> first
    | (split at h
       · rename_i hsc
         simp only [Option.some.injEq] at h
         subst h
         first
         | exact h0 _ hsc
         | (rename_i cs
            refine .d (.agg _ _ (by simp) (fun i hi=>?_))
            have hi':i < cs.size:=by simpa using hi
            simp only [List.all_eq_true] at hsc
            have e1:(cs.toList.map D.v).getD i default=.v cs[i]:=by simp [List.getD,hi']
            have e2:cs.getD i undef=cs[i]:=by simp [Array.getD,hi']
            rw [e1,e2]
            exact .v _ (hsc _ (by simp)))
       · cases h)

end
def AV.cells:AV→Option (List AV)
 | .d (.agg cs)=>some (cs.map .d)
 | .ag l=>some l
 | .any=>none
 | .tup _=>none
 | .g _ _=>none
 | x=>some [x]
def pureL:List AV→Option (List D)
 | []=>some []
 | .d x :: r=>match pureL r with | some l=>some (x :: l) | none=>none
 | _ :: _=>none
def mkAgg (cs:List AV):AV:=match pureL cs with | some ds=>.d (.agg ds) | none=>.ag cs
theorem pureL_spec:∀ {cs:List AV} {ds:List D},pureL cs=some ds→cs=ds.map .d
 | [],ds,h=>by simp only [pureL,Option.some.injEq] at h; subst h; rfl
 | x :: r,ds,h=>by
  cases x with
  | d c =>
   simp only [pureL] at h
   cases hr:pureL r with
   | none=>rw [hr] at h; cases h
   | some l =>
    rw [hr] at h
    simp only [Option.some.injEq] at h
    subst h
    simp [pureL_spec hr]
  | _=>simp [pureL] at h
section
variable {w : World} {S : Nat → Prop} {μ : Mu} {ν : Nat → Bool}
theorem getD_mapd (ds:List D) (i:Nat) (h:i < ds.length):(ds.map AV.d).getD i default=.d (ds.getD i default):=by
 simp [List.getD,h]
theorem rel_d {d:D} {x:Value}:Rel w S μ ν (.d d) x↔Rd w S d x:=⟨fun h=>by cases h with | d h=>exact h,.d⟩
theorem mkAgg_rel {cs:List AV} {vs:Array Value} (hl:vs.size=cs.length) (h:∀ i,i < cs.length→Rel w S μ ν (cs.getD i default) (vs.getD i undef)):Rel w S μ ν (mkAgg cs) (.agg vs):=by
 unfold mkAgg
 cases hp:pureL cs with
 | none=>exact .ag hl h
 | some ds =>
  have e:=pureL_spec hp
  subst e
  refine .d (.agg ds vs (by simpa using hl) (fun i hi=>?_))
  have:=h i (by simpa using hi)
  rw [getD_mapd ds i hi] at this
  exact rel_d.1 this
theorem rd_scalarcells {x y:Value} (h:Rd w S (.v x) y):y=x∧y.cells = #[y]:=by
 cases h with
 | v _ hs=>exact ⟨rfl,by cases x <;> simp [scalar] at hs <;> rfl⟩
theorem cells_rel {x:AV} {v:Value} {cs:List AV} (hc:x.cells=some cs) (h:Rel w S μ ν x v):v.cells.size=cs.length∧∀ i,i < cs.length→Rel w S μ ν (cs.getD i default) (v.cells.getD i undef):=by
 have single:∀ y:AV,some [y]=some cs→Rel w S μ ν y v→v.cells = #[v]→v.cells.size=cs.length∧∀ i,i < cs.length→Rel w S μ ν (cs.getD i default) (v.cells.getD i undef):=by
  intro y e hr hv
  simp only [Option.some.injEq] at e
  subst e
  rw [hv]
  refine ⟨rfl,fun i hi=>?_⟩
  simp only [List.length_singleton] at hi
  obtain rfl:i=0:=by omega
  simpa using hr
 cases h with
 | any=>simp [AV.cells] at hc
 | @d c _ hd =>
  cases c with
  | v y=>exact single _ hc (.d hd) (rd_scalarcells hd).2
  | agg ds =>
   simp only [AV.cells,Option.some.injEq] at hc
   subst hc
   cases hd with
   | agg _ vs hl h =>
    refine ⟨by simpa [Value.cells] using hl,fun i hi=>?_⟩
    simp only [List.length_map] at hi
    rw [getD_mapd ds i hi]
    exact .d (h i hi)
  | sl n f =>
   refine single _ hc (.d hd) ?_
   cases hd <;> rfl
  | mp n k f =>
   refine single _ hc (.d hd) ?_
   cases hd <;> rfl
 | ownNil h=>exact single _ hc (.ownNil h) rfl
 | own h=>exact single _ hc (.own h) rfl
 | ptr h=>exact single _ hc (.ptr h) rfl
 | elt h=>exact single _ hc (.elt h) rfl
 | ref vals hcell h=>exact single _ hc (.ref vals hcell h) rfl
 | nns h=>exact single _ hc (.nns h) rfl
 | mpv h=>exact single _ hc (.mpv h) rfl
 | pmp h=>exact single _ hc (.pmp h) rfl
 | fn hl h=>exact single _ hc (.fn hl h) rfl
 | tup=>simp [AV.cells] at hc
 | ag hl h =>
  simp only [AV.cells,Option.some.injEq] at hc
  subst hc
  exact ⟨hl,h⟩
 | g=>simp [AV.cells] at hc
end
def ptrCells (lb:List (Nat × Blk)):AV→Option (List AV × List (Nat × Blk) × Ob)
 | .ptr key off=>match look lb key with | some (.box cs)=>some (cs.drop off,[(key,.box cs)],.tt) | _=>none
 | .elt key k i off=>match look lb key with | some (.row e k' n f)=>bif Nat.beq k k' then some (((f i).drop off).map .d,[(key,.row e k' n f)],.pr (i < n)) else none | _=>none
 | .ref cs=>some (cs.map .d,[],.tt)
 | _=>none
def AtCells (w:World) (S:Nat→Prop) (μ:Mu) (ν:Nat→Bool) (cs:List AV) (x:Value):Prop :=
 ∃ b o,x=.pointer (some ⟨b,o,none⟩)∧∀ j,j < cs.length→∃ y,w.cell? ⟨b,o+j,none⟩=some y∧Rel w S μ ν (cs.getD j default) y
section
variable {C : Cx} {A : M} {a : Act} {w : World} {S : Nat → Prop} {μ : Mu} {ν : Nat → Bool}
theorem cell_row (w:World) (g i:Nat) (cur:Array Value) (e:TypeId) (fz:Nat × Nat) (hg:w.heap[g]? = some (.cells cur e fz)):w.cell? ⟨g,i,none⟩=cur[i]?:=by
 simp [World.cell?,hg]
theorem ptrCells_at {lb:List (Nat × Blk)} {x:AV} {cs:List AV} {ro:List (Nat × Blk)} {ob:Ob} {v:Value} (h:ptrCells lb x=some (cs,ro,ob)) (hs:Sim C A a w S μ ν) (hro:∀ p,p∈ro→A.lb p.1=some p.2) (hob:ob.den) (hr:Rel w S μ ν x v) :
  AtCells w S μ ν cs v:=by
 cases x with
 | ptr key off =>
  simp only [ptrCells] at h
  cases hl:look lb key with
  | none=>rw [hl] at h; cases h
  | some b =>
   rw [hl] at h
   cases b with
   | row=>cases h
   | mp=>cases h
   | it=>cases h
   | mx=>cases h
   | tx=>cases h
   | rx=>cases h
   | ml=>cases h
   | box bs =>
    simp only [Option.some.injEq,Prod.mk.injEq] at h
    obtain ⟨rfl,rfl,rfl⟩:=h
    cases hr with
    | @ptr _ _ g cap hμ =>
     have hm:=hs.mem key (.box bs) (hro (key,.box bs) (by simp))
     rw [hμ] at hm
     obtain ⟨cur,e,hg,_,hsz,hc⟩:=hm.at
     refine ⟨g,off,rfl,fun j hj=>?_⟩
     simp only [List.length_drop] at hj
     obtain ⟨y,hy,hry⟩:=hc (off+j) (by omega)
     refine ⟨y,by rw [cell_row w g (off+j) cur e _ hg]; exact hy,?_⟩
     have:(bs.drop off).getD j default=bs.getD (off+j) default:=by simp [List.getD]
     rw [this]
     exact hry ν
 | elt key k i off =>
  simp only [ptrCells] at h
  cases hl:look lb key with
  | none=>rw [hl] at h; cases h
  | some b =>
   rw [hl] at h
   cases b with
   | box=>cases h
   | mp=>cases h
   | it=>cases h
   | mx=>cases h
   | tx=>cases h
   | rx=>cases h
   | ml=>cases h
   | row e k' n f =>
    simp only at h
    cases hb:Nat.beq k k' with
    | false=>rw [hb] at h; cases h
    | true =>
     rw [hb] at h
     have hk:=Nat.eq_of_beq_eq_true hb
     subst hk
     simp only [cond_true,Option.some.injEq,Prod.mk.injEq] at h
     obtain ⟨rfl,rfl,rfl⟩:=h
     cases hr with
     | @elt _ _ _ _ g cap hμ =>
      have hm:=hs.mem key (.row e k n f) (hro (key,.row e k n f) (by simp))
      rw [hμ] at hm
      obtain ⟨cur,hg,_,hsz,_,_,hc⟩:=hm.at
      obtain ⟨hlen,hc⟩:=hc i hob
      refine ⟨g,i * k+off,rfl,fun j hj=>?_⟩
      simp only [List.length_map,List.length_drop] at hj
      obtain ⟨y,hy,hry⟩:=hc (off+j) (by omega)
      refine ⟨y,by rw [cell_row w g _ cur e _ hg,Nat.add_assoc]; exact hy,?_⟩
      rw [getD_mapd _ _ (by simp; omega)]
      have:((f i).drop off).getD j default=(f i).getD (off+j) default:=by simp [List.getD]
      rw [this]
      exact .d hry
 | ref ds =>
  simp only [ptrCells,Option.some.injEq,Prod.mk.injEq] at h
  obtain ⟨rfl,rfl,rfl⟩:=h
  cases hr with
  | ref vals hcell h =>
   refine ⟨_,_,rfl,fun j hj=>⟨vals j,(hcell j (by simpa using hj)).2,?_⟩⟩
   rw [getD_mapd _ _ (by simpa using hj)]
   exact .d (h j (by simpa using hj))
 | _=>simp [ptrCells] at h
def isAggK:TK→Bool
 | .struct _=>true
 | .array _ _=>true
 | _=>false
theorem kind_isAgg {P:Program} {t:Nat} {k:TK} (h:kindOK P t k=true) (w:World):(isAgg t).run P w=.ok (isAggK k) w:=by
 unfold isAgg underlying
 cases hu:P.underlying t with
 | none=>cases k <;> simp [kindOK,hu] at h
 | some d=>cases k <;> cases d <;> simp_all [kindOK,isAggK]
def loadC (i:TI) (cs:List AV):Option AV :=
 bif isAggK i.kind then (bif Nat.ble i.size cs.length then some (mkAgg (cs.take i.size)) else none) else cs.head?
theorem addr_add (b o j:Nat):(⟨b,o,none⟩:Addr).add j=⟨b,o+j,none⟩:=by unfold Addr.add; split <;> simp_all
theorem loadC_run {P:Program} {t:Nat} {i:TI} {cs:List AV} {y:AV} {x:Value} (ht:tiOK P t i=true) (h:loadC i cs=some y) (hat:AtCells w S μ ν cs x) :
  ∃ v,(Instr.loadAt t x).run P w=.ok v w∧Rel w S μ ν y v:=by
 obtain ⟨b,o,rfl,hc⟩:=hat
 obtain ⟨ti,z,F⟩:=tiOK_facts ht
 simp only [Instr.loadAt,Instr.sureAddr,Sem.run_bind,Sem.run_pure,Result.andThen_ok,loadVar,kind_isAgg F.kind]
 unfold loadC at h
 cases hk:isAggK i.kind with
 | true =>
  rw [hk] at h
  simp only [cond_true] at h
  cases hb:Nat.ble i.size cs.length with
  | false=>rw [hb] at h; cases h
  | true =>
   rw [hb] at h
   have hle:=Nat.le_of_ble_eq_true hb
   simp only [cond_true,Option.some.injEq] at h
   subst h
   let f:Nat→Value:=fun j=>(w.cell? ⟨b,o+j,none⟩).getD undef
   have hf:∀ j,j < i.size→w.cell? ((⟨b,o,none⟩:Addr).add j)=some (f j):=fun j hj=>by
    obtain ⟨y,hy,_⟩:=hc j (by omega)
    rw [addr_add]
    simp [f,hy]
   have hrun:=run_loadCells (P:=P) w ⟨b,o,none⟩ i.size f hf
   refine ⟨.agg ((List.range i.size).map f).toArray,?_,mkAgg_rel (by simp; omega) (fun j hj=>?_)⟩
   ·simp only [if_true,sizeOf,typeInfo,Sem.run_bind,run_program,Result.andThen_ok,F.info,Sem.run_pure,F.size,hrun]
   ·have hj':j < i.size:=by simp at hj; omega
    obtain ⟨y,hy,hr⟩:=hc j (by omega)
    have e1:(cs.take i.size).getD j default=cs.getD j default:=by simp [List.getD,hj']
    have e2:((List.range i.size).map f).toArray.getD j undef=y:=by simp [Array.getD,hj',f,hy]
    rw [e1,e2]
    exact hr
 | false =>
  rw [hk] at h
  simp only [cond_false] at h
  cases cs with
  | nil=>cases h
  | cons c r =>
   simp only [List.head?_cons,Option.some.injEq] at h
   subst h
   obtain ⟨y,hy,hr⟩:=hc 0 (by simp)
   refine ⟨y,?_,by simpa using hr⟩
   simp only [Nat.add_zero] at hy
   simp [hy]
def fieldOff (T:List (Nat × TI)) (t f:Nat):Option Nat :=
 match look T t with
 | some { kind:=.struct fs,.. }=>match fs[f]? with | some (o,ft)=>(match look T ft with | some i=>bif Nat.beq i.size 0 then none else some o | none=>none) | none=>none
 | _=>none
theorem fieldOff_run {P:Program} {T:List (Nat × TI)} {t f o:Nat} (hT:TOk P T) (h:fieldOff T t f=some o) (b q:Nat):(Instr.fieldAt t (.pointer (some ⟨b,q,none⟩)) f).run P w=.ok (.pointer (some ⟨b,q+o,none⟩)) w:=by
 unfold fieldOff at h
 cases hl:look T t with
 | none=>rw [hl] at h; cases h
 | some i =>
  rw [hl] at h
  obtain ⟨kind,size,bytes,zero,eq⟩:=i
  cases kind <;> try (cases h; done)
  rename_i fs
  simp only at h
  obtain ⟨ti,z,F⟩:=tiOK_facts (hT t _ hl)
  cases hf:fs[f]? with
  | none=>rw [hf] at h; cases h
  | some p =>
   obtain ⟨po,pt⟩:=p
   rw [hf] at h
   simp only at h
   cases hp:look T pt with
   | none=>rw [hp] at h; cases h
   | some j =>
    rw [hp] at h
    simp only at h
    cases hz:Nat.beq j.size 0 with
    | true=>rw [hz] at h; cases h
    | false =>
     rw [hz] at h
     simp only [cond_false,Option.some.injEq] at h
     subst h
     obtain ⟨tj,zj,G⟩:=tiOK_facts (hT pt _ hp)
     have hnz:j.size≠0:=fun e=>by rw [e] at hz; cases hz
     have hk:=F.kind
     simp only [kindOK] at hk
     cases hu:P.underlying t with
     | none=>rw [hu] at hk; cases hk
     | some d =>
      rw [hu] at hk
      cases d <;> try (cases hk; done)
      rename_i gs
      simp only [beq_iff_eq] at hk
      have hg:∃ fd,gs[f]? = some fd∧fd.offset=po∧fd.type=pt:=by
       rw [← hk] at hf
       simp only [List.getElem?_map,Array.getElem?_toList,Option.map_eq_some_iff,Prod.mk.injEq] at hf
       obtain ⟨fd,h1,h2,h3⟩:=hf
       exact ⟨fd,h1,h2,h3⟩
      obtain ⟨fd,h1,h2,h3⟩:=hg
      subst h2; subst h3
      have hsz:¬ tj.size=0:=by rw [G.size]; exact hnz
      simp [Instr.fieldAt,run_underlying hu,h1,Instr.sureAddr,fieldPlace,sizeOf,typeInfo,G.info,hsz,addr_add]
end
def cmpI (op:BinOp) (a b:Int):Option Bool :=
 match op with
 | .eql=>some (a == b)
 | .neq=>some (a != b)
 | .lss=>some (decide (a < b))
 | .leq=>some (decide (a≤b))
 | .gtr=>some (decide (a > b))
 | .geq=>some (decide (a≥b))
 | _=>none
def strLt (a b:ByteArray):Bool:=Op.bytesLess a.toList b.toList
def cmpS (op:BinOp) (a b:ByteArray):Option Bool :=
 match op with
 | .eql=>some (a.toList == b.toList)
 | .neq=>some (!(a.toList == b.toList))
 | .lss=>some (strLt a b)
 | .leq=>some (strLt a b||(a.toList == b.toList))
 | .gtr=>some (!(strLt a b||(a.toList == b.toList)))
 | .geq=>some (!(strLt a b))
 | _=>none
def arithI (op:BinOp) (k:IntKind) (a b:Int):Option (Value × Ob) :=
 match op with
 | .add=>some (.int k (k.wrap (a+b)),.tt)
 | .sub=>some (.int k (k.wrap (a - b)),.tt)
 | .mul=>some (.int k (k.wrap (a * b)),.tt)
 | .quo=>some (.int k (k.wrap (a.tdiv b)),.pr (b≠0))
 | .rem=>some (.int k (a.tmod b),.pr (b≠0))
 | .and=>some (.int k (k.wrap (BitVec.ofInt k.bits a &&& BitVec.ofInt k.bits b).toNat),.tt)
 | .or=>some (.int k (k.wrap (BitVec.ofInt k.bits a ||| BitVec.ofInt k.bits b).toNat),.tt)
 | .xor=>some (.int k (k.wrap (BitVec.ofInt k.bits a ^^^ BitVec.ofInt k.bits b).toNat),.tt)
 | .andNot=>some (.int k (k.wrap (BitVec.ofInt k.bits a &&& ~~~BitVec.ofInt k.bits b).toNat),.tt)
 | _=>none
def isShift:BinOp→Bool
 | .shl | .shr=>true
 | _=>false
def binV (k:TK) (op:BinOp):Value→Value→Option (Value × Ob)
 | .int k a,.int k' b=>match op with
  | .shl=>some (.int k (k.wrap (a * 2 ^ (min b.toNat k.bits))),.pr (0≤b))
  | .shr=>some (.int k (a.fdiv (2 ^ (min b.toNat k.bits))),.pr (0≤b))
  | op=>if k=k' then (match cmpI op a b with | some c=>some (.bool c,.tt) | none=>arithI op k a b) else none
 | .string a,.string b=>match op with
  | .add=>some (.string (a++b),.pr (((a.size+b.size:Nat):Int)≤IntKind.i64.max))
  | op=>(match cmpS op a b with | some c=>some (.bool c,.tt) | none=>none)
 | .bool a,.bool b=>match k,op with
  | .bool,.eql=>some (.bool (a == b),.tt)
  | .bool,.neq=>some (.bool (!(a == b)),.tt)
  | _,_=>none
 | _,_=>none
section
variable {P : Program} {w : World}
theorem eqGuard_int (op:BinOp) (t:TypeId) (x y:Operand) (k k':IntKind) (a b:Int):(eqGuard op t x y (.int k a) (.int k' b)).run P w=.ok () w:=by
 cases op <;> simp [eqGuard]
theorem eqGuard_str (op:BinOp) (t:TypeId) (x y:Operand) (a b:ByteArray):(eqGuard op t x y (.string a) (.string b)).run P w=.ok () w:=by
 cases op <;> simp [eqGuard]
theorem eqGuard_bool (op:BinOp) (t:TypeId) (x y:Operand) (a b:Bool):(eqGuard op t x y (.bool a) (.bool b)).run P w=.ok () w:=by
 cases op <;> simp [eqGuard]
theorem binI_run {op:BinOp} {t:TypeId} {k:IntKind} {a b:Int} {v:Value} {ob:Ob} (hs:isShift op=false)
  (h:(match cmpI op a b with | some c=>some (Value.bool c,.tt) | none=>arithI op k a b)=some (v,ob)) (hob:ob.den):(binOp op t (.int k a) (.int k b)).run P w=.ok v w∧scalar v=true:=by
 cases op <;> simp only [isShift] at hs <;> simp only [cmpI,arithI,Option.some.injEq,Prod.mk.injEq] at h <;> first
  | (obtain ⟨rfl,rfl⟩:=h; simp [binOp,Op.intCmp,Op.intArith,Op.intBits,scalar]; done)
  | (obtain ⟨rfl,rfl⟩:=h; simp only [Ob.den] at hob; simp [binOp,Op.intDiv,scalar,hob]; done)
  | cases h
  | cases hs
theorem binV_run {op:BinOp} {t:TypeId} {i:TI} {x y:Operand} {u v z:Value} {ob:Ob} (ht:tiOK P t i=true) (h:binV i.kind op u v=some (z,ob)) (hob:ob.den) :
  (do eqGuard op t x y u v; binOp op t u v:Sem Value).run P w=.ok z w∧scalar z=true:=by
 unfold binV at h
 split at h
 ·simp only [Sem.run_bind,eqGuard_int,Result.andThen_ok]
  split at h
  ·simp only [Option.some.injEq,Prod.mk.injEq] at h
   obtain ⟨rfl,rfl⟩:=h
   rename_i b _
   have hb:¬ b < 0:=by simp only [Ob.den] at hob; omega
   simp [binOp,Op.shift,scalar,hb]
  ·simp only [Option.some.injEq,Prod.mk.injEq] at h
   obtain ⟨rfl,rfl⟩:=h
   rename_i b _
   have hb:¬ b < 0:=by simp only [Ob.den] at hob; omega
   simp [binOp,Op.shift,scalar,hb]
  ·split at h
   ·rename_i hk
    subst hk
    exact binI_run (by rename_i n1 n2; cases op <;> simp_all [isShift]) h hob
   ·cases h
 ·simp only [Sem.run_bind,eqGuard_str,Result.andThen_ok]
  split at h
  ·simp only [Option.some.injEq,Prod.mk.injEq] at h
   obtain ⟨rfl,rfl⟩:=h
   have:¬ IntKind.i64.max < ((_+_:Nat):Int):=Int.not_lt.2 hob
   simp only [binOp,Op.stringOp,scalar,gt_iff_lt,this,if_false]
   exact ⟨rfl,trivial⟩
  ·cases op <;> simp only [cmpS,Option.some.injEq,Prod.mk.injEq] at h <;> first
    | (obtain ⟨rfl,rfl⟩:=h; simp [binOp,Op.stringOp,scalar,strLt]; done)
    | cases h
 ·obtain ⟨j,zz,F⟩:=tiOK_facts ht
  have hk:=F.kind
  simp only [Sem.run_bind,eqGuard_bool,Result.andThen_ok]
  split at h
  ·rename_i he
   rw [he] at hk
   simp only [Option.some.injEq,Prod.mk.injEq] at h
   obtain ⟨rfl,rfl⟩:=h
   have hu:P.underlying t=some .bool:=by
    simp only [kindOK] at hk
    split at hk
    ·assumption
    ·cases hk
   simp [binOp,Op.equal,Op.maxDepth,run_equalIn_bool w _ t _ _ hu,scalar]
  ·rename_i he
   rw [he] at hk
   simp only [Option.some.injEq,Prod.mk.injEq] at h
   obtain ⟨rfl,rfl⟩:=h
   have hu:P.underlying t=some .bool:=by
    simp only [kindOK] at hk
    split at hk
    ·assumption
    ·cases hk
   simp [binOp,Op.equal,Op.maxDepth,run_equalIn_bool w _ t _ _ hu,scalar]
  ·cases h
 ·cases h
end
def eqS:Value→Value→Option Bool
 | .int k a,.int k' b=>if k=k' then some (a == b) else none
 | .string a,.string b=>some (a.toList == b.toList)
 | .bool a,.bool b=>some (a == b)
 | _,_=>none
def eqFs:List (Nat × Nat)→List D→List D→Option Bool
 | [],_,_=>some true
 | (o,_) :: r,cs,ds=>match cs[o]?,ds[o]? with
  | some (.v x),some (.v y)=>(match eqS x y,eqFs r cs ds with | some a,some b=>some (a&&b) | _,_=>none)
  | _,_=>none
section
variable {P : Program} {w : World} {S : Nat → Prop} {μ : Mu} {ν : Nat → Bool}
theorem part_one {f:Field} {vs:Array Value} {x:Value} (hf:fieldEqOK P f=true) (hx:vs[f.offset]? = some x):(part f.type vs f.offset).run P w=.ok x w:=by
 simp only [fieldEqOK,Bool.and_eq_true] at hf
 have h2:=hf.2
 unfold part isAgg underlying
 cases hu:P.underlying f.type with
 | none=>rw [hu] at h2; cases h2
 | some d=>rw [hu] at h2; cases d <;> simp_all
theorem equal_one {f:Field} {x y:Value} {b:Bool} (d:Nat) (h:eqS x y=some b) (hk:∀ k n,x=.int k n→∃ k',P.underlying f.type=some (.int k')) (hs:∀ s,x=.string s→P.underlying f.type=some .string) (hb:∀ s,x=.bool s→P.underlying f.type=some .bool) :
  (Op.equalIn (d+1) f.type x y).run P w=.ok b w:=by
 unfold eqS at h
 split at h
 ·split at h
  ·rename_i e
   subst e
   simp only [Option.some.injEq] at h
   subst h
   obtain ⟨k',hu⟩:=hk _ _ rfl
   exact run_equalIn_int w d _ _ _ _ _ hu
  ·cases h
 ·simp only [Option.some.injEq] at h
  subst h
  exact run_equalIn_string w d _ _ _ (hs _ rfl)
 ·simp only [Option.some.injEq] at h
  subst h
  exact run_equalIn_bool w d _ _ _ (hb _ rfl)
 ·cases h
end
def kindFits:TK→Value→Bool
 | .int _,.int _ _=>true
 | .bool,.bool _=>true
 | .str,.string _=>true
 | _,_=>false
def fitsFs (T:List (Nat × TI)):List (Nat × Nat)→List D→Bool
 | [],_=>true
 | (o,t) :: r,cs=>(match cs[o]?,look T t with | some (.v x),some i=>kindFits i.kind x | _,_=>false)&&fitsFs T r cs
section
variable {P : Program} {w : World} {S : Nat → Prop} {μ : Mu} {ν : Nat → Bool}
theorem rd_cell {cs:List D} {vs:Array Value} {o:Nat} {x:Value} (hl:vs.size=cs.length) (h:∀ i,i < cs.length→Rd w S (cs.getD i default) (vs.getD i undef)) (hc:cs[o]? = some (.v x)):vs[o]? = some x:=by
 have ho:o < cs.length:=(List.getElem?_eq_some_iff.1 hc).1
 have:=h o ho
 rw [show cs.getD o default=.v x from by simp [List.getD,hc]] at this
 have e:=(rd_scalarcells this).1
 have hv:o < vs.size:=by omega
 rw [Array.getElem?_eq_getElem hv]
 simp only [Array.getD,hv,dif_pos] at e
 exact congrArg some e
theorem kind_int {t:Nat} {k:IntKind} (h:kindOK P t (.int k)=true):P.underlying t=some (.int k):=by
 simp only [kindOK] at h
 split at h
 ·rename_i e; simp only [decide_eq_true_eq] at h; subst h; exact e
 ·cases h
theorem kind_bool {t:Nat} (h:kindOK P t .bool=true):P.underlying t=some .bool:=by
 simp only [kindOK] at h
 split at h
 ·assumption
 ·cases h
theorem kind_str {t:Nat} (h:kindOK P t .str=true):P.underlying t=some .string:=by
 simp only [kindOK] at h
 split at h
 ·assumption
 ·cases h
theorem kind_slice {t e:Nat} (h:kindOK P t (.slice e)=true):P.underlying t=some (.slice e):=by
 simp only [kindOK] at h
 split at h
 ·rename_i x; simp only [beq_iff_eq] at h; subst h; exact x
 ·cases h
theorem kind_struct {t:Nat} {fs:List (Nat × Nat)} (h:kindOK P t (.struct fs)=true):∃ gs,P.underlying t=some (.struct gs)∧gs.toList.map (fun f=>(f.offset,f.type))=fs:=by
 simp only [kindOK] at h
 split at h
 ·rename_i gs e; simp only [beq_iff_eq] at h; exact ⟨gs,e,h⟩
 ·cases h
theorem kind_array {t n e:Nat} (h:kindOK P t (.array n e)=true):P.underlying t=some (.array n e):=by
 simp only [kindOK] at h
 split at h
 ·rename_i x; simp only [Bool.and_eq_true,beq_iff_eq] at h; obtain ⟨rfl,rfl⟩:=h; exact x
 ·cases h
theorem eqFs_run {T:List (Nat × TI)} (hT:TOk P T) {cs ds:List D} {xs ys:Array Value} (hl:xs.size=cs.length) (h:∀ i,i < cs.length→Rd w S (cs.getD i default) (xs.getD i undef))
  (hl':ys.size=ds.length) (h':∀ i,i < ds.length→Rd w S (ds.getD i default) (ys.getD i undef)) (d:Nat) :
  ∀ (gs:List Field) (b:Bool),gs.all (fieldEqOK' P)=true→fitsFs T (gs.map fun f=>(f.offset,f.type)) cs=true→eqFs (gs.map fun f=>(f.offset,f.type)) cs ds=some b→(Op.eqFields (d+1) xs ys gs).run P w=.ok b w
 | [],b,_,_,he=>by simp only [List.map_nil,eqFs,Option.some.injEq] at he; subst he; rfl
 | g :: gs,b,hok,hfit,he=>by
  simp only [List.all_cons,Bool.and_eq_true] at hok
  simp only [List.map_cons,fitsFs,Bool.and_eq_true] at hfit
  simp only [List.map_cons,eqFs] at he
  cases hc:cs[g.offset]? with
  | none=>rw [hc] at he; cases he
  | some c =>
   cases hd:ds[g.offset]? with
   | none=>rw [hc,hd] at he; cases c <;> cases he
   | some e =>
    rw [hc,hd] at he
    cases c <;> try (cases he; done)
    cases e <;> try (cases he; done)
    rename_i x y
    simp only at he
    cases hq:eqS x y with
    | none=>rw [hq] at he; cases he
    | some q =>
     cases hr:eqFs (gs.map fun f=>(f.offset,f.type)) cs ds with
     | none=>rw [hq,hr] at he; cases he
     | some r =>
      rw [hq,hr] at he
      simp only [Option.some.injEq] at he
      have ih:=eqFs_run hT hl h hl' h' d gs r hok.2 hfit.2 hr
      have hfit1:=hfit.1
      rw [hc] at hfit1
      cases hlk:look T g.type with
      | none=>rw [hlk] at hfit1; cases hfit1
      | some i =>
       rw [hlk] at hfit1
       simp only at hfit1
       obtain ⟨tj,z,F⟩:=tiOK_facts (hT _ _ hlk)
       have hk:=F.kind
       have hok1:fieldEqOK P g=true:=by
        have:=hok.1
        simp only [fieldEqOK',Bool.and_eq_true,Bool.or_eq_true] at this
        refine this.2.elim id (fun h=>?_)
        cases hkk:i.kind <;> rw [hkk] at hfit1 hk <;> simp only [kindFits] at hfit1 <;> try (cases hfit1; done)
        ·rw [kind_int hk] at h; cases h
        ·rw [kind_bool hk] at h; cases h
        ·rw [kind_str hk] at h; cases h
       have p1:=part_one (w:=w) hok1 (rd_cell hl h hc)
       have p2:=part_one (w:=w) hok1 (rd_cell hl' h' hd)
       have p3:=equal_one (w:=w) (f:=g) d hq (fun k n e=>by
        subst e
        cases hkk:i.kind <;> rw [hkk] at hfit1 hk <;> simp only [kindFits] at hfit1 <;> try (cases hfit1; done)
        exact ⟨_,kind_int hk⟩) (fun s e=>by
        subst e
        cases hkk:i.kind <;> rw [hkk] at hfit1 hk <;> simp only [kindFits] at hfit1 <;> try (cases hfit1; done)
        exact kind_str hk) (fun s e=>by
        subst e
        cases hkk:i.kind <;> rw [hkk] at hfit1 hk <;> simp only [kindFits] at hfit1 <;> try (cases hfit1; done)
        exact kind_bool hk)
       have hn:g.name≠ "_":=by
        have:=hok1
        simp only [fieldEqOK,Bool.and_eq_true,bne_iff_ne] at this
        exact this.1.1
       simp only [Op.eqFields,ne_eq,hn,not_false_iff,if_true,Sem.run_bind,p1,p2,p3,Result.andThen_ok,Sem.run_ite]
       cases q with
       | true=>simp only [Bool.not_true,Bool.false_eq_true,if_false,ih]; rw [← he]; rfl
       | false=>simp only [Bool.not_false,if_true,Sem.run_pure]; rw [← he]; rfl
def leafFs (T:List (Nat × TI)) (g:Nat→Option (List Nat)) (sz:Nat):List (Nat × Nat)→Option (List Nat)
 | []=>some []
 | (o,t) :: r=>(match look T t,g t,leafFs T g sz r with
  | some i,some a,some b=>bif Nat.ble (o+i.size) sz&&a.all (fun q=>Nat.ble (q+1) i.size) then some (a.map (· + o)++b) else none
  | _,_,_=>none)
def leafs (T:List (Nat × TI)):Nat→Nat→Option (List Nat)
 | 0,_=>none
 | n+1,t=>(match look T t with
  | some { kind:=.int .i64,size:=1,.. }=>some [0]
  | some { kind:=.struct fs,eq:=true,size:=sz,.. }=>leafFs T (leafs T n) sz fs
  | _=>none)
def intsT (T:List (Nat × TI)) (t:Nat):Option Nat :=
 match look T t with
 | some i=>bif isAggK i.kind&&(match leafs T 8 t with | some l=>l == List.range i.size | none=>false) then some i.size else none
 | none=>none
def allI:List D→Bool
 | []=>true
 | .v (.int .i64 _) :: r=>allI r
 | _=>false
def eqCs:List D→List D→Bool
 | .v (.int _ a) :: r,.v (.int _ b) :: s=>(a == b)&&eqCs r s
 | [],[]=>true
 | _,_=>false
def dval:D→Value
 | .v x=>x
 | _=>undef
def cellEq (xs ys:List Value) (j:Nat):Bool:=match xs[j]?,ys[j]? with
 | some (.int _ a),some (.int _ b)=>a == b
 | _,_=>false
section
variable {P : Program} {w : World} {S : Nat → Prop} {μ : Mu} {ν : Nat → Bool}
def ShapeV (T:List (Nat × TI)) (t:Nat) (u:Value) (xs:List Value):Prop:=∃ i,look T t=some i∧xs.length=i.size∧((isAggK i.kind=true∧u=.agg xs.toArray)∨(isAggK i.kind=false∧xs=[u]))∧∀ x,x∈xs→∃ a,x=.int .i64 a
theorem cellEq_part {xs ys:List Value} {o s q:Nat} (hq:q < s):cellEq ((xs.drop o).take s) ((ys.drop o).take s) q=cellEq xs ys (q+o):=by
 unfold cellEq
 simp only [List.getElem?_take,hq,if_true,List.getElem?_drop,Nat.add_comm]
theorem part_shape {T:List (Nat × TI)} (hT:TOk P T) {ft:Nat} {i:TI} (hi:look T ft=some i) {o:Nat} {xs:List Value} (ho:o+i.size≤xs.length) (hx:∀ x,x∈xs→∃ a,x=.int .i64 a) (hn:isAggK i.kind=false→i.size=1) :
  ∃ u,(part ft xs.toArray o).run P w=.ok u w∧ShapeV T ft u ((xs.drop o).take i.size):=by
 obtain ⟨j,z,F⟩:=tiOK_facts (hT _ _ hi)
 have hsub:∀ x,x∈(xs.drop o).take i.size→∃ a,x=.int .i64 a:=fun x h=>hx x (List.mem_of_mem_drop (List.mem_of_mem_take h))
 cases hk:isAggK i.kind with
 | true =>
  refine ⟨.agg ((xs.drop o).take i.size).toArray,?_,i,hi,by simp; omega,.inl ⟨hk,rfl⟩,hsub⟩
  unfold part
  simp only [Sem.run_bind,kind_isAgg F.kind,Result.andThen_ok,hk,if_true,sizeOf,typeInfo,run_program,F.info,Sem.run_pure,F.size]
  congr 3
  apply Array.ext'
  simp [List.extract_eq_take_drop]
 | false =>
  have h1:=hn hk
  have ho':o < xs.length:=by omega
  refine ⟨xs[o],?_,i,hi,by simp; omega,.inr ⟨hk,?_⟩,hsub⟩
  ·unfold part
   simp [Sem.run_bind,kind_isAgg F.kind,Result.andThen_ok,hk,ho']
  ·rw [h1,List.drop_eq_getElem_cons ho']
   rfl
theorem all_map_add (l:List Nat) (o:Nat) (f:Nat→Bool):(l.map (· + o)).all f=l.all fun q=>f (q+o):=by simp [List.all_map,Function.comp_def]
theorem leafs_scalar {T:List (Nat × TI)} {n t:Nat} {l:List Nat} {i:TI} (h:leafs T n t=some l) (hi:look T t=some i):(isAggK i.kind=false→i.size=1∧i.kind=.int .i64∧l=[0]):=by
 cases n with
 | zero=>cases h
 | succ n =>
  unfold leafs at h
  rw [hi] at h
  intro hk
  split at h
  ·rename_i e
   simp only [Option.some.injEq] at e h
   subst e
   exact ⟨rfl,rfl,h.symm⟩
  ·rename_i e
   simp only [Option.some.injEq] at e
   subst e
   cases hk
  ·cases h
theorem equalIn_leaf {T:List (Nat × TI)} (hT:TOk P T):∀ (n t:Nat) (l:List Nat),leafs T n t=some l→∀ (d:Nat),n≤d→∀ (u v:Value) (xs ys:List Value),ShapeV T t u xs→ShapeV T t v ys→(Op.equalIn d t u v).run P w=.ok (l.all (cellEq xs ys)) w
 | 0,_,_,h,_,_,_,_,_,_,_,_=>by cases h
 | n+1,t,l,h,d,hd,u,v,xs,ys,⟨i,hi,hlx,hu,hx⟩,⟨i',hi',hly,hv,hy⟩=>by
  rw [hi] at hi'
  cases hi'
  obtain ⟨d,rfl⟩:∃ q,d=q+1:=⟨d - 1,by omega⟩
  have ht:=hT _ _ hi
  obtain ⟨j,z,F⟩:=tiOK_facts ht
  cases hk:isAggK i.kind with
  | false =>
   obtain ⟨h1,h2,h3⟩:=leafs_scalar h hi hk
   subst h3
   obtain ⟨_,rfl⟩:=hu.resolve_left (fun e=>by rw [hk] at e; cases e.1)
   obtain ⟨_,rfl⟩:=hv.resolve_left (fun e=>by rw [hk] at e; cases e.1)
   obtain ⟨a,rfl⟩:=hx u (by simp)
   obtain ⟨b,rfl⟩:=hy v (by simp)
   have hkk:=F.kind
   rw [h2] at hkk
   rw [run_equalIn_int w d t .i64 .i64 a b (kind_int hkk)]
   simp [cellEq]
  | true =>
   obtain ⟨_,rfl⟩:=hu.resolve_right (fun e=>by rw [hk] at e; cases e.1)
   obtain ⟨_,rfl⟩:=hv.resolve_right (fun e=>by rw [hk] at e; cases e.1)
   unfold leafs at h
   rw [hi] at h
   split at h
   ·rename_i e
    simp only [Option.some.injEq] at e
    subst e
    cases hk
   ·rename_i fs sz bb zz e
    simp only [Option.some.injEq] at e
    subst e
    obtain ⟨gs,hug,hgs⟩:=kind_struct F.kind
    simp only [tiOK,Bool.and_eq_true,Bool.not_true,Bool.false_or] at ht
    obtain ⟨_,⟨hst,_⟩,hall⟩:=ht
    rw [hug] at hall
    simp only at hall
    have hst':P.stoodInHeld t=false:=by simpa using hst
    have hfo:P.fieldsOf t=gs:=by simp [Program.fieldsOf,hug]
    rw [run_equalIn_struct w d t _ _ (by rw [hfo]; exact hug) hst',hfo]
    subst hgs
    have key:∀ (gs:List Field) (l:List Nat),gs.all (fieldEqOK' P)=true→leafFs T (leafs T n) sz (gs.map fun f=>(f.offset,f.type))=some l→(Op.eqFields d xs.toArray ys.toArray gs).run P w=.ok (l.all (cellEq xs ys)) w:=by
     intro gs
     induction gs with
     | nil=>intro l _ h; simp only [List.map_nil,leafFs,Option.some.injEq] at h; subst h; rfl
     | cons g gs ih =>
      intro l hok h
      simp only [List.all_cons,Bool.and_eq_true] at hok
      simp only [List.map_cons,leafFs] at h
      split at h
      ·rename_i ig a b hig ha hb
       rw [Bool.cond_eq_ite] at h
       split at h
       ·rename_i hc
        simp only [Bool.and_eq_true] at hc
        simp only [Option.some.injEq] at h
        subst h
        have hle:=Nat.le_of_ble_eq_true hc.1
        simp only at hlx hly
        obtain ⟨u,p1,s1⟩:=part_shape (w:=w) hT hig (o:=g.offset) (xs:=xs) (by omega) hx (fun hk=>(leafs_scalar ha hig hk).1)
        obtain ⟨v,p2,s2⟩:=part_shape (w:=w) hT hig (o:=g.offset) (xs:=ys) (by omega) hy (fun hk=>(leafs_scalar ha hig hk).1)
        have p3:=equalIn_leaf hT n g.type a ha d (by omega) u v _ _ s1 s2
        have ih':=ih b hok.2 hb
        have hn:g.name≠ "_":=by
         have:=hok.1
         simp only [fieldEqOK',Bool.and_eq_true,bne_iff_ne] at this
         exact this.1
        have ea:a.all (cellEq ((xs.drop g.offset).take ig.size) ((ys.drop g.offset).take ig.size))=(a.map (· + g.offset)).all (cellEq xs ys):=by
         rw [all_map_add]
         have hin:∀ q,q∈a→q < ig.size:=fun q hq=>Nat.le_of_ble_eq_true (List.all_eq_true.1 hc.2 q hq)
         clear ha hc p3
         induction a with
         | nil=>rfl
         | cons q r ihh=>simp only [List.all_cons]; rw [cellEq_part (hin q (by simp)),ihh (fun p hp=>hin p (by simp [hp]))]
        simp only [Op.eqFields,ne_eq,hn,not_false_iff,if_true,Sem.run_bind,p1,p2,p3,Result.andThen_ok,Sem.run_ite]
        rw [List.all_append,← ea]
        cases hq:a.all (cellEq ((xs.drop g.offset).take ig.size) ((ys.drop g.offset).take ig.size)) with
        | true=>simp only [Bool.not_true,Bool.false_eq_true,if_false,ih',Bool.true_and]
        | false=>simp only [Bool.not_false,if_true,Sem.run_pure,Bool.false_and]
       ·cases h
      ·cases h
    exact key gs.toList l hall h
   ·cases h
theorem getD_toList' (vs:Array Value) (i:Nat):vs.getD i undef=vs.toList.getD i undef:=by
 simp [Array.getD,List.getD]
 split <;> simp_all
theorem allI_map:∀ {cs:List D},allI cs=true→∀ x,x∈cs.map dval→∃ a,x=.int .i64 a
 | [],_,x,hx=>by cases hx
 | .v (.int .i64 a) :: r,h,x,hx=>by
  simp only [List.map_cons,List.mem_cons] at hx
  rcases hx with rfl | hx
  ·exact ⟨a,rfl⟩
  ·exact allI_map (cs:=r) h x hx
theorem allI_vals:∀ {cs:List D} {xs:List Value},allI cs=true→xs.length=cs.length→(∀ i,i < cs.length→Rd w S (cs.getD i default) (xs.getD i undef))→xs=cs.map dval
 | [],xs,_,hl,_=>by simpa using hl
 | .v (.int .i64 a) :: r,[],_,hl,_=>by cases hl
 | .v (.int .i64 a) :: r,x :: xs,h,hl,hr=>by
  have h0:=hr 0 (by simp)
  simp only [List.getD_cons_zero] at h0
  cases h0
  rw [allI_vals (cs:=r) (xs:=xs) h (by simpa using hl) (fun i hi=>by simpa using hr (i+1) (by simpa using hi))]
  rfl
theorem range_eqCs:∀ {cs ds:List D},allI cs=true→allI ds=true→cs.length=ds.length→(List.range cs.length).all (cellEq (cs.map dval) (ds.map dval))=eqCs cs ds
 | [],[],_,_,_=>rfl
 | [],_ :: _,_,_,h=>by cases h
 | _ :: _,[],_,_,h=>by cases h
 | .v (.int .i64 a) :: r,.v (.int .i64 b) :: s,h,k,hl=>by
  have ih:=range_eqCs (cs:=r) (ds:=s) h k (by simpa using hl)
  rw [List.length_cons,List.range_succ_eq_map,List.all_cons,List.all_map]
  have e:(cellEq ((D.v (.int .i64 a) :: r).map dval) ((D.v (.int .i64 b) :: s).map dval) ∘ Nat.succ)=cellEq (r.map dval) (s.map dval):=by
   funext j
   simp [cellEq]
  rw [e,ih]
  simp [cellEq,dval,eqCs]
theorem intsT_spec {T:List (Nat × TI)} {t n:Nat} (h:intsT T t=some n):∃ i,look T t=some i∧isAggK i.kind=true∧i.size=n∧leafs T 8 t=some (List.range n):=by
 unfold intsT at h
 cases hi:look T t with
 | none=>rw [hi] at h; cases h
 | some i =>
  rw [hi] at h
  simp only at h
  cases hl:leafs T 8 t with
  | none=>rw [hl] at h; simp at h
  | some l =>
   rw [hl] at h
   simp only at h
   cases hk:isAggK i.kind with
   | false=>simp [hk] at h
   | true =>
    cases he:(l == List.range i.size) with
    | false=>simp [hk,he] at h
    | true =>
     simp only [hk,he,Bool.and_self,cond_true,Option.some.injEq] at h
     subst h
     exact ⟨i,rfl,hk,rfl,by rw [eq_of_beq he]⟩
theorem equal_ints {T:List (Nat × TI)} (hT:TOk P T) {t n:Nat} (h:intsT T t=some n) {cs ds:List D} (hc:allI cs=true) (hd:allI ds=true) (lc:cs.length=n) (ld:ds.length=n) (d:Nat) (hdep:8≤d) :
  (Op.equalIn d t (.agg (cs.map dval).toArray) (.agg (ds.map dval).toArray)).run P w=.ok (eqCs cs ds) w:=by
 obtain ⟨i,hi,hk,hs,hl⟩:=intsT_spec h
 rw [equalIn_leaf hT 8 t _ hl d hdep _ _ (cs.map dval) (ds.map dval) ⟨i,hi,by simp [lc,hs],.inl ⟨hk,rfl⟩,allI_map hc⟩ ⟨i,hi,by simp [ld,hs],.inl ⟨hk,rfl⟩,allI_map hd⟩,← lc,range_eqCs hc hd (lc.trans ld.symm)]
end
def binN (T:List (Nat × TI)) (t:Nat) (op:BinOp) (cs ds:List D):Option Bool :=
 match intsT T t,op with
 | some n,.eql=>bif allI cs&&allI ds&&Nat.beq cs.length n&&Nat.beq ds.length n then some (eqCs cs ds) else none
 | some n,.neq=>bif allI cs&&allI ds&&Nat.beq cs.length n&&Nat.beq ds.length n then some (!eqCs cs ds) else none
 | _,_=>none
def binA (T:List (Nat × TI)) (i:TI) (op:BinOp) (cs ds:List D):Option Bool :=
 match i.kind,i.eq,op with
 | .struct fs,true,.eql=>bif fitsFs T fs cs then eqFs fs cs ds else none
 | .struct fs,true,.neq=>bif fitsFs T fs cs then (match eqFs fs cs ds with | some b=>some (!b) | none=>none) else none
 | _,_,_=>none
theorem binA_run {T:List (Nat × TI)} (hT:TOk P T) {t:Nat} {i:TI} (hi:look T t=some i) {op:BinOp} {x y:Operand} {cs ds:List D} {xs ys:Array Value} {b:Bool} (hb:binA T i op cs ds=some b)
  (h1:Rd w S (.agg cs) (.agg xs)) (h2:Rd w S (.agg ds) (.agg ys)):(do eqGuard op t x y (.agg xs) (.agg ys); binOp op t (.agg xs) (.agg ys):Sem Value).run P w=.ok (.bool b) w:=by
 have ht:=hT t i hi
 obtain ⟨j,z,F⟩:=tiOK_facts ht
 have hk:=F.kind
 cases h1 with
 | agg _ _ hl h =>
  cases h2 with
  | agg _ _ hl' h' =>
   unfold binA at hb
   have key:∀ fs b',i.kind=.struct fs→i.eq=true→fitsFs T fs cs=true→eqFs fs cs ds=some b'→P.eqGuardType P.depth t=false∧(Op.equalIn 10000 t (.agg xs) (.agg ys)).run P w=.ok b' w:=by
    intro fs b' hkk heq hfit he
    rw [hkk] at hk
    obtain ⟨gs,hu,hgs⟩:=kind_struct hk
    simp only [tiOK,Bool.and_eq_true,heq,Bool.not_true,Bool.false_or] at ht
    obtain ⟨_,⟨hst,hgd⟩,hall⟩:=ht
    rw [hu] at hall
    simp only at hall
    have hst':P.stoodInHeld t=false:=by simpa using hst
    have hgd':P.eqGuardType P.depth t=false:=by simpa using hgd
    refine ⟨hgd',?_⟩
    have hfo:P.fieldsOf t=gs:=by simp [Program.fieldsOf,hu]
    rw [run_equalIn_struct w 9999 t xs ys (by rw [hfo]; exact hu) hst',hfo]
    subst hgs
    exact eqFs_run hT hl h hl' h' 9998 gs.toList b' hall hfit he
   split at hb
   ·rename_i fs hkk heq
    cases hfit:fitsFs T fs cs with
    | false=>rw [hfit] at hb; cases hb
    | true =>
     rw [hfit] at hb
     simp only [cond_true] at hb
     obtain ⟨q1,q2⟩:=key fs b hkk heq hfit hb
     simp only [Sem.run_bind,run_eqGuard_agg w _ t x y xs ys q1,Result.andThen_ok,run_eql_struct,q2]
   ·rename_i fs hkk heq
    cases hfit:fitsFs T fs cs with
    | false=>rw [hfit] at hb; cases hb
    | true =>
     rw [hfit] at hb
     simp only [cond_true] at hb
     cases he:eqFs fs cs ds with
     | none=>rw [he] at hb; cases hb
     | some b' =>
      rw [he] at hb
      simp only [Option.some.injEq] at hb
      obtain ⟨q1,q2⟩:=key fs b' hkk heq hfit he
      simp only [Sem.run_bind,run_eqGuard_agg w _ t x y xs ys q1,Result.andThen_ok,run_neq_struct,q2,hb]
   ·cases hb
theorem binN_run {T:List (Nat × TI)} (hT:TOk P T) {t:Nat} {op:BinOp} {x y:Operand} {cs ds:List D} {xs ys:Array Value} {b:Bool} (hb:binN T t op cs ds=some b)
  (h1:Rd w S (.agg cs) (.agg xs)) (h2:Rd w S (.agg ds) (.agg ys)):(do eqGuard op t x y (.agg xs) (.agg ys); binOp op t (.agg xs) (.agg ys):Sem Value).run P w=.ok (.bool b) w:=by
 cases h1 with
 | agg _ _ hl h =>
  cases h2 with
  | agg _ _ hl' h' =>
   have key:∀ n,intsT T t=some n→(allI cs&&allI ds&&Nat.beq cs.length n&&Nat.beq ds.length n)=true→P.eqGuardType P.depth t=false∧(Op.equalIn 10000 t (.agg xs) (.agg ys)).run P w=.ok (eqCs cs ds) w:=by
    intro n hn hc
    simp only [Bool.and_eq_true] at hc
    obtain ⟨⟨⟨c1,c2⟩,c3⟩,c4⟩:=hc
    have e1:xs=(cs.map dval).toArray:=by
     have:=allI_vals (xs:=xs.toList) c1 (by simpa using hl) (fun i hi=>by rw [← getD_toList']; exact h i hi)
     rw [← this]
    have e2:ys=(ds.map dval).toArray:=by
     have:=allI_vals (xs:=ys.toList) c2 (by simpa using hl') (fun i hi=>by rw [← getD_toList']; exact h' i hi)
     rw [← this]
    have h3:=equal_ints (w:=w) hT hn c1 c2 (Nat.eq_of_beq_eq_true c3) (Nat.eq_of_beq_eq_true c4) 10000 (by omega)
    rw [← e1,← e2] at h3
    obtain ⟨i,hi,hk,hs,hlf⟩:=intsT_spec hn
    refine ⟨?_,h3⟩
    unfold leafs at hlf
    rw [hi] at hlf
    split at hlf
    ·rename_i e; simp only [Option.some.injEq] at e; subst e; cases hk
    ·rename_i fs sz bb zz e
     simp only [Option.some.injEq] at e
     subst e
     have ht:=hT _ _ hi
     simp only [tiOK,Bool.and_eq_true,Bool.not_true,Bool.false_or] at ht
     obtain ⟨_,⟨_,hgd⟩,_⟩:=ht
     simpa using hgd
    ·cases hlf
   unfold binN at hb
   split at hb
   ·rename_i n hn
    rw [Bool.cond_eq_ite] at hb
    split at hb
    ·rename_i hc
     simp only [Option.some.injEq] at hb
     obtain ⟨q1,q2⟩:=key n hn hc
     simp only [Sem.run_bind,run_eqGuard_agg w _ t x y xs ys q1,Result.andThen_ok,run_eql_struct,q2,hb]
    ·cases hb
   ·rename_i n hn
    rw [Bool.cond_eq_ite] at hb
    split at hb
    ·rename_i hc
     simp only [Option.some.injEq] at hb
     obtain ⟨q1,q2⟩:=key n hn hc
     simp only [Sem.run_bind,run_eqGuard_agg w _ t x y xs ys q1,Result.andThen_ok,run_neq_struct,q2,hb]
    ·cases hb
   ·cases hb
end
def fillA (place:Nat→Option (Nat × Nat)) (cells:List AV):List (Nat × AV)→Option (List AV)
 | []=>some cells
 | (i,v) :: rest=>match place i,v.cells with
  | some (off,size),some cs=>bif Nat.beq cs.length size&&Nat.ble (off+size) cells.length then fillA place (cells.take off++cs++cells.drop (off+size)) rest else none
  | _,_=>none
theorem fold_set (off:Nat):∀ (l:List Value) (n:Nat) (cells:Array Value),(l.zipIdx n).foldl (fun cs (p:Value × Nat)=>cs.setIfInBounds (off+p.2) p.1) cells =
  (if off+n+l.length≤cells.size then (cells.toList.take (off+n)++l++cells.toList.drop (off+n+l.length)).toArray else (l.zipIdx n).foldl (fun cs (p:Value × Nat)=>cs.setIfInBounds (off+p.2) p.1) cells)
 | [],n,cells=>by simp
 | x :: l,n,cells=>by
  split
  ·rename_i h
   simp only [List.zipIdx_cons,List.foldl_cons]
   rw [fold_set off l (n+1) (cells.setIfInBounds (off+n) x),if_pos (by simp at h ⊢; omega)]
   apply congrArg List.toArray
   have e:=list_seg_step cells.toList (off+n) x l (by simp at h ⊢; omega)
   simpa [Array.toList_setIfInBounds,Nat.add_assoc] using e
  ·rfl
section
variable {P : Program} {w : World} {S : Nat → Prop} {μ : Mu} {ν : Nat → Bool}
def RelL (w:World) (S:Nat→Prop) (μ:Mu) (ν:Nat→Bool) (cs:List AV) (vs:List Value):Prop:=vs.length=cs.length∧∀ i,i < cs.length→Rel w S μ ν (cs.getD i default) (vs.getD i undef)
theorem RelL.append {cs ds:List AV} {xs ys:List Value} (h:RelL w S μ ν cs xs) (k:RelL w S μ ν ds ys):RelL w S μ ν (cs++ds) (xs++ys):=by
 refine ⟨by simp [h.1,k.1],fun i hi=>?_⟩
 by_cases hi':i < cs.length
 ·have e1:(cs++ds).getD i default=cs.getD i default:=by simp [List.getD,List.getElem?_append_left hi']
  have e2:(xs++ys).getD i undef=xs.getD i undef:=by simp [List.getD,List.getElem?_append_left (by rw [h.1]; exact hi':i < xs.length)]
  rw [e1,e2]
  exact h.2 i hi'
 ·have e1:(cs++ds).getD i default=ds.getD (i - cs.length) default:=by simp [List.getD,List.getElem?_append_right (Nat.le_of_not_lt hi')]
  have e2:(xs++ys).getD i undef=ys.getD (i - cs.length) undef:=by
   simp only [List.getD]
   rw [List.getElem?_append_right (by rw [h.1]; omega),h.1]
  rw [e1,e2]
  exact k.2 _ (by simp at hi; omega)
theorem RelL.take {cs:List AV} {xs:List Value} (h:RelL w S μ ν cs xs) (n:Nat):RelL w S μ ν (cs.take n) (xs.take n):=by
 refine ⟨by simp [h.1],fun i hi=>?_⟩
 simp only [List.length_take] at hi
 have e1:(cs.take n).getD i default=cs.getD i default:=by simp [List.getD,(by omega:i < n)]
 have e2:(xs.take n).getD i undef=xs.getD i undef:=by simp [List.getD,(by omega:i < n)]
 rw [e1,e2]
 exact h.2 i (by omega)
theorem RelL.drop {cs:List AV} {xs:List Value} (h:RelL w S μ ν cs xs) (n:Nat):RelL w S μ ν (cs.drop n) (xs.drop n):=by
 refine ⟨by simp [h.1],fun i hi=>?_⟩
 simp only [List.length_drop] at hi
 have e1:(cs.drop n).getD i default=cs.getD (n+i) default:=by simp [List.getD]
 have e2:(xs.drop n).getD i undef=xs.getD (n+i) undef:=by simp [List.getD]
 rw [e1,e2]
 exact h.2 _ (by omega)
theorem getD_toList (vs:Array Value) (i:Nat):vs.getD i undef=vs.toList.getD i undef:=by
 simp [Array.getD_eq_getD_getElem?,List.getD]
theorem cells_relL {x:AV} {v:Value} {cs:List AV} (hc:x.cells=some cs) (h:Rel w S μ ν x v):RelL w S μ ν cs v.cells.toList:=by
 obtain ⟨h1,h2⟩:=cells_rel hc h
 exact ⟨by simpa using h1,fun i hi=>by rw [← getD_toList]; exact h2 i hi⟩
theorem fillA_run (place:Nat→Option (Nat × Nat)):∀ (ps:List (Nat × AV)) (qs:List (Nat × Value)) (cells r:List AV) (cur:Array Value),RelL w S μ ν cells cur.toList →
  qs.length=ps.length→(∀ (i:Nat) (p:Nat × AV) (q:Nat × Value),ps[i]? = some p→qs[i]? = some q→p.1=q.1∧Rel w S μ ν p.2 q.2)→fillA place cells ps=some r→∃ cur',Instr.fill place cur qs=some cur'∧RelL w S μ ν r cur'.toList
 | [],[],cells,r,cur,h,_,_,hf=>by
  simp only [fillA,Option.some.injEq] at hf
  subst hf
  exact ⟨cur,rfl,h⟩
 | [],_ :: _,_,_,_,_,hl,_,_=>by simp at hl
 | _ :: _,[],_,_,_,_,hl,_,_=>by simp at hl
 | (i,v) :: ps,(i',u) :: qs,cells,r,cur,h,hl,hp,hf=>by
  obtain ⟨rfl,hr⟩:i=i'∧Rel w S μ ν v u:=hp 0 (i,v) (i',u) rfl rfl
  simp only [fillA] at hf
  cases hpl:place i with
  | none=>rw [hpl] at hf; cases hf
  | some os =>
   obtain ⟨off,size⟩:=os
   cases hc:v.cells with
   | none=>rw [hpl,hc] at hf; cases hf
   | some cs =>
    rw [hpl,hc] at hf
    simp only at hf
    cases hb:(Nat.beq cs.length size&&Nat.ble (off+size) cells.length) with
    | false=>rw [hb] at hf; cases hf
    | true =>
     rw [hb] at hf
     simp only [Bool.and_eq_true] at hb
     have hsz:=Nat.eq_of_beq_eq_true hb.1
     have hle:=Nat.le_of_ble_eq_true hb.2
     have hcr:=cells_relL hc hr
     have hus:u.cells.size=size:=by have:=hcr.1; simp at this; omega
     have hcs:cur.size=cells.length:=by have:=h.1; simpa using this
     simp only [Instr.fill,hpl]
     have hcond:¬ (decide (u.cells.size≠size)||decide (off+u.cells.size > cur.size))=true:=by simp; omega
     rw [if_neg hcond]
     have e:(u.cells.zipIdx.foldl (fun cs (p:Value × Nat)=>cs.setIfInBounds (off+p.2) p.1) cur)=(cur.toList.take off++u.cells.toList++cur.toList.drop (off+size)).toArray:=by
      rw [← Array.foldl_toList,Array.toList_zipIdx,fold_set off u.cells.toList 0 cur,if_pos (by simp; omega)]
      simp [hus]
     refine fillA_run place ps qs _ r _ ?_ (by simpa using hl) (fun j p q h1 h2=>hp (j+1) p q (by simpa using h1) (by simpa using h2)) hf
     show RelL w S μ ν _ (Array.toList (u.cells.zipIdx.foldl (fun cs (p:Value × Nat)=>cs.setIfInBounds (off+p.2) p.1) cur))
     rw [e]
     exact ((h.take off).append hcr).append (h.drop (off+size))
end
def sizesOf (T:List (Nat × TI)):List (Nat × Nat)→Option (List (Nat × Nat))
 | []=>some []
 | (o,t) :: r=>match look T t,sizesOf T r with | some i,some l=>some ((o,i.size) :: l) | _,_=>none
def valsOf (ρ:Operand→Option AV):List (Nat × Operand)→Option (List (Nat × AV))
 | []=>some []
 | (i,x) :: r=>match ρ x,valsOf ρ r with | some v,some l=>some ((i,v) :: l) | _,_=>none
def argsOf (ρ:Operand→Option AV):List Operand→Option (List AV)
 | []=>some []
 | x :: r=>match ρ x,argsOf ρ r with | some v,some l=>some (v :: l) | _,_=>none
abbrev EvR:=Option (AV × List (Nat × Blk) × Ob)
def ok (v:AV):EvR:=some (v,[],.tt)
def evField (T:List (Nat × TI)) (t f:Nat) (x:AV):EvR :=
 match fieldOff T t f with
 | some o=>(match x with
  | .ptr k off=>ok (.ptr k (off+o))
  | .elt key k i off=>ok (.elt key k i (off+o))
  | .ref cs=>ok (.ref (cs.drop o))
  | _=>none)
 | none=>none
def AV.aggCells:AV→Option (List AV)
 | .d (.agg cs)=>some (cs.map .d)
 | .ag l=>some l
 | _=>none
def evPart (T:List (Nat × TI)) (t f:Nat) (x:AV):EvR :=
 match look T t,x.aggCells with
 | some { kind:=.struct fs,.. },some cs=>(match fs[f]? with
  | some (o,ft)=>(match look T ft with
   | some i=>(match loadC i (cs.drop o) with | some v=>ok v | none=>none)
   | none=>none)
  | none=>none)
 | _,_=>none
def evIndexAddr (T:List (Nat × TI)) (t:Nat) (x i:AV):EvR :=
 match look T t with
 | some { kind:=.slice e,.. }=>(match look T e,i with
  | some ie,.d (.v (.int _ n))=>(match x with
   | .d (.sl m f)=>bif Nat.beq (f n.toNat).length ie.size then some (.ref (f n.toNat),[],.pr (0≤n∧n < m)) else none
   | .own key m=>some (.elt key ie.size n.toNat 0,[],.pr (0≤n∧n < m))
   | _=>none)
  | _,_=>none)
 | _=>none
def intsOf (k:IntKind):List D→Option (List Int)
 | []=>some []
 | .v (.int k' z) :: r=>(match decide (k=k'),intsOf k r with | true,some l=>some (z :: l) | _,_=>none)
 | _=>none
def evIndex (T:List (Nat × TI)) (t:Nat) (x i:AV):EvR :=
 match look T t,x,i with
 | some { kind:=.str,.. },.d (.v (.string s)),.d (.v (.int _ n))=>some (.d (.v (.int .u8 (s.data.toList.getD n.toNat 0).toNat)),[],.pr (0≤n∧n < s.size))
 | some { kind:=.array m e,.. },.d (.agg cs),.d (.v (.int _ n))=>(match look T e with
  | some { kind:=.int k,size:=1,.. }=>(match intsOf k cs with
   | some l=>bif Nat.beq l.length m then some (.d (.v (.int k (l.getD n.toNat 0))),[],.pr (0≤n∧n < m)) else none
   | none=>none)
  | _=>none)
 | _,_,_=>none
def evNil:AV→Option (Bool × Ob)
 | .d (.v (.slice none 0 0))=>some (true,.tt)
 | .d (.sl n _)=>some (false,.pr (n≠0))
 | .own _ n=>some (false,.pr (n≠0))
 | .nns _ _=>some (false,.tt)
 | _=>none
def evBin (T:List (Nat × TI)) (op:BinOp) (t:Nat) (x y:AV):EvR :=
 match look T t,x,y with
 | some { kind:=.slice _,.. },x,.d (.v (.slice none 0 0))=>(match op,evNil x with
  | .eql,some (b,ob)=>some (.d (.v (.bool b)),[],ob)
  | .neq,some (b,ob)=>some (.d (.v (.bool (!b))),[],ob)
  | _,_=>none)
 | some i,.d (.v u),.d (.v v)=>(match binV i.kind op u v with | some (z,ob)=>some (.d (.v z),[],ob) | none=>none)
 | some i,.d (.agg cs),.d (.agg ds)=>(match binA T i op cs ds with | some b=>ok (.d (.v (.bool b))) | none=>(match binN T t op cs ds with | some b=>ok (.d (.v (.bool b))) | none=>none))
 | _,_,_=>none
def evUn (op:UnOp) (x:AV):EvR :=
 match op,x with
 | .not,.d (.v (.bool b))=>ok (.d (.v (.bool (!b))))
 | .neg,.d (.v (.int k n))=>ok (.d (.v (.int k (k.wrap (0 - n)))))
 | _,_=>none
def evConv (T:List (Nat × TI)) (src dst:Nat) (x:AV):EvR :=
 match look T src,look T dst,x with
 | some _,some { kind:=.int k,.. },.d (.v (.int _ n))=>ok (.d (.v (.int k (k.wrap n))))
 | _,_,_=>none
def evBuild (T:List (Nat × TI)) (ρ:Operand→Option AV) (t:Nat) (ps:List (Nat × Operand)):EvR :=
 match look T t,valsOf ρ ps with
 | some { kind:=.struct fs,zero:=z,.. },some vs=>(match sizesOf T fs with
  | some pl=>(match fillA (fun i=>pl[i]?) (z.map .d) vs with | some cs=>ok (mkAgg cs) | none=>none)
  | none=>none)
 | _,_=>none
def evLen (T:List (Nat × TI)) (t:Nat) (x:AV):EvR :=
 match look T t,x with
 | some { kind:=.slice _,.. },.d (.sl n _)=>ok (.d (.v (.int .i64 n)))
 | some { kind:=.slice _,.. },.own _ n=>ok (.d (.v (.int .i64 n)))
 | some { kind:=.slice _,.. },.d (.v (.slice none 0 0))=>ok (.d (.v (.int .i64 0)))
 | some { kind:=.str,.. },.d (.v (.string s))=>ok (.d (.v (.int .i64 s.size)))
 | _,_=>none
def foldI (f:Int→Int→Int) (k:IntKind):List AV→Int→Option Int
 | [],n=>some n
 | .d (.v (.int _ m)) :: r,n=>foldI f k r (f n m)
 | _ :: _,_=>none
def maxI (x y:Int):Int:=if y > x then y else x
def minI (x y:Int):Int:=if y < x then y else x
def evFold (f:Int→Int→Int):List AV→EvR
 | .d (.v (.int k n)) :: r=>(match foldI f k r n with | some m=>ok (.d (.v (.int k m))) | none=>none)
 | _=>none
def evExtract (x:AV) (i:Nat):EvR :=
 match x with
 | .tup l=>(match l[i]? with | some v=>ok v | none=>none)
 | _=>none
def evSliceStr (x:AV) (lo hi:Option AV):EvR :=
 match x,lo,hi with
 | .d (.v (.string s)),none,none=>ok (.d (.v (.string (s.extract 0 s.size))))
 | .d (.v (.string s)),some (.d (.v (.int _ l))),none=>some (.d (.v (.string (s.extract l.toNat s.size))),[],.pr (0≤l∧l≤s.size))
 | .d (.v (.string s)),none,some (.d (.v (.int _ h)))=>some (.d (.v (.string (s.extract 0 h.toNat))),[],.pr (0≤h∧h≤s.size))
 | .d (.v (.string s)),some (.d (.v (.int _ l))),some (.d (.v (.int _ h)))=>some (.d (.v (.string (s.extract l.toNat h.toNat))),[],.pr (0≤l∧l≤h∧h≤s.size))
 | _,_,_=>none
def evSliceSl (size:Nat) (x:AV) (lo hi:Option AV):EvR :=
 match x,lo,hi with
 | .d (.sl n f),some (.d (.v (.int _ l))),none=>some (.d (.sl (n - l.toNat) fun i=>f (l.toNat+i)),[],.pr ((0≤l∧l≤n)∧∀ i,i < n→(f i).length=size))
 | .d (.sl n f),none,some (.d (.v (.int _ h)))=>some (.d (.sl h.toNat fun i=>f (0+i)),[],.pr ((0≤h∧h≤n)∧∀ i,i < n→(f i).length=size))
 | .d (.sl n f),some (.d (.v (.int _ l))),some (.d (.v (.int _ h)))=>some (.d (.sl (h.toNat - l.toNat) fun i=>f (l.toNat+i)),[],.pr ((0≤l∧l≤h∧h≤n)∧∀ i,i < n→(f i).length=size))
 | _,_,_=>none
def optV (ρ:Operand→Option AV):Option Operand→Option (Option AV)
 | none=>some none
 | some x=>match ρ x with | some v=>some (some v) | none=>none
def rowF (k len:Nat) (ds:List D):Nat→List D:=bif Nat.beq len 1 then (fun _=>ds) else fun i=>(ds.drop (i * k)).take k
def evSliceArr (size n:Nat) (x:AV) (lo hi:Option AV):EvR :=
 match x,lo,hi with
 | .ref cs,none,none=>bif Nat.beq cs.length (n * size)&&Nat.ble n 16777216&&Nat.ble 1 n then ok (.d (.sl n (rowF size n cs))) else none
 | _,_,_=>none
def evSlice (T:List (Nat × TI)) (ρ:Operand→Option AV) (t:Nat) (x:AV) (lo hi mx:Option Operand):EvR :=
 match mx,optV ρ lo,optV ρ hi,look T t with
 | none,some l,some h,some { kind:=.str,.. }=>evSliceStr x l h
 | none,some l,some h,some { kind:=.slice e,.. }=>(match look T e with
  | some ie=>evSliceSl ie.size x l h
  | none=>none)
 | none,some l,some h,some { kind:=.array n e,.. }=>(match look T e with
  | some ie=>evSliceArr ie.size n x l h
  | none=>none)
 | _,_,_,_=>none
def evV (T:List (Nat × TI)) (lb:List (Nat × Blk)) (ρ:Operand→Option AV) (o:Op):EvR :=
 match o with
 | .move x=>(match ρ x with | some v=>ok v | none=>none)
 | .assign x=>(match ρ x with | some v=>ok v | none=>none)
 | .nilCheck x=>(match ρ x with | some (.ptr κ q)=>ok (.ptr κ q) | some (.elt κ k i q)=>ok (.elt κ k i q) | some (.ref cs)=>ok (.ref cs) | _=>none)
 | .load t x=>(match look T t,ρ x with
  | some i,some v=>(match ptrCells lb v with
   | some (cs,ro,ob)=>(match loadC i cs with | some y=>some (y,ro,ob) | none=>none)
   | none=>none)
  | _,_=>none)
 | .fieldAddr t x f=>(match ρ x with | some v=>evField T t f v | none=>none)
 | .field t x f=>(match ρ x with | some v=>evPart T t f v | none=>none)
 | .indexAddr t x i=>(match ρ x,ρ i with | some v,some n=>evIndexAddr T t v n | _,_=>none)
 | .index t x i=>(match ρ x,ρ i with | some v,some n=>evIndex T t v n | _,_=>none)
 | .binOp op t x y _=>(match ρ x,ρ y with | some u,some v=>evBin T op t u v | _,_=>none)
 | .unOp op _ x=>(match ρ x with | some v=>evUn op v | none=>none)
 | .convert src dst x=>(match ρ x with | some v=>evConv T src dst v | none=>none)
 | .extract x i=>(match ρ x with | some v=>evExtract v i | none=>none)
 | .build t ps=>evBuild T ρ t ps.toList
 | .makeFunc (.func f) first caps=>(match first.toList,argsOf ρ caps.toList with | [],some l=>ok (.fn f l) | _,_=>none)
 | .slice t x lo hi mx=>(match ρ x with | some v=>evSlice T ρ t v lo hi mx | none=>none)
 | .call { callee:=.builtin .len,args:=xs,argTypes:=ts }=>(match argsOf ρ xs.toList,ts.toList with | some [v],[t]=>evLen T t v | _,_=>none)
 | .call { callee:=.builtin .max,args:=xs,.. }=>(match argsOf ρ xs.toList with | some l=>evFold maxI l | none=>none)
 | .call { callee:=.builtin .min,args:=xs,.. }=>(match argsOf ρ xs.toList with | some l=>evFold minI l | none=>none)
 | _=>none
section
variable {P : Program} {T : List (Nat × TI)} {w : World} {S : Nat → Prop} {μ : Mu} {ν : Nat → Bool}
theorem rel_int {k:IntKind} {n:Int} {x:Value} (h:Rel w S μ ν (.d (.v (.int k n))) x):x=.int k n:=rel_scalar rfl h
theorem rel_bool {b:Bool} {x:Value} (h:Rel w S μ ν (.d (.v (.bool b))) x):x=.bool b:=rel_scalar rfl h
theorem evField_run (hT:TOk P T) {t f:Nat} {x v:AV} {ro:List (Nat × Blk)} {ob:Ob} {u:Value} (h:evField T t f x=some (v,ro,ob)) (hr:Rel w S μ ν x u):∃ y,(Instr.fieldAt t u f).run P w=.ok y w∧Rel w S μ ν v y:=by
 unfold evField at h
 cases hf:fieldOff T t f with
 | none=>rw [hf] at h; cases h
 | some o =>
  rw [hf] at h
  cases x <;> try (cases h; done)
  ·simp only [ok,Option.some.injEq,Prod.mk.injEq] at h
   obtain ⟨rfl,-,-⟩:=h
   cases hr with
   | ptr hμ=>exact ⟨_,fieldOff_run hT hf _ _,.ptr hμ⟩
  ·simp only [ok,Option.some.injEq,Prod.mk.injEq] at h
   obtain ⟨rfl,-,-⟩:=h
   cases hr with
   | elt hμ=>exact ⟨_,fieldOff_run hT hf _ _,by rw [Nat.add_assoc]; exact .elt hμ⟩
  ·simp only [ok,Option.some.injEq,Prod.mk.injEq] at h
   obtain ⟨rfl,-,-⟩:=h
   cases hr with
   | ref vals hcell h =>
    rename_i cs _ _
    refine ⟨_,fieldOff_run hT hf _ _,.ref (fun j=>vals (o+j)) (fun j hj=>?_) (fun j hj=>?_)⟩
    ·rw [Nat.add_assoc]; exact hcell (o+j) (by simp at hj; omega)
    ·have e:(cs.drop o).getD j default=cs.getD (o+j) default:=by simp [List.getD]
     rw [e]
     exact h (o+j) (by simp at hj; omega)
theorem evPart_run (hT:TOk P T) {t f:Nat} {x v:AV} {ro:List (Nat × Blk)} {ob:Ob} {u:Value} (h:evPart T t f x=some (v,ro,ob)) (hr:Rel w S μ ν x u):∃ y,(Instr.field t u f).run P w=.ok y w∧Rel w S μ ν v y:=by
 have hag:∀ cs,x.aggCells=some cs→x.cells=some cs∧∃ vs,u=.agg vs:=fun cs he=>by
  unfold AV.aggCells at he
  split at he
  ·simp only [Option.some.injEq] at he
   subst he
   cases rel_d.1 hr with
   | agg=>exact ⟨rfl,_,rfl⟩
  ·simp only [Option.some.injEq] at he
   subst he
   cases hr with
   | ag=>exact ⟨rfl,_,rfl⟩
  ·cases he
 unfold evPart at h
 cases hl:look T t with
 | none=>rw [hl] at h; cases h
 | some i =>
  obtain ⟨kind,size,bytes,zero,eq⟩:=i
  cases hc0:x.aggCells with
  | none=>rw [hl,hc0] at h; cases kind <;> cases h
  | some cs =>
   rw [hl,hc0] at h
   obtain ⟨hc,vs,rfl⟩:=hag cs hc0
   cases kind <;> try (cases h; done)
   rename_i fs
   simp only at h
   obtain ⟨ti,z,F⟩:=tiOK_facts (hT t _ hl)
   obtain ⟨gs,hu,hgs⟩:=kind_struct F.kind
   cases hf:fs[f]? with
   | none=>rw [hf] at h; cases h
   | some p =>
    obtain ⟨po,pt⟩:=p
    rw [hf] at h
    simp only at h
    cases hp:look T pt with
    | none=>rw [hp] at h; cases h
    | some j =>
     rw [hp] at h
     simp only at h
     cases hld:loadC j (cs.drop po) with
     | none=>rw [hld] at h; cases h
     | some y =>
      rw [hld] at h
      simp only [ok,Option.some.injEq,Prod.mk.injEq] at h
      obtain ⟨rfl,-,-⟩:=h
      obtain ⟨tj,zj,G⟩:=tiOK_facts (hT pt _ hp)
      have hg:∃ fd,gs[f]? = some fd∧fd.offset=po∧fd.type=pt:=by
       rw [← hgs] at hf
       simp only [List.getElem?_map,Array.getElem?_toList,Option.map_eq_some_iff,Prod.mk.injEq] at hf
       obtain ⟨fd,h1,h2,h3⟩:=hf
       exact ⟨fd,h1,h2,h3⟩
      obtain ⟨fd,h1,h2,h3⟩:=hg
      subst h2; subst h3
      have hcr:=cells_relL hc hr
      have hv:(Value.agg vs).cells=vs:=rfl
      rw [hv] at hcr
      simp only [Instr.field,Sem.run_bind,run_underlying hu,Result.andThen_ok,h1,asAgg,Sem.run_pure,part,kind_isAgg G.kind]
      unfold loadC at hld
      cases hk:isAggK j.kind with
      | true =>
       rw [hk] at hld
       simp only [cond_true] at hld
       cases hb:Nat.ble j.size (cs.drop fd.offset).length with
       | false=>rw [hb] at hld; cases hld
       | true =>
        rw [hb] at hld
        have hle:=Nat.le_of_ble_eq_true hb
        simp only [cond_true,Option.some.injEq] at hld
        subst hld
        refine ⟨.agg (vs.extract fd.offset (fd.offset+j.size)),by simp [sizeOf,typeInfo,G.info,G.size],?_⟩
        have h5:=(hcr.drop fd.offset).take j.size
        refine mkAgg_rel ?_ (fun q hq=>?_)
        ·have:=h5.1
         simp only [Array.size_extract]
         simp only [List.length_take,List.length_drop,Array.length_toList] at this ⊢
         omega
        ·rw [getD_toList,Array.toList_extract,List.extract_eq_take_drop]
         have:=h5.2 q hq
         rwa [show fd.offset+j.size - fd.offset=j.size by omega]
      | false =>
       rw [hk] at hld
       simp only [cond_false] at hld
       cases hdr:cs.drop fd.offset with
       | nil=>rw [hdr] at hld; cases hld
       | cons c r =>
        rw [hdr] at hld
        simp only [List.head?_cons,Option.some.injEq] at hld
        subst hld
        have hlt:fd.offset < cs.length:=by
         have:=congrArg List.length hdr
         simp at this
         omega
        have hlt':fd.offset < vs.size:=by have:=hcr.1; simp at this; omega
        have h6:=hcr.2 fd.offset hlt
        have e1:cs.getD fd.offset default=c:=by
         have:cs[fd.offset]? = (cs.drop fd.offset)[0]?:=by simp
         rw [hdr] at this
         simp [List.getD,this]
        have e2:vs.toList.getD fd.offset undef=vs[fd.offset]:=by simp [List.getD,hlt']
        rw [e1,e2] at h6
        refine ⟨vs[fd.offset],?_,h6⟩
        simp [Array.getElem?_eq_getElem hlt']
theorem addr_spot {a:Addr} (h:a.spot=none):a=⟨a.block,a.off,none⟩:=by
 obtain ⟨b,o,s⟩:=a
 simp only at h
 subst h
 rfl
theorem evIndexAddr_run (hT:TOk P T) {t:Nat} {x i v:AV} {ro:List (Nat × Blk)} {ob:Ob} {u n:Value} (h:evIndexAddr T t x i=some (v,ro,ob)) (hob:ob.den) (hr:Rel w S μ ν x u) (hi:Rel w S μ ν i n):∃ y,(Instr.indexAt t u n).run P w=.ok y w∧Rel w S μ ν v y:=by
 unfold evIndexAddr at h
 cases hl:look T t with
 | none=>rw [hl] at h; cases h
 | some it =>
  rw [hl] at h
  obtain ⟨kind,size,bytes,zero,eq⟩:=it
  cases kind <;> try (cases h; done)
  rename_i e
  simp only at h
  obtain ⟨ti,z,F⟩:=tiOK_facts (hT t _ hl)
  have hu:=kind_slice F.kind
  cases he:look T e with
  | none=>rw [he] at h; cases h
  | some ie =>
   rw [he] at h
   obtain ⟨te,ze,G⟩:=tiOK_facts (hT e _ he)
   have hsz:(sizeOf e).run P w=.ok ie.size w:=by simp [sizeOf,typeInfo,G.info,G.size]
   split at h
   ·rename_i k q heq
    cases heq
    obtain rfl:=rel_int hi
    split at h
    ·rename_i m f
     cases hb:Nat.beq (f q.toNat).length ie.size with
     | false=>rw [hb] at h; cases h
     | true =>
      rw [hb] at h
      have hlen:=Nat.eq_of_beq_eq_true hb
      simp only [cond_true,Option.some.injEq,Prod.mk.injEq] at h
      obtain ⟨rfl,-,rfl⟩:=h
      simp only [Ob.den] at hob
      have hq:q.toNat < m:=by omega
      cases rel_d.1 hr with
      | nil=>omega
      | sl _ _ ad cap k' vals hc hm hs hk hcell h =>
       have hkk:k'=ie.size:=by rw [← hk q.toNat hq]; exact hlen
       subst hkk
       have hsp:ad.spot=none:=by rcases hs with h0 | h0 <;> first | omega | exact h0
       refine ⟨.pointer (some ⟨ad.block,ad.off+q.toNat * ie.size,none⟩),?_,.ref (vals q.toNat) (fun j hj=>?_) (fun j hj=>h q.toNat j hq (by omega))⟩
       ·rw [addr_spot hsp]
        simp [Instr.indexAt,asIntOf,run_underlying hu,hob,hsz,addr_add]
       ·have:=hcell q.toNat j hq (by omega)
        rw [Nat.add_assoc]
        exact this
    ·simp only [Option.some.injEq,Prod.mk.injEq] at h
     obtain ⟨rfl,-,rfl⟩:=h
     simp only [Ob.den] at hob
     cases hr with
     | ownNil hμ=>omega
     | own hμ =>
      refine ⟨_,?_,.elt hμ⟩
      simp [Instr.indexAt,asIntOf,run_underlying hu,hob,hsz,addr_add]
    ·cases h
   ·cases h
theorem intsOf_run (k:IntKind):∀ (cs:List D) (l:List Int),intsOf k cs=some l→l.length=cs.length∧∀ i,i < l.length→cs.getD i default=.v (.int k (l.getD i 0))
 | [],l,h=>by
  simp only [intsOf,Option.some.injEq] at h
  subst h
  exact ⟨rfl,fun i hi=>absurd hi (Nat.not_lt_zero _)⟩
 | d :: r,l,h=>by
  unfold intsOf at h
  split at h
  ·rename_i heq
   cases heq
  ·rename_i k' z r' heq
   obtain ⟨rfl,rfl⟩:=List.cons.inj heq
   split at h
   ·rename_i l' hk hl
    simp only [decide_eq_true_eq] at hk
    subst hk
    simp only [Option.some.injEq] at h
    subst h
    obtain ⟨h1,h2⟩:=intsOf_run k r l' hl
    refine ⟨by simp [h1],fun i hi=>?_⟩
    cases i with
    | zero=>rfl
    | succ i =>
     have:=h2 i (by simpa using hi)
     simpa using this
   ·cases h
  ·cases h
theorem evIndex_run (hT:TOk P T) {t:Nat} {x i v:AV} {ro:List (Nat × Blk)} {ob:Ob} {u n:Value} (h:evIndex T t x i=some (v,ro,ob)) (hob:ob.den) (hr:Rel w S μ ν x u) (hi:Rel w S μ ν i n):∃ y,(Instr.index t u n).run P w=.ok y w∧Rel w S μ ν v y:=by
 unfold evIndex at h
 split at h
 ·rename_i hl
  simp only [Option.some.injEq,Prod.mk.injEq] at h
  obtain ⟨rfl,-,rfl⟩:=h
  simp only [Ob.den] at hob
  obtain rfl:=rel_int hi
  obtain rfl:=rel_scalar rfl hr
  rename_i s k q
  obtain ⟨ti,z,F⟩:=tiOK_facts (hT t _ hl)
  have hu:=kind_str F.kind
  have hlt:q.toNat < s.size:=by omega
  refine ⟨_,?_,rel_v rfl⟩
  have e:s[q.toNat]? = some (s.data.toList.getD q.toNat 0):=by
   rw [getElem?_pos s q.toNat hlt]
   have:q.toNat < s.data.size:=hlt
   simp only [List.getD,Array.getElem?_toList,Array.getElem?_eq_getElem this,Option.getD_some]
   rfl
  simp only [Instr.index,asIntOf,Sem.run_bind,Sem.run_pure,Result.andThen_ok,run_underlying hu,hob.1,if_true,e]
 ·rename_i m e _ _ _ _ cs kk q hl
  split at h
  ·rename_i k by_ zr_ eq_ he
   split at h
   ·rename_i l hls
    generalize hb:Nat.beq l.length m=bb at h
    cases bb with
    | false=>cases h
    | true =>
     have hlm:=Nat.eq_of_beq_eq_true hb
     simp only [cond_true,Option.some.injEq,Prod.mk.injEq] at h
     obtain ⟨rfl,-,rfl⟩:=h
     simp only [Ob.den] at hob
     obtain rfl:=rel_int hi
     obtain ⟨hil,hid⟩:=intsOf_run k cs l hls
     obtain ⟨ti,z,F⟩:=tiOK_facts (hT t _ hl)
     have hu:=kind_array F.kind
     obtain ⟨te,ze,G⟩:=tiOK_facts (hT e _ he)
     have hsz:(sizeOf e).run P w=.ok 1 w:=by simp [sizeOf,typeInfo,G.info,G.size]
     have hag:(isAgg e).run P w=.ok false w:=kind_isAgg G.kind w
     cases rel_d.1 hr with
     | agg _ vs hvl hv =>
      have hlt:q.toNat < cs.length:=by omega
      have h1:=hv q.toNat hlt
      rw [hid q.toNat (by omega)] at h1
      generalize hy:vs.getD q.toNat undef=y at h1
      have h2:y=.int k (l.getD q.toNat 0):=by cases h1; rfl
      rw [← hy] at h2
      have h3:vs[q.toNat * 1]? = some (.int k (l.getD q.toNat 0)):=by
       rw [Nat.mul_one,← h2]
       simp [Array.getD,hvl,hlt]
      refine ⟨_,?_,rel_v rfl⟩
      simp only [Instr.index,asIntOf,Sem.run_bind,Sem.run_pure,Result.andThen_ok,run_underlying hu,hob,and_self,if_true,hsz,part,hag,h3]
      rfl
   ·cases h
  ·cases h
 ·cases h
theorem evNil_run {x:AV} {b:Bool} {ob:Ob} {u:Value} (h:evNil x=some (b,ob)) (hob:ob.den) (hx:Rel w S μ ν x u):∃ ad n c,u=.slice ad n c∧ad.isNone=b:=by
 unfold evNil at h
 split at h
 ·simp only [Option.some.injEq,Prod.mk.injEq] at h
  obtain ⟨rfl,rfl⟩:=h
  exact ⟨none,0,0,rel_scalar rfl hx,rfl⟩
 ·simp only [Option.some.injEq,Prod.mk.injEq] at h
  obtain ⟨rfl,rfl⟩:=h
  cases rel_d.1 hx with
  | nil=>exact absurd rfl hob
  | sl _ _ ad cap=>exact ⟨some ad,_,cap,rfl,rfl⟩
 ·simp only [Option.some.injEq,Prod.mk.injEq] at h
  obtain ⟨rfl,rfl⟩:=h
  cases hx with
  | ownNil=>exact absurd rfl hob
  | own=>exact ⟨_,_,_,rfl,rfl⟩
 ·simp only [Option.some.injEq,Prod.mk.injEq] at h
  obtain ⟨rfl,rfl⟩:=h
  cases hx with
  | nns hd=>exact ⟨_,_,_,rfl,rfl⟩
 ·cases h
theorem evBin_run (hT:TOk P T) {op:BinOp} {t:Nat} {x y v:AV} {ro:List (Nat × Blk)} {ob:Ob} {u u':Value} {ox oy:Operand} (h:evBin T op t x y=some (v,ro,ob)) (hob:ob.den) (hx:Rel w S μ ν x u) (hy:Rel w S μ ν y u') :
  ∃ z,(do eqGuard op t ox oy u u'; binOp op t u u':Sem Value).run P w=.ok z w∧Rel w S μ ν v z:=by
 unfold evBin at h
 split at h
 ·rename_i e0 size0 bytes0 zero0 eq0 hl
  obtain ⟨ti,z,F⟩:=tiOK_facts (hT t _ hl)
  have hu:=kind_slice F.kind
  obtain rfl:=rel_scalar rfl hy
  split at h
  ·rename_i b ob' hn
   simp only [Option.some.injEq,Prod.mk.injEq] at h
   obtain ⟨rfl,-,rfl⟩:=h
   obtain ⟨ad,n,c,rfl,hb⟩:=evNil_run hn hob hx
   refine ⟨.bool ad.isNone,?_,by rw [hb]; exact rel_v rfl⟩
   simp [eqGuard,Lib.run_eql_slice_nil w t _ ad n c 0 0 hu]
  ·rename_i b ob' hn
   simp only [Option.some.injEq,Prod.mk.injEq] at h
   obtain ⟨rfl,-,rfl⟩:=h
   obtain ⟨ad,n,c,rfl,hb⟩:=evNil_run hn hob hx
   refine ⟨.bool (!ad.isNone),?_,by rw [hb]; exact rel_v rfl⟩
   simp [eqGuard,Go.run_neq_slice_nil_any w t _ ad n c 0 0 hu]
  ·cases h
 ·rename_i i a b _ hl
  obtain rfl:=rel_scalar rfl hx
  obtain rfl:=rel_scalar rfl hy
  split at h
  ·rename_i z ob' hb
   simp only [Option.some.injEq,Prod.mk.injEq] at h
   obtain ⟨rfl,-,rfl⟩:=h
   obtain ⟨h1,h2⟩:=binV_run (x:=ox) (y:=oy) (w:=w) (hT t _ hl) hb hob
   exact ⟨z,h1,rel_v h2⟩
  ·cases h
 ·rename_i i cs ds hl
  split at h
  ·rename_i b hb
   simp only [ok,Option.some.injEq,Prod.mk.injEq] at h
   obtain ⟨rfl,-,-⟩:=h
   have hx':=rel_d.1 hx
   have hy':=rel_d.1 hy
   cases hx' with
   | agg _ xs q1 q2 =>
    cases hy' with
    | agg _ ys q3 q4=>exact ⟨_,binA_run hT hl hb (.agg _ _ q1 q2) (.agg _ _ q3 q4),rel_v rfl⟩
  ·split at h
   ·rename_i b hb
    simp only [ok,Option.some.injEq,Prod.mk.injEq] at h
    obtain ⟨rfl,-,-⟩:=h
    have hx':=rel_d.1 hx
    have hy':=rel_d.1 hy
    cases hx' with
    | agg _ xs q1 q2 =>
     cases hy' with
     | agg _ ys q3 q4=>exact ⟨_,binN_run hT hb (.agg _ _ q1 q2) (.agg _ _ q3 q4),rel_v rfl⟩
   ·cases h
 ·cases h
theorem evUn_run {op:UnOp} {x v:AV} {ro:List (Nat × Blk)} {ob:Ob} {u:Value} (h:evUn op x=some (v,ro,ob)) (hx:Rel w S μ ν x u):∃ z,(Op.unary op u).run P w=.ok z w∧Rel w S μ ν v z:=by
 unfold evUn at h
 split at h
 ·simp only [ok,Option.some.injEq,Prod.mk.injEq] at h
  obtain ⟨rfl,-,-⟩:=h
  obtain rfl:=rel_scalar rfl hx
  exact ⟨_,rfl,rel_v rfl⟩
 ·simp only [ok,Option.some.injEq,Prod.mk.injEq] at h
  obtain ⟨rfl,-,-⟩:=h
  obtain rfl:=rel_scalar rfl hx
  exact ⟨_,rfl,rel_v rfl⟩
 ·cases h
theorem evExtract_run {x v:AV} {i:Nat} {ro:List (Nat × Blk)} {ob:Ob} {u:Value} (h:evExtract x i=some (v,ro,ob)) (hx:Rel w S μ ν x u):∃ z,(Instr.extract u i).run P w=.ok z w∧Rel w S μ ν v z:=by
 unfold evExtract at h
 split at h
 ·rename_i l
  split at h
  ·rename_i y hy
   simp only [ok,Option.some.injEq,Prod.mk.injEq] at h
   obtain ⟨rfl,-,-⟩:=h
   cases hx with
   | @tup _ vs hl h =>
    have hi:i < l.length:=(List.getElem?_eq_some_iff.1 hy).1
    have:=h i hi
    rw [show l.getD i default=y from by simp [List.getD,hy]] at this
    have hv:i < vs.size:=by omega
    rw [show vs.getD i undef=vs[i] from by simp [Array.getD,hv]] at this
    exact ⟨vs[i],by simp [Instr.extract,Array.getElem?_eq_getElem hv],this⟩
  ·cases h
 ·cases h
theorem evLen_run (hT:TOk P T) {t ty:Nat} {x v:AV} {ro:List (Nat × Blk)} {ob:Ob} {u:Value} (h:evLen T t x=some (v,ro,ob)) (hx:Rel w S μ ν x u):∃ z,(Builtin.len_ #[t] ty #[u]).run P w=.ok z w∧Rel w S μ ν v z:=by
 unfold evLen at h
 split at h
 ·rename_i hl
  simp only [ok,Option.some.injEq,Prod.mk.injEq] at h
  obtain ⟨rfl,-,-⟩:=h
  obtain ⟨ti,z,F⟩:=tiOK_facts (hT t _ hl)
  have hu:=kind_slice F.kind
  cases rel_d.1 hx with
  | nil=>exact ⟨_,by simp [Builtin.len_,run_underlying hu,goInt],rel_v rfl⟩
  | sl=>exact ⟨_,by simp [Builtin.len_,run_underlying hu,goInt],rel_v rfl⟩
 ·rename_i hl
  simp only [ok,Option.some.injEq,Prod.mk.injEq] at h
  obtain ⟨rfl,-,-⟩:=h
  obtain ⟨ti,z,F⟩:=tiOK_facts (hT t _ hl)
  have hu:=kind_slice F.kind
  cases hx with
  | ownNil=>exact ⟨_,by simp [Builtin.len_,run_underlying hu,goInt],rel_v rfl⟩
  | own=>exact ⟨_,by simp [Builtin.len_,run_underlying hu,goInt],rel_v rfl⟩
 ·rename_i hl
  simp only [ok,Option.some.injEq,Prod.mk.injEq] at h
  obtain ⟨rfl,-,-⟩:=h
  obtain ⟨ti,z,F⟩:=tiOK_facts (hT t _ hl)
  have hu:=kind_slice F.kind
  obtain rfl:=rel_scalar rfl hx
  exact ⟨_,by simp [Builtin.len_,run_underlying hu,goInt],rel_v rfl⟩
 ·rename_i hl
  simp only [ok,Option.some.injEq,Prod.mk.injEq] at h
  obtain ⟨rfl,-,-⟩:=h
  obtain ⟨ti,z,F⟩:=tiOK_facts (hT t _ hl)
  have hu:=kind_str F.kind
  obtain rfl:=rel_scalar rfl hx
  exact ⟨_,by simp [Builtin.len_,run_underlying hu,goInt],rel_v rfl⟩
 ·cases h
theorem argsOf_rel {ρ:Operand→Option AV} {a:Act} (hρ:∀ x y,ρ x=some y→Rel w S μ ν y (a.eval x)):∀ (xs:List Operand) (l:List AV),argsOf ρ xs=some l→RelL w S μ ν l (xs.map a.eval)
 | [],l,h=>by simp only [argsOf,Option.some.injEq] at h; subst h; exact ⟨rfl,fun i hi=>absurd hi (by simp)⟩
 | x :: r,l,h=>by
  simp only [argsOf] at h
  cases h1:ρ x with
  | none=>rw [h1] at h; cases h
  | some v =>
   cases h2:argsOf ρ r with
   | none=>rw [h1,h2] at h; cases h
   | some l' =>
    rw [h1,h2] at h
    simp only [Option.some.injEq] at h
    subst h
    have ih:=argsOf_rel hρ r l' h2
    refine ⟨by simpa using ih.1,fun i hi=>?_⟩
    cases i with
    | zero=>simpa using hρ x v h1
    | succ i=>simpa using ih.2 i (by simpa using hi)
theorem valsOf_rel {ρ:Operand→Option AV} {a:Act} (hρ:∀ x y,ρ x=some y→Rel w S μ ν y (a.eval x)):∀ (xs:List (Nat × Operand)) (l:List (Nat × AV)),valsOf ρ xs=some l →
  (xs.map fun p=>(p.1,a.eval p.2)).length=l.length∧∀ (i:Nat) (p:Nat × AV) (q:Nat × Value),l[i]? = some p→(xs.map fun p=>(p.1,a.eval p.2))[i]? = some q→p.1=q.1∧Rel w S μ ν p.2 q.2
 | [],l,h=>by simp only [valsOf,Option.some.injEq] at h; subst h; exact ⟨rfl,fun i p q h=>by simp at h⟩
 | (j,x) :: r,l,h=>by
  simp only [valsOf] at h
  cases h1:ρ x with
  | none=>rw [h1] at h; cases h
  | some v =>
   cases h2:valsOf ρ r with
   | none=>rw [h1,h2] at h; cases h
   | some l' =>
    rw [h1,h2] at h
    simp only [Option.some.injEq] at h
    subst h
    obtain ⟨i1,i2⟩:=valsOf_rel hρ r l' h2
    refine ⟨by simpa using i1,fun i p q hp hq=>?_⟩
    cases i with
    | zero =>
     simp only [List.getElem?_cons_zero,Option.some.injEq,List.map_cons] at hp hq
     subst hp; subst hq
     exact ⟨rfl,hρ x v h1⟩
    | succ i=>exact i2 i p q (by simpa using hp) (by simpa using hq)
theorem foldI_max:∀ (l:List AV) (vs:List Value) (k:IntKind) (n m:Int),RelL w S μ ν l vs→foldI maxI k l n=some m→(List.foldlM Builtin.max2 (.int k n) vs).run P w=.ok (.int k m) w
 | [],[],k,n,m,_,h=>by simp only [foldI,Option.some.injEq] at h; subst h; rfl
 | [],_ :: _,_,_,_,hl,_=>by have:=hl.1; simp at this
 | x :: l,[],_,_,_,hl,_=>by have:=hl.1; simp at this
 | x :: l,v :: vs,k,n,m,hl,h=>by
  unfold foldI at h
  split at h
  ·cases ‹_ :: _=[]›
  ·rename_i heq
   injection heq with e1 e2
   subst e1; subst e2
   have h0:=hl.2 0 (by simp)
   simp only [List.getD_cons_zero] at h0
   obtain rfl:=rel_int h0
   have ht:RelL w S μ ν l vs:=⟨by simpa using hl.1,fun i hi=>by simpa using hl.2 (i+1) (by simpa using hi)⟩
   simp only [List.foldlM_cons,Builtin.max2,Sem.run_bind,Sem.run_pure,Result.andThen_ok]
   exact foldI_max l vs k _ m ht h
  ·cases h
theorem foldI_min:∀ (l:List AV) (vs:List Value) (k:IntKind) (n m:Int),RelL w S μ ν l vs→foldI minI k l n=some m→(List.foldlM Builtin.min2 (.int k n) vs).run P w=.ok (.int k m) w
 | [],[],k,n,m,_,h=>by simp only [foldI,Option.some.injEq] at h; subst h; rfl
 | [],_ :: _,_,_,_,hl,_=>by have:=hl.1; simp at this
 | x :: l,[],_,_,_,hl,_=>by have:=hl.1; simp at this
 | x :: l,v :: vs,k,n,m,hl,h=>by
  unfold foldI at h
  split at h
  ·cases ‹_ :: _=[]›
  ·rename_i heq
   injection heq with e1 e2
   subst e1; subst e2
   have h0:=hl.2 0 (by simp)
   simp only [List.getD_cons_zero] at h0
   obtain rfl:=rel_int h0
   have ht:RelL w S μ ν l vs:=⟨by simpa using hl.1,fun i hi=>by simpa using hl.2 (i+1) (by simpa using hi)⟩
   simp only [List.foldlM_cons,Builtin.min2,Sem.run_bind,Sem.run_pure,Result.andThen_ok]
   exact foldI_min l vs k _ m ht h
  ·cases h
theorem run_mapM_eq {α β:Type} (g:α→Sem β) (r:α→β):∀ (l:List α),(∀ x,x∈l→(g x).run P w=.ok (r x) w)→(l.mapM g).run P w=.ok (l.map r) w
 | [],_=>by simp
 | x :: l,h=>by
  have h1:=h x (by simp)
  have h2:=run_mapM_eq g r l (fun y hy=>h y (by simp [hy]))
  simp [List.mapM_cons,h1,h2]
theorem sizesOf_spec (hT:TOk P T):∀ (fs:List (Nat × Nat)) (pl:List (Nat × Nat)),sizesOf T fs=some pl→∀ p,p∈fs→∃ j:TypeInfo,P.info? p.2=some j∧pl=fs.map (fun p=>(p.1,P.cellsOf p.2))
 | [],pl,h,p,hp=>by cases hp
 | (o,t) :: r,pl,h,p,hp=>by
  simp only [sizesOf] at h
  cases h1:look T t with
  | none=>rw [h1] at h; cases h
  | some i =>
   cases h2:sizesOf T r with
   | none=>rw [h1,h2] at h; cases h
   | some l =>
    rw [h1,h2] at h
    simp only [Option.some.injEq] at h
    subst h
    obtain ⟨tj,z,F⟩:=tiOK_facts (hT t i h1)
    have hl:l=r.map (fun p=>(p.1,P.cellsOf p.2)):=by
     cases r with
     | nil=>simp only [sizesOf,Option.some.injEq] at h2; subst h2; rfl
     | cons q r'=>exact (sizesOf_spec hT (q :: r') l h2 q (by simp)).choose_spec.2
    have hsz:P.cellsOf t=i.size:=by simp [Program.cellsOf,F.info,F.size]
    have hx:((o,i.size) :: l)=((o,t) :: r).map (fun p=>(p.1,P.cellsOf p.2)):=by simp [hl,hsz]
    rcases List.mem_cons.1 hp with rfl | hp'
    ·exact ⟨tj,F.info,hx⟩
    ·obtain ⟨j,hj,_⟩:=sizesOf_spec hT r l h2 p hp'
     exact ⟨j,hj,hx⟩
theorem evBuild_run (hT:TOk P T) {ρ:Operand→Option AV} {a:Act} (hρ:∀ x y,ρ x=some y→Rel w S μ ν y (a.eval x)) {t:Nat} {ps:Array (Nat × Operand)} {v:AV} {ro:List (Nat × Blk)} {ob:Ob} (h:evBuild T ρ t ps.toList=some (v,ro,ob)) :
  ∃ z,(Instr.build t (ps.map fun (i,x)=>(i,a.eval x))).run P w=.ok z w∧Rel w S μ ν v z:=by
 unfold evBuild at h
 split at h
 ·rename_i kk fs _ _ z _ vs hl hv
  split at h
  ·rename_i pl hpl
   split at h
   ·rename_i cs hcs
    simp only [ok,Option.some.injEq,Prod.mk.injEq] at h
    obtain ⟨rfl,-,-⟩:=h
    obtain ⟨ti,zz,F⟩:=tiOK_facts (hT t _ hl)
    obtain ⟨gs,hu,hgs⟩:=kind_struct F.kind
    obtain ⟨q1,q2⟩:=zeroOK_rd (w:=w) (S:=S) F.zok
    have hz:RelL w S μ ν (z.map .d) zz.cells.toList:=by
     refine ⟨by simpa using q1,fun i hi=>?_⟩
     simp only [List.length_map] at hi
     rw [getD_mapd z i hi]
     exact .d (q2 i hi)
    obtain ⟨v1,v2⟩:=valsOf_rel hρ ps.toList vs hv
    obtain ⟨cur',hf,hr⟩:=fillA_run (fun i=>pl[i]?) vs (ps.toList.map fun p=>(p.1,a.eval p.2)) (z.map .d) cs zz.cells hz v1 v2 hcs
    refine ⟨.agg cur',?_,mkAgg_rel (by have:=hr.1; simpa using this) (fun i hi=>by rw [getD_toList]; exact hr.2 i hi)⟩
    have hpl':pl=gs.toList.map (fun f=>(f.offset,P.cellsOf f.type)):=by
     cases hgl:gs.toList with
     | nil=>rw [hgl] at hgs; subst hgs; simp only [List.map_nil,sizesOf,Option.some.injEq] at hpl; subst hpl; rfl
     | cons g r =>
      have:=(sizesOf_spec hT fs pl hpl (g.offset,g.type) (by rw [← hgs,hgl]; simp)).choose_spec.2
      rw [this,← hgs,hgl]
      simp
    have hmap:(gs.mapM fun f=>do pure (f.offset,← sizeOf f.type):Sem (Array (Nat × Nat))).run P w=.ok pl.toArray w:=by
     rw [Array.mapM_eq_mapM_toList]
     rw [Sem.run_map]
     rw [run_mapM_eq (P:=P) (w:=w) _ (fun f:Field=>(f.offset,P.cellsOf f.type)) gs.toList (fun f hf=>by
      have hin:(f.offset,f.type)∈fs:=by rw [← hgs]; exact List.mem_map.2 ⟨f,hf,rfl⟩
      obtain ⟨j,hj,_⟩:=sizesOf_spec hT fs pl hpl _ hin
      simp [sizeOf,typeInfo,hj,Program.cellsOf])]
     simp [hpl']
    have hps:(ps.map fun (i,x)=>(i,a.eval x)).toList=ps.toList.map fun p=>(p.1,a.eval p.2):=by simp
    simp only [Instr.build,Sem.run_bind,zeroValue,typeInfo,run_program,Result.andThen_ok,F.info,Sem.run_pure,F.zero,run_underlying hu,hmap,hps]
    have hfun:(fun x:Nat=>pl.toArray[x]?)=fun i:Nat=>pl[i]?:=by funext i; simp
    rw [hfun,hf]
    simp
   ·cases h
  ·cases h
 ·cases h
end
section
variable {P : Program} {T : List (Nat × TI)} {w : World} {S : Nat → Prop} {μ : Mu} {ν : Nat → Bool}
theorem optV_rel {ρ:Operand→Option AV} {a:Act} (hρ:∀ x y,ρ x=some y→Rel w S μ ν y (a.eval x)) {x:Option Operand} {y:Option AV} (h:optV ρ x=some y) :
  (y=none∧x=none)∨∃ v q,y=some v∧x=some q∧Rel w S μ ν v (a.eval q):=by
 cases x with
 | none=>simp only [optV,Option.some.injEq] at h; subst h; exact .inl ⟨rfl,rfl⟩
 | some q =>
  simp only [optV] at h
  cases hq:ρ q with
  | none=>rw [hq] at h; cases h
  | some v=>rw [hq] at h; simp only [Option.some.injEq] at h; subst h; exact .inr ⟨v,q,rfl,rfl,hρ q v hq⟩
theorem rd_sub {n:Nat} {f:Nat→List D} {ad:Option Addr} {m cap:Nat} (l h:Nat) (hlh:l≤h) (hn:h≤n) {size:Nat} (hsz:∀ i,i < n→(f i).length=size) (hr:Rd w S (.sl n f) (.slice ad m cap)) :
  Rd w S (.sl (h - l) fun i=>f (l+i)) (.slice (if cap=l then ad else ad.map (·.add (l * size))) (h - l) (cap - l))∧m=n∧n≤cap:=by
 cases hr with
 | nil =>
  obtain rfl:h=0:=by omega
  obtain rfl:l=0:=by omega
  exact ⟨.nil _,rfl,Nat.le_refl _⟩
 | sl _ _ a _ k vals hc hm hs hk hcell h' =>
  refine ⟨?_,rfl,hc⟩
  by_cases hcl:cap=l
  ·subst hcl
   obtain rfl:h=cap:=by omega
   simp only [if_true,Nat.sub_self]
   exact .sl 0 _ a 0 0 (fun _ _=>undef) (Nat.le_refl _) (by simp [maxLen]) (.inl rfl) (fun i hi=>absurd hi (by omega)) (fun i j hi=>absurd hi (by omega)) (fun i j hi=>absurd hi (by omega))
  ·simp only [hcl,if_false,Option.map_some]
   by_cases hz:h=l
   ·subst hz
    rw [Nat.sub_self]
    exact .sl 0 _ _ _ 0 (fun _ _=>undef) (Nat.zero_le _) (by omega) (.inl rfl) (fun i hi=>absurd hi (by omega)) (fun i j hi=>absurd hi (by omega)) (fun i j hi=>absurd hi (by omega))
   ·have hsp:a.spot=none:=by
     rcases hs with h0 | h0
     ·omega
     ·exact h0
    have hks:k=size:=by rw [← hk l (by omega)]; exact hsz l (by omega)
    subst hks
    have ea:a.add (l * k)=⟨a.block,a.off+l * k,none⟩:=by rw [addr_spot hsp,addr_add]
    rw [ea]
    refine .sl _ _ _ _ k (fun i j=>vals (l+i) j) (by omega) (by omega) (.inr rfl) (fun i hi=>hk (l+i) (by omega)) (fun i j hi hj=>?_) (fun i j hi hj=>h' (l+i) j (by omega) hj)
    have:=hcell (l+i) j (by omega) hj
    refine ⟨this.1,?_⟩
    rw [← this.2]
    show w.cell? ⟨a.block,a.off+l * k+(i * k+j),none⟩=w.cell? ⟨a.block,a.off+((l+i) * k+j),none⟩
    rw [Nat.add_mul,Nat.add_assoc a.off,Nat.add_assoc (l * k)]
theorem evSliceStr_run (hT:TOk P T) {t:Nat} {i:TI} (hl:look T t=some i) (hk:i.kind=.str) {x v:AV} {lo hi:Option AV} {ro:List (Nat × Blk)} {ob:Ob} {u:Value} {lo' hi':Option Value} (h:evSliceStr x lo hi=some (v,ro,ob)) (hob:ob.den) (hx:Rel w S μ ν x u)
  (h1:(lo=none∧lo'=none)∨∃ y z,lo=some y∧lo'=some z∧Rel w S μ ν y z) (h2:(hi=none∧hi'=none)∨∃ y z,hi=some y∧hi'=some z∧Rel w S μ ν y z) :
  ∃ z,(Instr.sliceAt t u lo' hi' none).run P w=.ok z w∧Rel w S μ ν v z:=by
 obtain ⟨ti,zz,F⟩:=tiOK_facts (hT t _ hl)
 have hkk:=F.kind
 rw [hk] at hkk
 have hu:=kind_str hkk
 unfold evSliceStr at h
 split at h <;> try (cases h; done)
 all_goals
  simp only [ok,Option.some.injEq,Prod.mk.injEq] at h
  obtain ⟨rfl,-,rfl⟩:=h
  simp only [Ob.den] at hob
  obtain rfl:=rel_scalar rfl hx
  rcases h1 with ⟨e1,rfl⟩ | ⟨y1,z1,e1,rfl,r1⟩ <;> cases e1
  all_goals
   rcases h2 with ⟨e2,rfl⟩ | ⟨y2,z2,e2,rfl,r2⟩ <;> cases e2
  all_goals
   (try obtain rfl:=rel_int r1)
   (try obtain rfl:=rel_int r2)
   refine ⟨_,?_,rel_v rfl⟩
   have q1:∀ (k:IntKind) (i:Int) (y:Nat) (c:BoundsCode),0≤i→i≤y→(Instr.sliceBound (.int k i) y c).run P w=.ok i.toNat w:=fun k i y c h0 h1=>run_sliceBound w k i y c h0 h1
   simp (disch:=omega) [Instr.sliceAt,run_underlying hu,Instr.slice,Instr.sliceBounds,q1]
theorem evSliceSl_run (hT:TOk P T) {t e:Nat} {i ie:TI} (hl:look T t=some i) (hk:i.kind=.slice e) (hle:look T e=some ie) {x v:AV} {lo hi:Option AV} {ro:List (Nat × Blk)} {ob:Ob} {u:Value} {lo' hi':Option Value} (h:evSliceSl ie.size x lo hi=some (v,ro,ob)) (hob:ob.den) (hx:Rel w S μ ν x u)
  (h1:(lo=none∧lo'=none)∨∃ y z,lo=some y∧lo'=some z∧Rel w S μ ν y z) (h2:(hi=none∧hi'=none)∨∃ y z,hi=some y∧hi'=some z∧Rel w S μ ν y z) :
  ∃ z,(Instr.sliceAt t u lo' hi' none).run P w=.ok z w∧Rel w S μ ν v z:=by
 obtain ⟨ti,zz,F⟩:=tiOK_facts (hT t _ hl)
 have hkk:=F.kind
 rw [hk] at hkk
 have hu:=kind_slice hkk
 obtain ⟨te,ze,G⟩:=tiOK_facts (hT e _ hle)
 have hszr:(sizeOf e).run P w=.ok ie.size w:=by simp [sizeOf,typeInfo,G.info,G.size]
 have q1:∀ (k:IntKind) (i:Int) (y:Nat) (c:BoundsCode),0≤i→i≤y→(Instr.sliceBound (.int k i) y c).run P w=.ok i.toNat w:=fun k i y c h0 h1=>run_sliceBound w k i y c h0 h1
 have hsl:∀ n f,Rel w S μ ν (.d (.sl n f)) u→∃ ad m cap,u=.slice ad m cap:=fun n f hr=>by
  cases rel_d.1 hr with
  | nil=>exact ⟨_,_,_,rfl⟩
  | sl=>exact ⟨_,_,_,rfl⟩
 unfold evSliceSl at h
 split at h
 ·rename_i n f k l
  simp only [Option.some.injEq,Prod.mk.injEq] at h
  obtain ⟨rfl,-,rfl⟩:=h
  obtain ⟨⟨b1,b2⟩,hs⟩:=hob
  obtain ⟨ad,m,cap,rfl⟩:=hsl n f hx
  rcases h1 with ⟨e1,rfl⟩ | ⟨y1,z1,e1,rfl,r1⟩ <;> cases e1
  rcases h2 with ⟨e2,rfl⟩ | ⟨y2,z2,e2,rfl,r2⟩ <;> cases e2
  obtain rfl:=rel_int r1
  obtain ⟨g1,rfl,g3⟩:=rd_sub l.toNat n (by omega) (Nat.le_refl n) hs (rel_d.1 hx)
  refine ⟨_,?_,.d g1⟩
  simp (disch:=omega) [Instr.sliceAt,run_underlying hu,Instr.slice,Instr.sliceBounds,q1,hszr]
 ·rename_i n f k h'
  simp only [Option.some.injEq,Prod.mk.injEq] at h
  obtain ⟨rfl,-,rfl⟩:=h
  obtain ⟨⟨b1,b2⟩,hs⟩:=hob
  obtain ⟨ad,m,cap,rfl⟩:=hsl n f hx
  rcases h1 with ⟨e1,rfl⟩ | ⟨y1,z1,e1,rfl,r1⟩ <;> cases e1
  rcases h2 with ⟨e2,rfl⟩ | ⟨y2,z2,e2,rfl,r2⟩ <;> cases e2
  obtain rfl:=rel_int r2
  obtain ⟨g1,rfl,g3⟩:=rd_sub 0 h'.toNat (by omega) (by omega) hs (rel_d.1 hx)
  refine ⟨_,?_,.d g1⟩
  simp (disch:=omega) [Instr.sliceAt,run_underlying hu,Instr.slice,Instr.sliceBounds,q1,hszr]
 ·rename_i n f k l k' h'
  simp only [Option.some.injEq,Prod.mk.injEq] at h
  obtain ⟨rfl,-,rfl⟩:=h
  obtain ⟨⟨b1,b2,b3⟩,hs⟩:=hob
  obtain ⟨ad,m,cap,rfl⟩:=hsl n f hx
  rcases h1 with ⟨e1,rfl⟩ | ⟨y1,z1,e1,rfl,r1⟩ <;> cases e1
  rcases h2 with ⟨e2,rfl⟩ | ⟨y2,z2,e2,rfl,r2⟩ <;> cases e2
  obtain rfl:=rel_int r1
  obtain rfl:=rel_int r2
  obtain ⟨g1,rfl,g3⟩:=rd_sub l.toNat h'.toNat (by omega) (by omega) hs (rel_d.1 hx)
  refine ⟨_,?_,.d g1⟩
  simp (disch:=omega) [Instr.sliceAt,run_underlying hu,Instr.slice,Instr.sliceBounds,q1,hszr]
 ·cases h
theorem rowF_get {k len:Nat} {ds:List D} (hl:ds.length=len * k) {i:Nat} (hi:i < len):(rowF k len ds i).length=k∧∀ j,j < k→(rowF k len ds i).getD j default=ds.getD (i * k+j) default:=by
 unfold rowF
 cases hb:Nat.beq len 1 with
 | true =>
  have:=Nat.eq_of_beq_eq_true hb
  subst this
  obtain rfl:i=0:=by omega
  simp only [cond_true]
  exact ⟨by omega,fun j _=>by simp⟩
 | false =>
  simp only [cond_false]
  have hik:i * k+k≤len * k:=by
   calc i * k+k=(i+1) * k:=by rw [Nat.add_mul,Nat.one_mul]
    _≤len * k:=Nat.mul_le_mul_right k hi
  refine ⟨by simp only [List.length_take,List.length_drop]; omega,fun j hj=>?_⟩
  simp [List.getD,hj]
theorem evSliceArr_run (hT:TOk P T) {t n e:Nat} {i ie:TI} (hl:look T t=some i) (hk:i.kind=.array n e) (hle:look T e=some ie) {x v:AV} {lo hi:Option AV} {ro:List (Nat × Blk)} {ob:Ob} {u:Value} {lo' hi':Option Value} (h:evSliceArr ie.size n x lo hi=some (v,ro,ob)) (hx:Rel w S μ ν x u)
  (h1:(lo=none∧lo'=none)∨∃ y z,lo=some y∧lo'=some z∧Rel w S μ ν y z) (h2:(hi=none∧hi'=none)∨∃ y z,hi=some y∧hi'=some z∧Rel w S μ ν y z) :
  ∃ z,(Instr.sliceAt t u lo' hi' none).run P w=.ok z w∧Rel w S μ ν v z:=by
 obtain ⟨ti,zz,F⟩:=tiOK_facts (hT t _ hl)
 have hkk:=F.kind
 rw [hk] at hkk
 have hu:=kind_array hkk
 obtain ⟨te,ze,G⟩:=tiOK_facts (hT e _ hle)
 have hszr:(sizeOf e).run P w=.ok ie.size w:=by simp [sizeOf,typeInfo,G.info,G.size]
 unfold evSliceArr at h
 split at h
 ·rename_i cs
  generalize hb:(Nat.beq cs.length (n * ie.size)&&Nat.ble n 16777216&&Nat.ble 1 n)=bb at h
  cases bb with
  | false=>cases h
  | true =>
   simp only [cond_true,ok,Option.some.injEq,Prod.mk.injEq] at h
   obtain ⟨rfl,-,-⟩:=h
   simp only [Bool.and_eq_true] at hb
   have hlen:=Nat.eq_of_beq_eq_true hb.1.1
   have hn:=Nat.le_of_ble_eq_true hb.1.2
   have hn1:=Nat.le_of_ble_eq_true hb.2
   rcases h1 with ⟨_,rfl⟩ | ⟨y1,z1,e1,_⟩ <;> try cases e1
   rcases h2 with ⟨_,rfl⟩ | ⟨y2,z2,e2,_⟩ <;> try cases e2
   cases hx with
   | @ref _ b o vals hcell hh =>
    refine ⟨.slice (some ⟨b,o,none⟩) n n,?_,.d (.sl n _ ⟨b,o,none⟩ n ie.size (fun i j=>vals (i * ie.size+j)) (Nat.le_refl _) (by simp only [maxLen]; omega) (.inr rfl) (fun i hi=>(rowF_get hlen hi).1) (fun i j hi hj=>?_) (fun i j hi hj=>?_))⟩
    ·simp [Instr.sliceAt,run_underlying hu,Instr.sureAddr,Instr.sliceBounds,hszr,addr_add]
    ·have hlt:i * ie.size+j < cs.length:=by
      rw [hlen]
      calc i * ie.size+j < i * ie.size+ie.size:=by omega
       _=(i+1) * ie.size:=by rw [Nat.add_mul,Nat.one_mul]
       _≤n * ie.size:=Nat.mul_le_mul_right _ hi
     exact hcell _ hlt
    ·have hlt:i * ie.size+j < cs.length:=by
      rw [hlen]
      calc i * ie.size+j < i * ie.size+ie.size:=by omega
       _=(i+1) * ie.size:=by rw [Nat.add_mul,Nat.one_mul]
       _≤n * ie.size:=Nat.mul_le_mul_right _ hi
     rw [(rowF_get hlen hi).2 j hj]
     exact hh _ hlt
 ·cases h
theorem evSlice_run (hT:TOk P T) {ρ:Operand→Option AV} {a:Act} (hρ:∀ x y,ρ x=some y→Rel w S μ ν y (a.eval x)) {t:Nat} {x v:AV} {lo hi mx:Option Operand} {ro:List (Nat × Blk)} {ob:Ob} {u:Value} (h:evSlice T ρ t x lo hi mx=some (v,ro,ob)) (hob:ob.den) (hx:Rel w S μ ν x u) :
  ∃ z,(Instr.sliceAt t u (lo.map a.eval) (hi.map a.eval) (mx.map a.eval)).run P w=.ok z w∧Rel w S μ ν v z:=by
 unfold evSlice at h
 have conv:∀ (q:Option Operand) (y:Option AV),optV ρ q=some y→(y=none∧q.map a.eval=none)∨∃ v z,y=some v∧q.map a.eval=some z∧Rel w S μ ν v z:=fun q y hq=>by
  rcases optV_rel hρ hq with ⟨e1,e2⟩ | ⟨v,p,e1,e2,r⟩
  ·subst e2; exact .inl ⟨e1,rfl⟩
  ·subst e2; exact .inr ⟨v,_,e1,rfl,r⟩
 split at h
 ·rename_i l' h' hlo hhi hl
  exact evSliceStr_run hT hl rfl h hob hx (conv lo _ hlo) (conv hi _ hhi)
 ·rename_i l' h' _ hlo hhi hl
  split at h
  ·rename_i ie hie
   exact evSliceSl_run hT hl rfl hie h hob hx (conv lo _ hlo) (conv hi _ hhi)
  ·cases h
 ·rename_i l' h' _ _ hlo hhi hl
  split at h
  ·rename_i ie hie
   exact evSliceArr_run hT hl rfl hie h hx (conv lo _ hlo) (conv hi _ hhi)
  ·cases h
 ·cases h
theorem run_value {s:Sem Value} {x:Value} (h:s.run P w=.ok x w):(do pure (.value (← s)):Sem Next).run P w=.ok (.value x) w:=by simp [h]
end
theorem evV_sound {C:Cx} {A:M} {a:Act} {T:List (Nat × TI)} {w:World} {S:Nat→Prop} {μ:Mu} {ν:Nat→Bool} (hT:TOk C.P T) (hs:Sim C A a w S μ ν) {lb:List (Nat × Blk)} {o:Oper} {ρ:Operand→Option AV} (hρ:∀ x y,ρ x=some y→Rel w S μ ν y (a.eval x))
  {v:AV} {ro:List (Nat × Blk)} {ob:Ob} (h:evV T lb ρ o.op=some (v,ro,ob)) (hro:∀ p,p∈ro→A.lb p.1=some p.2) (hob:ob.den):∃ x,(execOp a.eval o).run C.P w=.ok (.value x) w∧Rel w S μ ν v x:=by
 unfold evV at h
 split at h
 all_goals rename_i ho
 ·split at h
  ·rename_i y hy
   simp only [ok,Option.some.injEq,Prod.mk.injEq] at h
   obtain ⟨rfl,-,-⟩:=h
   exact ⟨_,by simp [execOp,ho],hρ _ _ hy⟩
  ·cases h
 ·split at h
  ·rename_i y hy
   simp only [ok,Option.some.injEq,Prod.mk.injEq] at h
   obtain ⟨rfl,-,-⟩:=h
   exact ⟨_,by simp [execOp,ho],hρ _ _ hy⟩
  ·cases h
 ·split at h
  ·rename_i hy
   simp only [ok,Option.some.injEq,Prod.mk.injEq] at h
   obtain ⟨rfl,-,-⟩:=h
   have hv:=hρ _ _ hy
   generalize hx:a.eval _=x at hv
   cases hv with
   | ptr hμ=>exact ⟨_,by simp [execOp,ho,hx],.ptr hμ⟩
  ·rename_i hy
   simp only [ok,Option.some.injEq,Prod.mk.injEq] at h
   obtain ⟨rfl,-,-⟩:=h
   have hv:=hρ _ _ hy
   generalize hx:a.eval _=x at hv
   cases hv with
   | elt hμ=>exact ⟨_,by simp [execOp,ho,hx],.elt hμ⟩
  ·rename_i hy
   simp only [ok,Option.some.injEq,Prod.mk.injEq] at h
   obtain ⟨rfl,-,-⟩:=h
   have hv:=hρ _ _ hy
   generalize hx:a.eval _=x at hv
   cases hv with
   | ref vals hc hr=>exact ⟨_,by simp [execOp,ho,hx],.ref vals hc hr⟩
  ·cases h
 ·split at h
  ·rename_i i y hi hy
   split at h
   ·rename_i cs ro' ob' hc
    split at h
    ·rename_i z hz
     simp only [Option.some.injEq,Prod.mk.injEq] at h
     obtain ⟨rfl,rfl,rfl⟩:=h
     obtain ⟨u,h1,h2⟩:=loadC_run (P:=C.P) (hT _ _ hi) hz (ptrCells_at hc hs hro hob (hρ _ _ hy))
     exact ⟨u,by simp only [execOp,ho]; exact run_value h1,h2⟩
    ·cases h
   ·cases h
  ·cases h
 ·split at h
  ·rename_i y hy
   obtain ⟨u,h1,h2⟩:=evField_run hT h (hρ _ _ hy)
   exact ⟨u,by simp only [execOp,ho]; exact run_value h1,h2⟩
  ·cases h
 ·split at h
  ·rename_i y hy
   obtain ⟨u,h1,h2⟩:=evPart_run hT h (hρ _ _ hy)
   exact ⟨u,by simp only [execOp,ho]; exact run_value h1,h2⟩
  ·cases h
 ·split at h
  ·rename_i y n hy hn
   obtain ⟨u,h1,h2⟩:=evIndexAddr_run hT h hob (hρ _ _ hy) (hρ _ _ hn)
   exact ⟨u,by simp only [execOp,ho]; exact run_value h1,h2⟩
  ·cases h
 ·split at h
  ·rename_i y n hy hn
   obtain ⟨u,h1,h2⟩:=evIndex_run hT h hob (hρ _ _ hy) (hρ _ _ hn)
   exact ⟨u,by simp only [execOp,ho]; exact run_value h1,h2⟩
  ·cases h
 ·split at h
  ·rename_i y n hy hn
   obtain ⟨u,h1,h2⟩:=evBin_run hT h hob (hρ _ _ hy) (hρ _ _ hn)
   exact ⟨u,by simp only [execOp,ho]; exact run_value h1,h2⟩
  ·cases h
 ·split at h
  ·rename_i y hy
   obtain ⟨u,h1,h2⟩:=evUn_run (P:=C.P) h (hρ _ _ hy)
   exact ⟨u,by simp only [execOp,ho]; exact run_value h1,h2⟩
  ·cases h
 ·rename_i src dst opx
  split at h
  ·rename_i y hy
   unfold evConv at h
   split at h
   ·rename_i hls hl
    simp only [ok,Option.some.injEq,Prod.mk.injEq] at h
    obtain ⟨rfl,-,-⟩:=h
    have hx:=rel_int (hρ _ _ hy)
    obtain ⟨ti,z,F⟩:=tiOK_facts (hT _ _ hl)
    have hu:=kind_int F.kind
    obtain ⟨tj,zj,G⟩:=tiOK_facts (hT _ _ hls)
    obtain ⟨ds,hds⟩:∃ d,C.P.underlying src=some d:=by
     have:=G.kind
     cases hd:C.P.underlying src with
     | some d=>exact ⟨d,rfl⟩
     | none=>exfalso; revert this; generalize TI.kind _=kk; cases kk <;> simp [kindOK,hd]
    refine ⟨_,?_,rel_v rfl⟩
    simp only [execOp,ho]
    refine run_value ?_
    simp only [convert,Sem.run_bind,run_underlying hds,run_underlying hu,Result.andThen_ok,hx]
    simp [Conv.intToInt]
   ·cases h
  ·cases h
 ·split at h
  ·rename_i y hy
   obtain ⟨u,h1,h2⟩:=evExtract_run (P:=C.P) h (hρ _ _ hy)
   exact ⟨u,by simp only [execOp,ho]; exact run_value h1,h2⟩
  ·cases h
 ·obtain ⟨u,h1,h2⟩:=evBuild_run hT hρ h
  exact ⟨u,by simp only [execOp,ho]; exact run_value h1,h2⟩
 ·rename_i f first caps
  split at h
  ·rename_i l hf hl
   simp only [ok,Option.some.injEq,Prod.mk.injEq] at h
   obtain ⟨rfl,-,-⟩:=h
   have hr:=argsOf_rel hρ caps.toList l hl
   have hfe:first = #[]:=by cases first; simpa using hf
   subst hfe
   refine ⟨_,by simp only [execOp,ho]; exact run_value (x:=.func (.func _) #[] (caps.map a.eval)) (by simp [Instr.makeFunc]),.fn ?_ (fun i hi=>?_)⟩
   ·have:=hr.1; simpa using this
   ·rw [getD_toList,Array.toList_map]; exact hr.2 i hi
  ·cases h
 ·split at h
  ·rename_i y hy
   obtain ⟨u,h1,h2⟩:=evSlice_run hT hρ h hob (hρ _ _ hy)
   exact ⟨u,by simp only [execOp,ho]; exact run_value h1,h2⟩
  ·cases h
 ·rename_i xs ts
  split at h
  ·rename_i y t hy ht
   have hr:=argsOf_rel hρ xs.toList _ hy
   obtain ⟨u,h1,h2⟩:=evLen_run (P:=C.P) (ty:=o.type) hT h (by simpa using hr.2 0 (by simp):Rel w S μ ν y ((xs.toList.map a.eval).getD 0 undef))
   have hts:ts = #[t]:=by cases ts; simpa using ht
   have hxs:xs.map a.eval = #[(xs.toList.map a.eval).getD 0 undef]:=by
    have:=hr.1
    apply Array.ext'
    rw [Array.toList_map]
    generalize xs.toList.map a.eval=l at *
    match l,this with
    | [q],_=>rfl
   refine ⟨u,?_,h2⟩
   simp only [execOp,ho,resolve,Sem.run_bind,Sem.run_pure,Result.andThen_ok,invoke,builtin,hts,hxs,h1]
  ·cases h
 ·rename_i xs _
  split at h
  ·rename_i l hl
   have hr:=argsOf_rel hρ xs.toList l hl
   unfold evFold at h
   split at h
   ·rename_i k n r
    split at h
    ·rename_i m hm
     simp only [ok,Option.some.injEq,Prod.mk.injEq] at h
     obtain ⟨rfl,-,-⟩:=h
     have hlist:(xs.map a.eval).toList=xs.toList.map a.eval:=by simp
     refine ⟨_,?_,rel_v rfl⟩
     simp only [execOp,ho,resolve,Sem.run_bind,Sem.run_pure,Result.andThen_ok,invoke,builtin,Builtin.max_,hlist]
     generalize xs.toList.map a.eval=vs at *
     match vs,hr with
     | [],hr=>have:=hr.1; simp at this
     | v :: vs,hr =>
      have h0:=hr.2 0 (by simp)
      simp only [List.getD_cons_zero] at h0
      obtain rfl:=rel_int h0
      have ht:RelL w S μ ν r vs:=⟨by simpa using hr.1,fun i hi=>by simpa using hr.2 (i+1) (by simpa using hi)⟩
      simp only [foldI_max (P:=C.P) r vs k n m ht hm,Result.andThen_ok]
    ·cases h
   ·cases h
  ·cases h
 ·rename_i xs _
  split at h
  ·rename_i l hl
   have hr:=argsOf_rel hρ xs.toList l hl
   unfold evFold at h
   split at h
   ·rename_i k n r
    split at h
    ·rename_i m hm
     simp only [ok,Option.some.injEq,Prod.mk.injEq] at h
     obtain ⟨rfl,-,-⟩:=h
     have hlist:(xs.map a.eval).toList=xs.toList.map a.eval:=by simp
     refine ⟨_,?_,rel_v rfl⟩
     simp only [execOp,ho,resolve,Sem.run_bind,Sem.run_pure,Result.andThen_ok,invoke,builtin,Builtin.min_,hlist]
     generalize xs.toList.map a.eval=vs at *
     match vs,hr with
     | [],hr=>have:=hr.1; simp at this
     | v :: vs,hr =>
      have h0:=hr.2 0 (by simp)
      simp only [List.getD_cons_zero] at h0
      obtain rfl:=rel_int h0
      have ht:RelL w S μ ν r vs:=⟨by simpa using hr.1,fun i hi=>by simpa using hr.2 (i+1) (by simpa using hi)⟩
      simp only [foldI_min (P:=C.P) r vs k n m ht hm,Result.andThen_ok]
    ·cases h
   ·cases h
  ·cases h
 ·cases h
section
variable {C : Cx} {A : M} {a : Act} {w : World} {S : Nat → Prop} {μ : Mu} {ν : Nat → Bool}
def muSet (μ:Mu) (κ:Nat) (y:Option (Option (Nat × Nat))):Mu:=fun k=>if k=κ then y else μ k
theorem kept_alloc (w:World) (o:Obj) (T:Nat→Prop):Kept w (w.alloc o) T:=⟨rfl,rfl,rfl,by simp,fun b hb _=>heap_alloc_old w o hb⟩
theorem Sim.alloc (h:Sim C A a w S μ ν) {κ:Nat} (hf:Fresh A κ) {b:Blk} {cur:Array Value} {e:TypeId} {cap:Nat} (hk:κ ∉ b.keys)
  (hb:BlkAt (w.alloc (.cells cur e)) S μ b w.heap.size cap):Sim C (A.set κ (some b)) a (w.alloc (.cells cur e)) S (muSet μ κ (some (some (w.heap.size,cap)))) ν:=by
 have h0:=(h.forget hf).world (S':=S) (w':=w.alloc (.cells cur e)) (fun _ x=>x) (fun _ x=>.inl x) (kept_alloc w _ _)
 have hext:∀ k y,(if k=κ then none else μ k)=some y→muSet μ κ (some (some (w.heap.size,cap))) k=some y:=by
  intro k y hy
  by_cases c:k=κ
  ·simp [c] at hy
  ·simpa [muSet,c] using hy
 have hlt:∀ κ' b' g c,A.lb κ'=some b'→μ κ'=some (some (g,c))→g < w.heap.size:=fun κ' b' g c h1 h2=>by
  have:=h.mem κ' b' h1
  rw [h2] at this
  exact this.at.lt
 refine ⟨h0.tmps,h0.defers,fun t=>(h0.slots t).mono (fun _ x=>x) (fun _ _=>rfl) hext,fun κ' b' hb'=>?_,fun κ1 κ2 b1 b2 g c c' h1 h2 h3 h4=>?_,fun κ' b' g c h1 h2=>?_,h0.stable,h0.fresh,h0.bound,h0.kept⟩
 ·simp only [M.set] at hb'
  by_cases c:κ'=κ
  ·simp only [c,if_true,Option.some.injEq] at hb'
   subst hb'
   rw [c]
   simp only [muSet,if_true]
   exact ((hb.forget hk).mono (fun _ x=>x) (fun _ _=>rfl) hext rfl hb.not).ok
  ·simp only [c,if_false] at hb'
   have hm:=h0.mem κ' b' hb'
   simp only [c,if_false] at hm
   have:muSet μ κ (some (some (w.heap.size,cap))) κ'=μ κ':=by simp [muSet,c]
   rw [this]
   refine hm.mono (fun _ x=>x) (fun _ _=>rfl) hext (fun g cc e=>⟨rfl,?_⟩)
   rw [e] at hm
   exact hm.at.not
 ·simp only [M.set] at h1 h2
  by_cases c1:κ1=κ
  ·by_cases c2:κ2=κ
   ·rw [c1,c2]
   ·simp only [c1,muSet,if_true,Option.some.injEq,Prod.mk.injEq] at h3
    simp only [c2,if_false] at h2
    simp only [muSet,c2,if_false] at h4
    have:=hlt κ2 b2 g c' h2 h4
    omega
  ·simp only [c1,if_false] at h1
   simp only [muSet,c1,if_false] at h3
   by_cases c2:κ2=κ
   ·simp only [c2,muSet,if_true,Option.some.injEq,Prod.mk.injEq] at h4
    have:=hlt κ1 b1 g c h1 h3
    omega
   ·simp only [c2,if_false] at h2
    simp only [muSet,c2,if_false] at h4
    exact h.inj κ1 κ2 b1 b2 g c c' h1 h2 h3 h4
 ·simp only [M.set] at h1
  by_cases c1:κ'=κ
  ·simp only [c1,muSet,if_true,Option.some.injEq,Prod.mk.injEq] at h2
   left
   rw [← h2.1]
   exact h.kept.size
  ·simp only [c1,if_false] at h1
   simp only [muSet,c1,if_false] at h2
   exact h.own κ' b' g c h1 h2
theorem Sim.write (h:Sim C A a w S μ ν) {κ g cap:Nat} {b b':Blk} (hκ:A.lb κ=some b) (hμ:μ κ=some (some (g,cap))) {cur:Array Value}
  (hb:BlkAt (w.setRow g cur) S μ b' g cap):Sim C (A.set κ (some b')) a (w.setRow g cur) S μ ν:=by
 have hno:=h.mem κ b hκ
 rw [hμ] at hno
 have hns:=hno.at.not
 have hoth:∀ k,k≠g→(w.setRow g cur).heap[k]? = w.heap[k]?:=fun k hk=>setRow_other w g k cur hk
 have hw:∀ q,S q→(w.setRow g cur).heap[q]? = w.heap[q]?:=fun q hq=>hoth q (fun e=>hns (e ▸ hq))
 refine ⟨h.tmps,h.defers,fun t=>(h.slots t).mono (fun _ x=>x) hw (fun _ _ x=>x),fun κ' b'' hb''=>?_,fun κ1 κ2 b1 b2 g' c c' h1 h2 h3 h4=>?_,fun κ' b'' g' c h1 h2=>?_,h.stable,h.fresh,fun q hq=>?_,?_⟩
 ·simp only [M.set] at hb''
  by_cases c:κ'=κ
  ·simp only [c,if_true,Option.some.injEq] at hb''
   subst hb''
   rw [c,hμ]
   exact hb.ok
  ·simp only [c,if_false] at hb''
   have hm:=h.mem κ' b'' hb''
   refine hm.mono (fun _ x=>x) hw (fun _ _ x=>x) (fun g' cc e=>?_)
   have hmm:=hm
   rw [e] at hmm
   exact ⟨hoth g' (fun eg=>c (h.inj κ' κ b'' b g' cc cap hb'' hκ e (by rw [eg]; exact hμ))),hmm.at.not⟩
 ·have q1:∃ x,A.lb κ1=some x:=by
   simp only [M.set] at h1
   by_cases c:κ1=κ
   ·rw [c]; exact ⟨b,hκ⟩
   ·simp only [c,if_false] at h1; exact ⟨_,h1⟩
  have q2:∃ x,A.lb κ2=some x:=by
   simp only [M.set] at h2
   by_cases c:κ2=κ
   ·rw [c]; exact ⟨b,hκ⟩
   ·simp only [c,if_false] at h2; exact ⟨_,h2⟩
  obtain ⟨x1,q1⟩:=q1
  obtain ⟨x2,q2⟩:=q2
  exact h.inj κ1 κ2 x1 x2 g' c c' q1 q2 h3 h4
 ·have q1:∃ x,A.lb κ'=some x:=by
   simp only [M.set] at h1
   by_cases c:κ'=κ
   ·rw [c]; exact ⟨b,hκ⟩
   ·simp only [c,if_false] at h1; exact ⟨_,h1⟩
  obtain ⟨x1,q1⟩:=q1
  exact h.own κ' x1 g' c q1 h2
 ·have:=h.bound q hq
  simpa using this
 ·refine h.kept.trans (T':=fun q=>q=g) ⟨rfl,rfl,rfl,by simp,fun q _ hq=>hoth q hq⟩ (fun q hq e=>?_)
  subst e
  rcases h.own κ b q cap hκ hμ with h1 | h1
  ·omega
  ·exact h1
theorem apply_new {A:M} {dst κ:Nat} {v:AV} {b:Blk} {need:List (Nat × AV)} {ro:List (Nat × Blk)} {gs:List (Nat × Bool)}:(Tr.mk need (some dst) v ro [] [(κ,b)] gs).apply A=(A.set κ (some b)).put dst v:=by
 unfold Tr.apply M.put M.set
 simp only [List.map_nil,List.not_mem_nil,if_false,Option.some.injEq]
 congr 1
 ·funext t
  by_cases c:t=dst
  ·simp [c]
  ·have:¬ dst=t:=fun e=>c e.symm
   simp [c,this]
 ·funext k
  by_cases c:k=κ
  ·subst c; simp [look]
  ·have:Nat.beq κ k=false:=by
    cases hb:Nat.beq κ k with
    | true=>exact absurd (Nat.eq_of_beq_eq_true hb).symm c
    | false=>rfl
   simp [look,this,c]
def noG:AV→Bool
 | .g _ _=>false
 | .fn _ l=>noGL l
 | .tup l=>noGL l
 | .ag l=>noGL l
 | _=>true
where noGL:List AV→Bool
 | []=>true
 | x :: r=>noG x&&noGL r
theorem noGL_getD:∀ (l:List AV) (i:Nat),noG.noGL l=true→i < l.length→noG (l.getD i default)=true
 | [],i,_,hi=>absurd hi (by simp)
 | x :: r,0,h,_=>by simp only [noG.noGL,Bool.and_eq_true] at h; simpa using h.1
 | x :: r,i+1,h,hi=>by
  simp only [noG.noGL,Bool.and_eq_true] at h
  have:=noGL_getD r i h.2 (by simpa using hi)
  simpa using this
theorem Rel.nu {ν':Nat→Bool} {x:AV} {v:Value} (h:Rel w S μ ν x v) (hn:noG x=true):Rel w S μ ν' x v:=by
 induction h with
 | any x=>exact .any x
 | d h=>exact .d h
 | ownNil h=>exact .ownNil h
 | own h=>exact .own h
 | ptr h=>exact .ptr h
 | elt h=>exact .elt h
 | ref vals hcell h=>exact .ref vals hcell h
 | nns h=>exact .nns h
 | mpv h=>exact .mpv h
 | pmp h=>exact .pmp h
 | @fn _ caps _ hl _ ih=>exact .fn hl (fun i hi=>ih i hi (noGL_getD caps i (by simpa [noG] using hn) hi))
 | @tup l _ hl _ ih=>exact .tup hl (fun i hi=>ih i hi (noGL_getD l i (by simpa [noG] using hn) hi))
 | @ag l _ hl _ ih=>exact .ag hl (fun i hi=>ih i hi (noGL_getD l i (by simpa [noG] using hn) hi))
 | g=>simp [noG] at hn
theorem boxAt {w':World} {cs:List AV} {vs:Array Value} {g cap:Nat} {e:TypeId} (hr:RelL w S μ ν cs vs.toList) (hn:noG.noGL cs=true) (hg:w'.heap[g]? = some (.cells vs e (0,0))) (hS:¬ S g) (hw:∀ q,S q→w'.heap[q]? = w.heap[q]?):BlkAt w' S μ (.box cs) g cap:=by
 refine ⟨vs,e,hg,hS,by have:=hr.1; simpa using this,fun j hj=>?_⟩
 have hj':j < vs.size:=by have:=hr.1; simp at this; omega
 refine ⟨vs[j],by simp [hj'],fun ν'=>?_⟩
 have:=hr.2 j hj
 rw [show vs.toList.getD j undef=vs[j] from by simp [List.getD,hj']] at this
 exact (this.nu (noGL_getD cs j hn hj)).mono (fun _ x=>x) hw (fun _ _ x=>x)
theorem core_box {o:Oper} {dst:Nat} {t:TypeId} {cs:List AV} {need:List (Nat × AV)} {ro:List (Nat × Blk)} {gs:List (Nat × Bool)} (hs:Sim C A a w S μ ν) (hd:o.dst=some dst) (hdt:dst < C.nt) {vs:Array Value}
  (hrun:(execOp a.eval o).run C.P w=.ok (.value (.pointer (some ⟨w.heap.size,0,none⟩))) (w.alloc (.cells vs t))) (hr:RelL w S μ ν cs vs.toList) (hn:noG.noGL cs=true) (hf:Fresh A dst) (hk:dst ∉ AV.keysL cs) :
  o.wp C.P a w (fun a' w'=>∃ S' μ',Sim C ((Tr.mk need (some dst) (.ptr dst 0) ro [] [(dst,.box cs)] gs).apply A) a' w' S' μ' ν) (fun _ _ _=>False):=by
 unfold Oper.wp
 rw [hrun]
 have hns:¬ S w.heap.size:=fun h=>by have:=hs.bound _ h; omega
 have h1:=hs.alloc hf (b:=.box cs) (cur:=vs) (e:=t) (cap:=1) hk (boxAt hr hn (heap_alloc_new w _) hns (fun q hq=>heap_alloc_old w _ (hs.bound q hq)))
 have h2:=h1.put (dst:=some dst) (x:=.ptr dst 0) (v:=.pointer (some ⟨w.heap.size,0,none⟩)) (fun t ht=>by cases ht; exact hdt) (.ptr (cap:=1) (by simp [muSet]))
 rw [apply_new]
 exact ⟨S,_,by rw [hd]; exact h2⟩
end
def oneA:AV→Bool
 | .d (.v _) | .d (.sl _ _) | .d (.mp _ _ _) | .own _ _ | .ptr _ _ | .elt _ _ _ _ | .ref _ | .fn _ _ | .mpv _ | .pmp _ _=>true
 | _=>false
def oneD:D→Bool
 | .agg _=>false
 | _=>true
section
variable {C : Cx} {A : M} {a : Act} {w : World} {S : Nat → Prop} {μ : Mu} {ν : Nat → Bool}
theorem oneD_rd {d:D} {x:Value} (h:oneD d=true) (hr:Rd w S d x):x.oneCell'=true:=by
 cases hr with
 | v _ hs=>cases x <;> simp_all [scalar,Value.oneCell']
 | agg=>simp [oneD] at h
 | nil=>rfl
 | sl=>rfl
 | mp=>rfl
theorem oneA_rel {c:AV} {x:Value} (h:oneA c=true) (hr:Rel w S μ ν c x):x.oneCell'=true:=by
 cases hr with
 | any=>simp [oneA] at h
 | @d y _ hd=>exact oneD_rd (by cases y <;> simp_all [oneA,oneD]) hd
 | ownNil=>rfl
 | own=>rfl
 | ptr=>rfl
 | elt=>rfl
 | ref=>rfl
 | nns=>rfl
 | mpv=>rfl
 | pmp=>rfl
 | fn=>rfl
 | tup=>simp [oneA] at h
 | ag=>simp [oneA] at h
 | g=>simp [oneA] at h
theorem apply_write {A:M} {κ:Nat} {b b':Blk} {need:List (Nat × AV)} {ro:List (Nat × Blk)} {gs:List (Nat × Bool)} (x:AV):(Tr.mk need none x ro [(κ,b)] [(κ,b')] gs).apply A=A.set κ (some b'):=by
 unfold Tr.apply M.set
 simp only [reduceCtorEq,if_false]
 congr 1
 funext k
 by_cases c:k=κ
 ·subst c; simp [look]
 ·have:Nat.beq κ k=false:=by
   cases hb:Nat.beq κ k with
   | true=>exact absurd (Nat.eq_of_beq_eq_true hb).symm c
   | false=>rfl
  simp [look,this,c]
theorem run_storeAt {P:Program} {t:Nat} {i:TI} (ht:tiOK P t i=true) {g off:Nat} {cur:Array Value} {e:TypeId} {v:Value} (hg:w.heap[g]? = some (.cells cur e (0,0))) (hsz:v.cells.size=i.size) (hle:off+i.size≤cur.size) (h1:∀ u,u∈v.cells.toList→u.oneCell'=true) :
  (Instr.storeAt t (.pointer (some ⟨g,off,none⟩)) v).run P w=.ok () (w.setRow g (cur.toList.take off++v.cells.toList++cur.toList.drop (off+i.size)).toArray):=by
 obtain ⟨ti,z,F⟩:=tiOK_facts ht
 have hst:=run_storeCells_at P g off e v.cells.toList 0 cur w hg (by simp; omega) h1
 have hne:¬ v.cells.size≠ti.size:=by rw [F.size]; omega
 simp only [Instr.storeAt,Instr.sureAddr,Sem.run_bind,Sem.run_pure,Result.andThen_ok,storeVar,sizeOf,typeInfo,run_program,F.info,Sem.run_ite,hne,if_false,hst]
 simp [hsz]
theorem core_store_box {o:Oper} {t:Nat} {i:TI} {κ off:Nat} {ad x:Operand} {v:AV} {cs xs:List AV} {need:List (Nat × AV)} {ro:List (Nat × Blk)} {gs:List (Nat × Bool)} (hs:Sim C A a w S μ ν) (ht:tiOK C.P t i=true) (ho:o.op=.store t ad x) (hd:o.dst=none)
  (ha:Rel w S μ ν (.ptr κ off) (a.eval ad)) (hx:Rel w S μ ν v (a.eval x)) (hκ:A.lb κ=some (.box cs)) (hc:v.cells=some xs) (hlen:xs.length=i.size) (hle:off+i.size≤cs.length) (hn:noG.noGL xs=true) (hone:xs.all oneA=true) (y:AV) :
  o.wp C.P a w (fun a' w'=>∃ S' μ',Sim C ((Tr.mk need none y ro [(κ,.box cs)] [(κ,.box (cs.take off++xs++cs.drop (off+i.size)))] gs).apply A) a' w' S' μ' ν) (fun _ _ _=>False):=by
 cases hav:a.eval ad with
 | pointer q =>
  rw [hav] at ha
  cases ha with
  | @ptr _ _ g cap hμ =>
   have hm:=hs.mem κ _ hκ
   rw [hμ] at hm
   have hat:=hm.at
   have hns:=hat.not
   obtain ⟨cur,e,hg,_,hcs,hcell⟩:=hat
   obtain ⟨hcr1,hcr2⟩:=cells_relL hc hx
   have hvs:(a.eval x).cells.size=i.size:=by simp at hcr1; omega
   have hrun:=run_storeAt (w:=w) (P:=C.P) ht (g:=g) (off:=off) (v:=a.eval x) hg hvs (by omega) (fun u hu=>by
    obtain ⟨j,hj,rfl⟩:=List.getElem_of_mem hu
    have hj':j < xs.length:=by omega
    have h2:=hcr2 j hj'
    rw [show (a.eval x).cells.toList.getD j undef=(a.eval x).cells.toList[j] from by simp only [List.getD,List.getElem?_eq_getElem hj,Option.getD_some]] at h2
    simp only [List.all_eq_true] at hone
    exact oneA_rel (hone _ (by simp [List.getD,hj'])) h2)
   unfold Oper.wp execOp
   simp only [ho,Sem.run_bind,hav,hrun,Result.andThen_ok,Sem.run_pure]
   refine ⟨S,μ,?_⟩
   rw [apply_write,hd]
   have hold:RelL w S μ ν cs cur.toList:=by
    refine ⟨by simpa using hcs,fun j hj=>?_⟩
    obtain ⟨u,hu,hru⟩:=hcell j hj
    have:cur.toList.getD j undef=u:=by simp [List.getD,hu]
    rw [this]
    exact hru ν
   have hnew:=((hold.take off).append (cells_relL hc hx)).append (hold.drop (off+i.size))
   have hsim:∀ b',BlkAt (w.setRow g (cur.toList.take off++(a.eval x).cells.toList++cur.toList.drop (off+i.size)).toArray) S μ b' g cap→Sim C (A.set κ (some b')) a (w.setRow g (cur.toList.take off++(a.eval x).cells.toList++cur.toList.drop (off+i.size)).toArray) S μ ν :=
    fun b' hb'=>hs.write hκ hμ hb'
   refine hsim _ ?_
   refine ⟨_,e,setRow_heap w g cur _ e _ hg,hns,by have:=hnew.1; simpa using this,fun j hj=>?_⟩
   have hw:∀ q,S q→(w.setRow g (cur.toList.take off++(a.eval x).cells.toList++cur.toList.drop (off+i.size)).toArray).heap[q]? = w.heap[q]?:=fun q hq=>setRow_other w g q _ (fun e=>hns (e ▸ hq))
   have hj2:=hnew.2 j hj
   have hlt:j < (cur.toList.take off++(a.eval x).cells.toList++cur.toList.drop (off+i.size)).length:=by rw [hnew.1]; exact hj
   refine ⟨_,by rw [List.getElem?_toArray,List.getElem?_eq_getElem hlt],fun ν'=>?_⟩
   rw [show (cur.toList.take off++(a.eval x).cells.toList++cur.toList.drop (off+i.size)).getD j undef=(cur.toList.take off++(a.eval x).cells.toList++cur.toList.drop (off+i.size))[j] from by simp only [List.getD,List.getElem?_eq_getElem hlt,Option.getD_some]] at hj2
   by_cases hjo:j < off
   ·obtain ⟨u,hu,hru⟩:=hcell j (by omega)
    have e1:(cs.take off++xs++cs.drop (off+i.size)).getD j default=cs.getD j default:=by
     simp only [List.getD]
     rw [List.append_assoc,List.getElem?_append_left (by simp; omega),List.getElem?_take,if_pos hjo]
    have e2:(cur.toList.take off++(a.eval x).cells.toList++cur.toList.drop (off+i.size))[j]=u:=by
     apply Option.some.inj
     rw [← List.getElem?_eq_getElem hlt,List.append_assoc,List.getElem?_append_left (by simp; omega),List.getElem?_take,if_pos hjo]
     simpa using hu
    rw [e1,e2]
    exact (hru ν').mono (fun _ x=>x) hw (fun _ _ x=>x)
   ·by_cases hjn:j < off+i.size
    ·have hjx:j - off < xs.length:=by omega
     have e1:(cs.take off++xs++cs.drop (off+i.size)).getD j default=xs.getD (j - off) default:=by
      simp only [List.getD]
      rw [List.append_assoc,List.getElem?_append_right (by simp; omega),List.getElem?_append_left (by simp; omega)]
      simp [(by omega:min off cs.length=off)]
     rw [e1] at hj2 ⊢
     exact (hj2.nu (noGL_getD xs _ hn hjx)).mono (fun _ x=>x) hw (fun _ _ x=>x)
    ·have hj3:j < cs.length:=by simp at hj; omega
     obtain ⟨u,hu,hru⟩:=hcell j hj3
     have e1:(cs.take off++xs++cs.drop (off+i.size)).getD j default=cs.getD j default:=by
      simp only [List.getD]
      rw [List.getElem?_append_right (by simp; omega),List.getElem?_drop]
      congr 2
      simp
      omega
     have e2:(cur.toList.take off++(a.eval x).cells.toList++cur.toList.drop (off+i.size))[j]=u:=by
      apply Option.some.inj
      rw [← List.getElem?_eq_getElem hlt,List.getElem?_append_right (by simp; omega),List.getElem?_drop]
      rw [← hu]
      simp only [Array.getElem?_toList]
      congr 1
      simp
      omega
     rw [e1,e2]
     exact (hru ν').mono (fun _ x=>x) hw (fun _ _ x=>x)
 | _=>rw [hav] at ha; cases ha
theorem apply_cons {A:M} {dst κ κ':Nat} {v:AV} {b b':Blk} {need:List (Nat × AV)} {ro:List (Nat × Blk)} {gs:List (Nat × Bool)} (hne:κ'≠κ):(Tr.mk need (some dst) v ro [(κ,b)] [(κ',b')] gs).apply A=((A.set κ none).set κ' (some b')).put dst v:=by
 unfold Tr.apply M.put M.set
 simp only [Option.some.injEq]
 congr 1
 ·funext t
  by_cases c:t=dst
  ·simp [c]
  ·have:¬ dst=t:=fun e=>c e.symm
   simp [c,this]
 ·funext k
  by_cases c:k=κ'
  ·subst c; simp [look]
  ·have:Nat.beq κ' k=false:=by
    cases hb:Nat.beq κ' k with
    | true=>exact absurd (Nat.eq_of_beq_eq_true hb).symm c
    | false=>rfl
   simp [look,this,c]
theorem Sim.drop (h:Sim C A a w S μ ν) (κ:Nat):Sim C (A.set κ none) a w S μ ν:=by
 have q:∀ k b,(A.set κ none).lb k=some b→A.lb k=some b:=fun k b hb=>by
  simp only [M.set] at hb
  by_cases c:k=κ
  ·simp [c] at hb
  ·simpa [c] using hb
 exact ⟨h.tmps,h.defers,h.slots,fun k b hb=>h.mem k b (q k b hb),fun k1 k2 b1 b2 g c c' h1 h2=>h.inj k1 k2 b1 b2 g c c' (q _ _ h1) (q _ _ h2),fun k b g c hb=>h.own k b g c (q k b hb),h.stable,h.fresh,h.bound,h.kept⟩
theorem Fresh.drop {κ':Nat} (h:Fresh A κ') (κ:Nat):Fresh (A.set κ none) κ':=by
 refine ⟨h.sl,?_,fun k b hb=>?_⟩
 ·simp only [M.set]
  split
  ·rfl
  ·exact h.lb
 ·simp only [M.set] at hb
  by_cases c:k=κ
  ·simp [c] at hb
  ·exact h.bl k b (by simpa [c] using hb)
def RowCells (w:World) (S:Nat→Prop) (k n:Nat) (f:Nat→List D) (xs:List Value):Prop :=
 xs.length=n * k∧∀ i,i < n→(f i).length=k∧∀ j,j < k→Rd w S ((f i).getD j default) (xs.getD (i * k+j) undef)
theorem RowCells.append {k n m:Nat} {f g:Nat→List D} {xs ys:List Value} (h:RowCells w S k n f xs) (h':RowCells w S k m g ys):RowCells w S k (n+m) (fun i=>if i < n then f i else g (i - n)) (xs++ys):=by
 refine ⟨by rw [List.length_append,h.1,h'.1,Nat.add_mul],fun i hi=>?_⟩
 by_cases c:i < n
 ·simp only [c,if_true]
  refine ⟨(h.2 i c).1,fun j hj=>?_⟩
  have hlt:i * k+j < xs.length:=by
   rw [h.1]
   calc i * k+j < i * k+k:=by omega
    _=(i+1) * k:=by rw [Nat.add_mul,Nat.one_mul]
    _≤n * k:=Nat.mul_le_mul_right k c
  rw [show (xs++ys).getD (i * k+j) undef=xs.getD (i * k+j) undef from by simp only [List.getD,List.getElem?_append_left hlt]]
  exact (h.2 i c).2 j hj
 ·simp only [c,if_false]
  have hi':i - n < m:=by omega
  refine ⟨(h'.2 (i - n) hi').1,fun j hj=>?_⟩
  have hle:xs.length≤i * k+j:=by
   rw [h.1]
   exact Nat.le_trans (Nat.mul_le_mul_right k (by omega:n≤i)) (Nat.le_add_right _ _)
  rw [show (xs++ys).getD (i * k+j) undef=ys.getD ((i - n) * k+j) undef from by
   simp only [List.getD,List.getElem?_append_right hle,h.1]
   congr 2
   rw [Nat.sub_mul]
   have:=Nat.mul_le_mul_right k (by omega:n≤i)
   omega]
  exact (h'.2 (i - n) hi').2 j hj
theorem RowCells.mono {w':World} {S':Nat→Prop} {k n:Nat} {f:Nat→List D} {xs:List Value} (h:RowCells w S k n f xs) (hS:∀ b,S b→S' b) (hw:∀ b,S b→w'.heap[b]? = w.heap[b]?):RowCells w' S' k n f xs :=
 ⟨h.1,fun i hi=>⟨(h.2 i hi).1,fun j hj=>((h.2 i hi).2 j hj).mono hS hw⟩⟩
theorem rowAt_cells {e k n:Nat} {f:Nat→List D} {g cap:Nat} (h:BlkAt w S μ (.row e k n f) g cap):∃ cur,w.heap[g]? = some (.cells cur e (0,0))∧cur.size=cap * k∧n≤cap∧cap≤maxLen∧RowCells w S k n f (cur.toList.take (n * k)):=by
 obtain ⟨cur,hg,_,h2,h3,h4,h5⟩:=h
 refine ⟨cur,hg,h2,h3,h4,by simp only [List.length_take,Array.length_toList,h2]; exact Nat.min_eq_left (Nat.mul_le_mul_right k h3),fun i hi=>⟨(h5 i hi).1,fun j hj=>?_⟩⟩
 obtain ⟨x,hx,hr⟩:=(h5 i hi).2 j hj
 have hlt:i * k+j < n * k:=by
  calc i * k+j < i * k+k:=by omega
   _=(i+1) * k:=by rw [Nat.add_mul,Nat.one_mul]
   _≤n * k:=Nat.mul_le_mul_right k hi
 rw [show (cur.toList.take (n * k)).getD (i * k+j) undef=x from by simp [List.getD,hlt,hx]]
 exact hr
theorem rowAt_mk {e k n:Nat} {f:Nat→List D} {g cap:Nat} {cur:Array Value} {xs:List Value} (hg:w.heap[g]? = some (.cells cur e (0,0))) (hS:¬ S g) (hsz:cur.size=cap * k) (hn:n≤cap) (hm:cap≤maxLen) (ht:cur.toList.take (n * k)=xs) (hr:RowCells w S k n f xs):BlkAt w S μ (.row e k n f) g cap:=by
 refine ⟨cur,hg,hS,hsz,hn,hm,fun i hi=>⟨(hr.2 i hi).1,fun j hj=>?_⟩⟩
 have hlt:i * k+j < n * k:=by
  calc i * k+j < i * k+k:=by omega
   _=(i+1) * k:=by rw [Nat.add_mul,Nat.one_mul]
   _≤n * k:=Nat.mul_le_mul_right k hi
 have hlt':i * k+j < cur.size:=by rw [hsz]; exact Nat.lt_of_lt_of_le hlt (Nat.mul_le_mul_right k hn)
 refine ⟨cur[i * k+j],by simp [hlt'],?_⟩
 have:=(hr.2 i hi).2 j hj
 rw [← ht,show (cur.toList.take (n * k)).getD (i * k+j) undef=cur[i * k+j] from by simp [List.getD,hlt,hlt']] at this
 exact this
structure SrcOK (w:World) (S:Nat→Prop) (k m:Nat) (g:Nat→List D) (v:Value) (ys:List Value):Prop where
 rows:RowCells w S k m g ys
 one:∀ u,u∈ys→u.oneCell'=true
 at':(v=.slice none 0 0∧m=0)∨∃ ad cap,v=.slice (some ad) m cap∧∀ j u,ys[j]? = some u→w.cell? (ad.add j)=some u
theorem src_pure {m:Nat} {g:Nat→List D} {k:Nat} {v:Value} (h:Rd w S (.sl m g) v) (hk:∀ i,i < m→(g i).length=k) (hone:∀ i,i < m→(g i).all oneD=true):∃ ys,SrcOK w S k m g v ys:=by
 cases h with
 | nil=>exact ⟨[],⟨⟨by simp,fun i hi=>absurd hi (by omega)⟩,fun u hu=>(by cases hu),.inl ⟨rfl,rfl⟩⟩⟩
 | sl _ _ ad cap k' vals hc hm hs hk' hcell h =>
  refine ⟨(List.range (m * k)).map fun q=>vals (q / k) (q % k),⟨⟨by simp,fun i hi=>⟨hk i hi,fun j hj=>?_⟩⟩,fun u hu=>?_,.inr ⟨ad,cap,rfl,fun j u hj=>?_⟩⟩⟩
  ·have hkk:k'=k:=by rw [← hk' i hi]; exact hk i hi
   subst hkk
   have hlt:i * k'+j < m * k':=by
    calc i * k'+j < i * k'+k':=by omega
     _=(i+1) * k':=by rw [Nat.add_mul,Nat.one_mul]
     _≤m * k':=Nat.mul_le_mul_right k' hi
   have e1:(i * k'+j) / k'=i:=by rw [Nat.mul_comm,Nat.mul_add_div (by omega)]; simp [Nat.div_eq_of_lt hj]
   have e2:(i * k'+j) % k'=j:=by rw [Nat.mul_comm,Nat.mul_add_mod]; exact Nat.mod_eq_of_lt hj
   rw [show ((List.range (m * k')).map fun q=>vals (q / k') (q % k')).getD (i * k'+j) undef=vals i j from by simp [List.getD,hlt,e1,e2]]
   exact h i j hi hj
  ·obtain ⟨q,hq,rfl⟩:=List.mem_map.1 hu
   have hq':=List.mem_range.1 hq
   have hk0:0 < k:=by rcases Nat.eq_zero_or_pos k with h0 | h0 <;> first | exact h0 | (rw [h0] at hq'; omega)
   have hi:q / k < m:=Nat.div_lt_of_lt_mul (by rw [Nat.mul_comm]; exact hq')
   have hj:q % k < k:=Nat.mod_lt _ hk0
   have hkk:k'=k:=by rw [← hk' _ hi]; exact hk _ hi
   subst hkk
   have:=hone _ hi
   simp only [List.all_eq_true] at this
   exact oneD_rd (this _ (by have:=hk _ hi; simp [List.getD,(by omega:q % k' < (g (q / k')).length)])) (h _ _ hi hj)
  ·have hjl:j < m * k:=by
    have:=(List.getElem?_eq_some_iff.1 hj).1
    simpa using this
   have hk0:0 < k:=by rcases Nat.eq_zero_or_pos k with h0 | h0 <;> first | exact h0 | (rw [h0] at hjl; omega)
   have hi:j / k < m:=Nat.div_lt_of_lt_mul (by rw [Nat.mul_comm]; exact hjl)
   have hjm:j % k < k:=Nat.mod_lt _ hk0
   have hkk:k'=k:=by rw [← hk' _ hi]; exact hk _ hi
   subst hkk
   have hu:u=vals (j / k') (j % k'):=by simpa [hjl] using hj.symm
   rw [hu]
   have hsp:ad.spot=none:=by rcases hs with h0 | h0 <;> first | exact h0 | exact absurd (h0 ▸ hi) (Nat.not_lt_zero _)
   rw [addr_spot hsp,addr_add]
   have:=(hcell _ _ hi hjm).2
   rw [show j / k' * k'+j % k'=j from by rw [Nat.mul_comm]; exact Nat.div_add_mod j k'] at this
   exact this
theorem src_own {e m:Nat} {g:Nat→List D} {k κ:Nat} {v:Value} (hs:Sim C A a w S μ ν) (hκ:A.lb κ=some (.row e k m g)) (h:Rel w S μ ν (.own κ m) v) (hone:∀ i,i < m→(g i).all oneD=true):∃ ys,SrcOK w S k m g v ys:=by
 have hm:=hs.mem κ _ hκ
 cases h with
 | ownNil hμ =>
  rename_i ad
  refine ⟨[],⟨⟨by simp,fun i hi=>absurd hi (by omega)⟩,fun u hu=>(by cases hu),?_⟩⟩
  cases ad with
  | none=>exact .inl ⟨rfl,rfl⟩
  | some ad=>exact .inr ⟨ad,0,rfl,fun j u hj=>by simp at hj⟩
 | @own _ _ b cap hμ =>
  rw [hμ] at hm
  obtain ⟨cur,hg,h2,h3,h4,h5⟩:=rowAt_cells hm.at
  refine ⟨_,⟨h5,fun u hu=>?_,.inr ⟨_,cap,rfl,fun j u hj=>?_⟩⟩⟩
  ·obtain ⟨q,hq,rfl⟩:=List.getElem_of_mem hu
   have hql:q < m * k:=by have:=h5.1; omega
   have hk0:0 < k:=by rcases Nat.eq_zero_or_pos k with h0 | h0 <;> first | exact h0 | (rw [h0] at hql; omega)
   have hi:q / k < m:=Nat.div_lt_of_lt_mul (by rw [Nat.mul_comm]; exact hql)
   have hj:q % k < k:=Nat.mod_lt _ hk0
   have hr:=(h5.2 _ hi).2 _ hj
   rw [show q / k * k+q % k=q from by rw [Nat.mul_comm]; exact Nat.div_add_mod q k,show (cur.toList.take (m * k)).getD q undef=(cur.toList.take (m * k))[q] from by simp only [List.getD,List.getElem?_eq_getElem hq,Option.getD_some]] at hr
   have:=hone _ hi
   simp only [List.all_eq_true] at this
   exact oneD_rd (this _ (by have:=(h5.2 _ hi).1; simp [List.getD,(by omega:q % k < (g (q / k)).length)])) hr
  ·rw [addr_add,Nat.zero_add,cell_row w b j cur e _ hg]
   rw [List.getElem?_take] at hj
   split at hj
   ·simpa using hj
   ·cases hj
theorem append_conc {P:Program} {t ty e:TypeId} {i:TI} (ht:P.underlying t=some (.slice e)) (hti:tiOK P e i=true) {dv sv:Value} {n m:Nat} {xs ys:List Value} {g:Nat→List D} {Q:Nat→Prop}
  (hd:(∃ ad0,dv=.slice ad0 0 0∧n=0∧xs=[])∨∃ b cap cur,dv=.slice (some ⟨b,0,none⟩) n cap∧w.heap[b]? = some (.cells cur e (0,0))∧cur.size=cap * i.size∧n≤cap∧cap≤maxLen∧cur.toList.take (n * i.size)=xs∧Q b)
  (hs:SrcOK w S i.size m g sv ys) (h63:n+m≤maxLen) (hb:(n+m) * i.bytes≤140737488355328) :
  ∃ v' w',(Builtin.append_ #[t,t] ty #[dv,sv]).run P w=.ok v' w' ∧
   ((∃ ad0,v'=.slice ad0 0 0∧n+m=0∧w'=w) ∨
    ∃ b cap cur,v'=.slice (some ⟨b,0,none⟩) (n+m) cap∧w'.heap[b]? = some (.cells cur e (0,0))∧cur.size=cap * i.size∧n+m≤cap∧cap≤maxLen∧cur.toList.take ((n+m) * i.size)=xs++ys ∧
     (b=w.heap.size∨Q b)∧Kept w w' (fun q=>q=b)):=by
 obtain ⟨ti,z,F⟩:=tiOK_facts hti
 have hzs:z.cells.size=i.size:=by
  obtain ⟨q,_⟩:=zeroOK_rd (w:=w) (S:=S) F.zok
  rw [← F.zlen,← q]
  simp
 have hyl:=hs.rows.1
 have hsmall:n+m≤9223372036854775807:=by simp only [maxLen] at h63; omega
 have grown:∀ (old:Nat),old < n+m→xs.length=n * i.size→∃ cap cur,Value.slice (some ⟨w.heap.size,0,none⟩) (n+m) (grownCap w (n+m) old e)=.slice (some ⟨w.heap.size,0,none⟩) (n+m) cap ∧
   (w.drew.alloc (.cells (xs.toArray++ys.toArray++Builtin.zeroCells z.cells (grownCap w (n+m) old e - (n+m))) e)).heap[w.heap.size]? = some (.cells cur e (0,0))∧cur.size=cap * i.size∧n+m≤cap∧cap≤maxLen∧cur.toList.take ((n+m) * i.size)=xs++ys ∧
   Kept w (w.drew.alloc (.cells (xs.toArray++ys.toArray++Builtin.zeroCells z.cells (grownCap w (n+m) old e - (n+m))) e)) (fun q=>q=w.heap.size):=by
  intro old ho hxl
  have hge:=grownCap_ge w (n+m) old e
  have hcm:grownCap w (n+m) old e≤maxLen:=grownCap_le_maxLen w (n+m) old e h63
  have hlen:(xs++ys).length=(n+m) * i.size:=by rw [List.length_append,hxl,hyl,Nat.add_mul]
  refine ⟨_,_,rfl,heap_alloc_new w.drew _,?_,hge,hcm,?_,⟨rfl,rfl,rfl,by simp,fun k hk _=>heap_alloc_old w.drew _ hk⟩⟩
  ·simp only [Array.size_append,List.size_toArray,size_zeroCells,hzs,hxl,hyl,← Nat.add_mul]
   congr 1
   omega
  ·simp only [Array.toList_append,List.append_assoc]
   rw [← List.append_assoc,← hlen]
   exact List.take_left
 rcases hd with ⟨ad0,rfl,rfl,rfl⟩ | ⟨b,cap,cur,rfl,hg,hcs,hnc,hcm,htake,hQ⟩
 ·rcases hs.at' with ⟨rfl,rfl⟩ | ⟨ad,c,rfl,hcell⟩
  ·refine ⟨.slice ad0 0 0,w,?_,.inl ⟨ad0,rfl,rfl,rfl⟩⟩
   cases ad0 <;> simp [Builtin.append_,run_underlying ht,sizeOf,typeInfo,F.info,Builtin.lenOf,Builtin.firstCells,storeCells]
  ·by_cases hm0:m=0
   ·subst hm0
    refine ⟨.slice ad0 0 0,w,?_,.inl ⟨ad0,rfl,rfl,rfl⟩⟩
    cases ad0 <;> simp [Builtin.append_,run_underlying ht,sizeOf,typeInfo,F.info,Builtin.lenOf,Builtin.firstCells,loadCells,loadCellsFrom,storeCells]
   ·cases ad0 with
    | some ad0 =>
     have hr:=run_append_grow (P:=P) w t ty e ti z ht F.info F.zero ad0 0 0 [] (by simp) (fun j u hj=>by simp at hj) ad m c ys (by rw [F.size]; exact hyl) hcell (by omega) (by omega) (growslice_fits (by omega) (by rw [F.bytes]; exact hb))
     obtain ⟨cap,cur,q1,q2,q3,q4,q5,q6,q7⟩:=grown 0 (by omega) (by simp)
     exact ⟨_,_,hr,.inr ⟨w.heap.size,cap,cur,q1,q2,q3,q4,q5,q6,.inl rfl,q7⟩⟩
    | none =>
    have hr:=run_append_nil (P:=P) w t ty e ti z ht F.info F.zero ad m c ys (by rw [F.size]; exact hyl) hcell (by omega) (by omega) (by rw [F.bytes]; simp only [Nat.zero_add] at hb; omega)
    obtain ⟨cap,cur,q1,q2,q3,q4,q5,q6,q7⟩:=grown 0 (by omega) (by simp)
    simp only [Nat.zero_add,List.nil_append,Array.empty_append] at q1 q2 q4 q6 q7 ⊢
    exact ⟨_,_,hr,.inr ⟨w.heap.size,cap,cur,q1,q2,q3,q4,q5,q6,.inl rfl,q7⟩⟩
 ·have hxl:xs.length=n * i.size:=by
   rw [← htake,List.length_take,Array.length_toList,hcs]
   exact Nat.min_eq_left (Nat.mul_le_mul_right _ hnc)
  rcases hs.at' with ⟨rfl,rfl⟩ | ⟨ad,c,rfl,hcell⟩
  ·have hy0:ys=[]:=List.eq_nil_of_length_eq_zero (by simpa using hyl)
   subst hy0
   refine ⟨_,w,?_,.inr ⟨b,cap,cur,rfl,hg,hcs,hnc,hcm,by simpa using htake,.inr hQ,Kept.refl _ _⟩⟩
   simp [Builtin.append_,run_underlying ht,sizeOf,typeInfo,F.info,Builtin.lenOf,Builtin.firstCells,hnc,storeCells]
  ·by_cases hroom:n+m≤cap
   ·have hfit:n * ti.size+ys.length≤cur.size:=by rw [F.size,hyl,hcs,← Nat.add_mul]; exact Nat.mul_le_mul_right _ hroom
    have hr:=run_append_room (P:=P) w t ty e ti ht F.info b n cap cur hg ad m c ys (by rw [F.size]; exact hyl) hcell hs.one hroom hfit
    rw [F.size] at hr
    refine ⟨_,_,hr,.inr ⟨b,cap,_,rfl,setRow_heap w b cur _ e _ hg,?_,hroom,hcm,?_,.inr hQ,⟨rfl,rfl,rfl,by simp,fun q _ hq=>setRow_other w b q _ hq⟩⟩⟩
    ·rw [F.size] at hfit
     simp only [List.size_toArray,List.length_append,List.length_take,List.length_drop,Array.length_toList]
     omega
    ·rw [htake]
     have:(xs++ys).length=(n+m) * i.size:=by rw [List.length_append,hxl,hyl,Nat.add_mul]
     rw [← this]
     exact List.take_left
   ·have holds:∀ j u,xs[j]? = some u→w.cell? ((⟨b,0,none⟩:Addr).add j)=some u:=fun j u hj=>by
     rw [addr_add,Nat.zero_add,cell_row w b j cur e _ hg]
     rw [← htake,List.getElem?_take] at hj
     split at hj
     ·simpa using hj
     ·cases hj
    have hr:=run_append_grow (P:=P) w t ty e ti z ht F.info F.zero ⟨b,0,none⟩ n cap xs (by rw [F.size]; exact hxl) holds ad m c ys (by rw [F.size]; exact hyl) hcell (by omega) (by omega) (growslice_fits (by omega) (by rw [F.bytes]; exact hb))
    obtain ⟨cap',cur',q1,q2,q3,q4,q5,q6,q7⟩:=grown cap (by omega) hxl
    exact ⟨_,_,hr,.inr ⟨w.heap.size,cap',cur',q1,q2,q3,q4,q5,q6,.inl rfl,q7⟩⟩
end
section
variable {C : Cx} {A : M} {a : Act} {w : World} {S : Nat → Prop} {μ : Mu} {ν : Nat → Bool}
theorem Sim.adopt (h:Sim C A a w S μ ν) {κ:Nat} (hf:Fresh A κ) {blk:Blk} {b cap:Nat} {w':World} (hk:κ ∉ blk.keys) (hkept:Kept w w' (fun q=>q=b)) (hS:¬ S b) (hno:∀ κ' b' g c,A.lb κ'=some b'→μ κ'=some (some (g,c))→g≠b)
  (hown:C.w0.heap.size≤b∨C.T0 b) (hb:BlkAt w' S μ blk b cap):Sim C (A.set κ (some blk)) a w' S (muSet μ κ (some (some (b,cap)))) ν:=by
 have hw:∀ q,S q→w'.heap[q]? = w.heap[q]?:=fun q hq=>hkept.block q (h.bound q hq) (fun e=>hS (e ▸ hq))
 have h0:=h.forget hf
 have hext:∀ k y,(if k=κ then none else μ k)=some y→muSet μ κ (some (some (b,cap))) k=some y:=by
  intro k y hy
  by_cases c:k=κ
  ·simp [c] at hy
  ·simpa [muSet,c] using hy
 refine ⟨h.tmps,h.defers,fun t=>(h0.slots t).mono (fun _ x=>x) hw hext,fun κ' b' hb'=>?_,fun κ1 κ2 b1 b2 g c c' h1 h2 h3 h4=>?_,fun κ' b' g c h1 h2=>?_,h.stable,h.fresh,fun q hq=>Nat.lt_of_lt_of_le (h.bound q hq) hkept.size,?_⟩
 ·simp only [M.set] at hb'
  by_cases c:κ'=κ
  ·simp only [c,if_true,Option.some.injEq] at hb'
   subst hb'
   rw [c]
   simp only [muSet,if_true]
   exact ((hb.forget hk).mono (fun _ x=>x) (fun _ _=>rfl) hext rfl hb.not).ok
  ·simp only [c,if_false] at hb'
   have hm:=h0.mem κ' b' hb'
   simp only [c,if_false] at hm
   have:muSet μ κ (some (some (b,cap))) κ'=μ κ':=by simp [muSet,c]
   rw [this]
   refine hm.mono (fun _ x=>x) hw hext (fun g cc e=>?_)
   have hne:=hno κ' b' g cc hb' e
   rw [e] at hm
   exact ⟨hkept.block g hm.at.lt hne,hm.at.not⟩
 ·simp only [M.set] at h1 h2
  by_cases c1:κ1=κ
  ·by_cases c2:κ2=κ
   ·rw [c1,c2]
   ·simp only [c1,muSet,if_true,Option.some.injEq,Prod.mk.injEq] at h3
    simp only [c2,if_false] at h2
    simp only [muSet,c2,if_false] at h4
    exact absurd h3.1.symm (hno κ2 b2 g c' h2 h4)
  ·simp only [c1,if_false] at h1
   simp only [muSet,c1,if_false] at h3
   by_cases c2:κ2=κ
   ·simp only [c2,muSet,if_true,Option.some.injEq,Prod.mk.injEq] at h4
    exact absurd h4.1.symm (hno κ1 b1 g c h1 h3)
   ·simp only [c2,if_false] at h2
    simp only [muSet,c2,if_false] at h4
    exact h.inj κ1 κ2 b1 b2 g c c' h1 h2 h3 h4
 ·simp only [M.set] at h1
  by_cases c1:κ'=κ
  ·simp only [c1,muSet,if_true,Option.some.injEq,Prod.mk.injEq] at h2
   rw [← h2.1]
   exact hown
  ·simp only [c1,if_false] at h1
   simp only [muSet,c1,if_false] at h2
   exact h.own κ' b' g c h1 h2
 ·refine h.kept.trans hkept (fun q hq e=>?_)
  subst e
  rcases hown with h1 | h1
  ·omega
  ·exact h1
theorem Sim.adoptNil (h:Sim C A a w S μ ν) {κ:Nat} (hf:Fresh A κ) (e k:Nat) (f:Nat→List D):Sim C (A.set κ (some (.row e k 0 f))) a w S (muSet μ κ (some none)) ν:=by
 have h0:=h.forget hf
 have hext:∀ k y,(if k=κ then none else μ k)=some y→muSet μ κ (some none) k=some y:=by
  intro k y hy
  by_cases c:k=κ
  ·simp [c] at hy
  ·simpa [muSet,c] using hy
 refine ⟨h.tmps,h.defers,fun t=>(h0.slots t).mono (fun _ x=>x) (fun _ _=>rfl) hext,fun κ' b' hb'=>?_,fun κ1 κ2 b1 b2 g c c' h1 h2 h3 h4=>?_,fun κ' b' g c h1 h2=>?_,h.stable,h.fresh,h.bound,h.kept⟩
 ·simp only [M.set] at hb'
  by_cases c:κ'=κ
  ·simp only [c,if_true,Option.some.injEq] at hb'
   subst hb'
   rw [c]
   simp only [muSet,if_true]
   rfl
  ·simp only [c,if_false] at hb'
   have hm:=h0.mem κ' b' hb'
   simp only [c,if_false] at hm
   have:muSet μ κ (some none) κ'=μ κ':=by simp [muSet,c]
   rw [this]
   refine hm.mono (fun _ x=>x) (fun _ _=>rfl) hext (fun g cc e=>⟨rfl,?_⟩)
   rw [e] at hm
   exact hm.at.not
 ·simp only [M.set] at h1 h2
  have n1:κ1≠κ:=fun e=>by simp [e,muSet] at h3
  have n2:κ2≠κ:=fun e=>by simp [e,muSet] at h4
  simp only [n1,n2,if_false] at h1 h2
  simp only [muSet,n1,n2,if_false] at h3 h4
  exact h.inj κ1 κ2 b1 b2 g c c' h1 h2 h3 h4
 ·simp only [M.set] at h1
  have n1:κ'≠κ:=fun e=>by simp [e,muSet] at h2
  simp only [n1,if_false] at h1
  simp only [muSet,n1,if_false] at h2
  exact h.own κ' b' g c h1 h2
inductive Dest (A:M) (w:World) (S:Nat→Prop) (μ:Mu) (e k:Nat):AV→Nat→(Nat→List D)→List (Nat × Blk)→Prop
 | nil (f:Nat→List D):Dest A w S μ e k (.d (.v (.slice none 0 0))) 0 f []
 | own {κ n:Nat} {f:Nat→List D} (h:A.lb κ=some (.row e k n f)):Dest A w S μ e k (.own κ n) n f [(κ,.row e k n f)]
theorem core_append {o:Oper} {dst t e:Nat} {it i:TI} {s x:Operand} {dv:AV} {n m:Nat} {f g:Nat→List D} {mem:List (Nat × Blk)} {need:List (Nat × AV)} {ro:List (Nat × Blk)} {gs:List (Nat × Bool)} {sv:Value}
  (hs:Sim C A a w S μ ν) (hd:o.dst=some dst) (hdt:dst < C.nt) (ht:tiOK C.P t it=true) (hk:it.kind=.slice e) (hti:tiOK C.P e i=true) (ho:o.op=.call { callee:=.builtin .append,args:=#[s,x],argTypes:=#[t,t] })
  (hdv:Rel w S μ ν dv (a.eval s)) (hdest:Dest A w S μ e i.size dv n f mem) (hsv:a.eval x=sv) {ys:List Value} (hsrc:SrcOK w S i.size m g sv ys) (h63:n+m≤maxLen) (hb:(n+m) * i.bytes≤140737488355328) (hf:Fresh A dst) :
  o.wp C.P a w (fun a' w'=>∃ S' μ',Sim C ((Tr.mk need (some dst) (.own dst (n+m)) ro mem [(dst,.row e i.size (n+m) fun q=>if q < n then f q else g (q - n))] gs).apply A) a' w' S' μ' ν) (fun _ _ _=>False):=by
 obtain ⟨tj,z,F⟩:=tiOK_facts ht
 have hkk:=F.kind
 rw [hk] at hkk
 have hu:=kind_slice hkk
 have fin:∀ (A':M) (xs:List Value),Sim C A' a w S μ ν→Fresh A' dst→(∀ t,A'.sl t=A.sl t)→(Tr.mk need (some dst) (.own dst (n+m)) ro mem [(dst,.row e i.size (n+m) fun q=>if q < n then f q else g (q - n))] gs).apply A=(A'.set dst (some (.row e i.size (n+m) fun q=>if q < n then f q else g (q - n)))).put dst (.own dst (n+m)) →
   RowCells w S i.size n f xs →
   ((∃ ad0,a.eval s=.slice ad0 0 0∧n=0∧xs=[])∨∃ b cap cur,a.eval s=.slice (some ⟨b,0,none⟩) n cap∧w.heap[b]? = some (.cells cur e (0,0))∧cur.size=cap * i.size∧n≤cap∧cap≤maxLen∧cur.toList.take (n * i.size)=xs∧¬ S b∧(C.w0.heap.size≤b∨C.T0 b)∧∀ κ' b' g' c,A'.lb κ'=some b'→μ κ'=some (some (g',c))→g'≠b) →
   o.wp C.P a w (fun a' w'=>∃ S' μ',Sim C ((Tr.mk need (some dst) (.own dst (n+m)) ro mem [(dst,.row e i.size (n+m) fun q=>if q < n then f q else g (q - n))] gs).apply A) a' w' S' μ' ν) (fun _ _ _=>False):=by
  intro A' xs hs' hf' _ happ hrow hcase
  obtain ⟨v',w',hrun,hres⟩:=append_conc (P:=C.P) (ty:=o.type) hu hti hcase hsrc h63 hb
  unfold Oper.wp execOp
  simp only [ho,resolve,invoke,builtin,Sem.run_bind,Sem.run_pure,Result.andThen_ok,List.map_toArray,List.map_cons,List.map_nil,hsv,hrun]
  rw [happ]
  rcases hres with ⟨ad0,rfl,h0,rfl⟩ | ⟨b,cap,cur,rfl,hg,hsz,hnm,hcm,htk,hwhere,hkept⟩
  ·have hn0:n+m=0:=h0
   refine ⟨S,muSet μ dst (some none),?_⟩
   have h1:=hs'.adoptNil hf' e i.size (fun q=>if q < n then f q else g (q - n))
   rw [hn0]
   have h2:=h1.put (dst:=some dst) (x:=.own dst 0) (v:=.slice ad0 0 0) (fun t ht=>by cases ht; exact hdt) (.ownNil (by simp [muSet]))
   rw [hd]
   exact h2
  ·have hbS:¬ S b:=by
    rcases hwhere with rfl | hQ
    ·exact fun hq=>by have:=hs.bound _ hq; omega
    ·exact hQ.1
   have hown:C.w0.heap.size≤b∨C.T0 b:=by
    rcases hwhere with rfl | hQ
    ·exact .inl hs.kept.size
    ·exact hQ.2.1
   have hno:∀ κ' b' g' c,A'.lb κ'=some b'→μ κ'=some (some (g',c))→g'≠b:=by
    rcases hwhere with rfl | hQ
    ·intro κ' b' g' c h1 h2 e'
     have:=hs'.mem κ' b' h1
     rw [h2] at this
     have:=this.at.lt
     omega
    ·exact hQ.2.2
   have hw:∀ q,S q→w'.heap[q]? = w.heap[q]?:=fun q hq=>hkept.block q (hs.bound q hq) (fun e=>hbS (e ▸ hq))
   have hrows:RowCells w' S i.size (n+m) (fun q=>if q < n then f q else g (q - n)) (xs++ys):=(hrow.append hsrc.rows).mono (fun _ x=>x) hw
   have h1:=hs'.adopt hf' (blk:=.row e i.size (n+m) fun q=>if q < n then f q else g (q - n)) (by simp [Blk.keys]) hkept hbS hno hown (rowAt_mk hg hbS hsz hnm hcm htk hrows)
   have h2:=h1.put (dst:=some dst) (x:=.own dst (n+m)) (v:=.slice (some ⟨b,0,none⟩) (n+m) cap) (fun t ht=>by cases ht; exact hdt) (.own (by simp [muSet]))
   refine ⟨S,muSet μ dst (some (some (b,cap))),?_⟩
   rw [hd]
   exact h2
 cases hdest with
 | nil =>
  have hnil:=rel_scalar rfl hdv
  exact fin A [] hs hf (fun _=>rfl) (by rw [apply_new]) ⟨by simp,fun i hi=>absurd hi (by omega)⟩ (.inl ⟨none,hnil,rfl,rfl⟩)
 | @own κ _ _ hκ =>
  have hm:=hs.mem κ _ hκ
  have hne:dst≠κ:=fun e=>by rw [e] at hf; rw [hf.lb] at hκ; cases hκ
  generalize hsv0:a.eval s=sv0 at hdv
  cases hdv with
  | ownNil hμ =>
   rw [hμ] at hm
   exact fin (A.set κ none) [] (hs.drop κ) (hf.drop κ) (fun _=>rfl) (by rw [apply_cons hne]) ⟨by simp,fun i hi=>absurd hi (by omega)⟩ (.inl ⟨_,hsv0,rfl,rfl⟩)
  | @own _ _ b cap hμ =>
   rw [hμ] at hm
   have hns:=hm.at.not
   obtain ⟨cur,hg,h2,h3,h4,h5⟩:=rowAt_cells hm.at
   refine fin (A.set κ none) _ (hs.drop κ) (hf.drop κ) (fun _=>rfl) (by rw [apply_cons hne]) h5 (.inr ⟨b,cap,cur,hsv0,hg,h2,h3,h4,rfl,hns,hs.own κ _ b cap hκ hμ,fun κ' b' g' c h1 h2 e'=>?_⟩)
   simp only [M.set] at h1
   by_cases cc:κ'=κ
   ·simp [cc] at h1
   ·simp only [cc,if_false] at h1
    subst e'
    exact cc (hs.inj κ' κ b' _ g' c cap h1 hκ h2 hμ)
theorem core_store_row {o:Oper} {t:Nat} {i:TI} {κ e k n p off:Nat} {f:Nat→List D} {ad x:Operand} {v:AV} {xs:List AV} {ds:List D} {need:List (Nat × AV)} {ro:List (Nat × Blk)} {gs:List (Nat × Bool)} (hs:Sim C A a w S μ ν) (ht:tiOK C.P t i=true) (ho:o.op=.store t ad x) (hd:o.dst=none)
  (ha:Rel w S μ ν (.elt κ k p off) (a.eval ad)) (hx:Rel w S μ ν v (a.eval x)) (hκ:A.lb κ=some (.row e k n f)) (hc:v.cells=some xs) (hp:pureL xs=some ds) (hlen:ds.length=i.size) (hle:off+i.size≤k) (hpn:p < n) (hone:ds.all oneD=true) (y:AV) :
  o.wp C.P a w (fun a' w'=>∃ S' μ',Sim C ((Tr.mk need none y ro [(κ,.row e k n f)] [(κ,.row e k n fun q=>if q=p then (f p).take off++ds++(f p).drop (off+i.size) else f q)] gs).apply A) a' w' S' μ' ν) (fun _ _ _=>False):=by
 have exs:=pureL_spec hp
 subst exs
 generalize hav:a.eval ad=av at ha
 cases ha with
 | @elt _ _ _ _ g cap hμ =>
  have hm:=hs.mem κ _ hκ
  rw [hμ] at hm
  have hat:=hm.at
  have hns:=hat.not
  obtain ⟨cur,hg,hcs,hnc,hcm,hrow⟩:=rowAt_cells hat
  obtain ⟨hcr1,hcr2⟩:=cells_relL hc hx
  simp only [List.length_map] at hcr1 hcr2
  have hvs:(a.eval x).cells.size=i.size:=by simp at hcr1; omega
  have hpk:p * k+k≤n * k:=by
   calc p * k+k=(p+1) * k:=by rw [Nat.add_mul,Nat.one_mul]
    _≤n * k:=Nat.mul_le_mul_right k hpn
  have hnck:n * k≤cap * k:=Nat.mul_le_mul_right k hnc
  have hrun:=run_storeAt (w:=w) (P:=C.P) ht (g:=g) (off:=p * k+off) (v:=a.eval x) hg hvs (by omega) (fun u hu=>by
   obtain ⟨j,hj,rfl⟩:=List.getElem_of_mem hu
   have hj':j < ds.length:=by omega
   have h2:=hcr2 j hj'
   rw [show (a.eval x).cells.toList.getD j undef=(a.eval x).cells.toList[j] from by simp only [List.getD,List.getElem?_eq_getElem hj,Option.getD_some],getD_mapd ds j hj'] at h2
   simp only [List.all_eq_true] at hone
   exact oneD_rd (hone _ (by simp [List.getD,hj'])) (rel_d.1 h2))
  unfold Oper.wp execOp
  simp only [ho,Sem.run_bind,hav,hrun,Result.andThen_ok,Sem.run_pure]
  refine ⟨S,μ,?_⟩
  rw [apply_write,hd]
  generalize hnew:(cur.toList.take (p * k+off)++(a.eval x).cells.toList++cur.toList.drop (p * k+off+i.size))=new
  have hw:∀ q,S q→(w.setRow g new.toArray).heap[q]? = w.heap[q]?:=fun q hq=>setRow_other w g q _ (fun e=>hns (e ▸ hq))
  have hxl:(a.eval x).cells.toList.length=i.size:=by rw [hcr1]; exact hlen
  have hnl:new.length=cap * k:=by
   rw [← hnew]
   simp only [List.length_append,List.length_take,List.length_drop,Array.length_toList] at hxl ⊢
   simp only [hvs]
   omega
  have hget:∀ j,j < cap * k→new[j]? = if j < p * k+off then cur[j]? else if j < p * k+off+i.size then (a.eval x).cells.toList[j - (p * k+off)]? else cur[j]?:=by
   intro j hj
   rw [← hnew]
   by_cases c1:j < p * k+off
   ·rw [List.append_assoc,List.getElem?_append_left (by simp; omega),List.getElem?_take,if_pos c1,if_pos c1]
    simp
   ·rw [if_neg c1]
    by_cases c2:j < p * k+off+i.size
    ·rw [if_pos c2,List.append_assoc,List.getElem?_append_right (by simp; omega),List.getElem?_append_left (by simp at hxl ⊢; omega)]
     congr 1
     simp
     omega
    ·rw [if_neg c2,List.getElem?_append_right (by simp at hxl ⊢; omega),List.getElem?_drop]
     simp only [Array.getElem?_toList]
     congr 1
     simp at hxl ⊢
     omega
  refine hs.write hκ hμ (b':=.row e k n _) ⟨new.toArray,setRow_heap w g cur _ e _ hg,hns,by simpa using hnl,hnc,hcm,fun q hq=>⟨?_,fun j hj=>?_⟩⟩
  ·by_cases c:q=p
   ·simp only [c,if_true,List.length_append,List.length_take,List.length_drop]
    have:=(hrow.2 p hpn).1
    omega
   ·simp only [c,if_false]
    exact (hrow.2 q hq).1
  ·have hqk:q * k+k≤n * k:=by
    calc q * k+k=(q+1) * k:=by rw [Nat.add_mul,Nat.one_mul]
     _≤n * k:=Nat.mul_le_mul_right k hq
   have hjl:q * k+j < cap * k:=by omega
   rw [List.getElem?_toArray,hget _ hjl]
   have hcur:∃ u,cur[q * k+j]? = some u∧Rd w S ((f q).getD j default) u:=by
    have hlt:q * k+j < cur.size:=by omega
    refine ⟨cur[q * k+j],by simp [hlt],?_⟩
    have:=(hrow.2 q hq).2 j hj
    rwa [show (cur.toList.take (n * k)).getD (q * k+j) undef=cur[q * k+j] from by simp [List.getD,(by omega:q * k+j < n * k),hlt]] at this
   obtain ⟨u,hu,hru⟩:=hcur
   by_cases c:q=p
   ·subst c
    simp only [if_true]
    have hfl:=(hrow.2 q hq).1
    by_cases c1:j < off
    ·rw [if_pos (by omega)]
     refine ⟨u,hu,?_⟩
     rw [show ((f q).take off++ds++(f q).drop (off+i.size)).getD j default=(f q).getD j default from by
      simp only [List.getD]
      rw [List.append_assoc,List.getElem?_append_left (by simp; omega),List.getElem?_take,if_pos c1]]
     exact hru.mono (fun _ x=>x) hw
    ·rw [if_neg (by omega)]
     by_cases c2:j < off+i.size
     ·rw [if_pos (by omega)]
      have hjd:j - off < ds.length:=by omega
      have h2:=hcr2 (j - off) hjd
      rw [getD_mapd ds _ hjd] at h2
      have hlt:q * k+j - (q * k+off) < (a.eval x).cells.toList.length:=by omega
      refine ⟨_,List.getElem?_eq_getElem hlt,?_⟩
      rw [show ((f q).take off++ds++(f q).drop (off+i.size)).getD j default=ds.getD (j - off) default from by
       simp only [List.getD]
       rw [List.append_assoc,List.getElem?_append_right (by simp; omega),List.getElem?_append_left (by simp; omega)]
       simp [(by omega:min off (f q).length=off)]]
      have e3:(a.eval x).cells.toList.getD (j - off) undef=(a.eval x).cells.toList[q * k+j - (q * k+off)]:=by
       have:q * k+j - (q * k+off)=j - off:=by omega
       simp only [this,List.getD]
       rw [List.getElem?_eq_getElem (by omega),Option.getD_some]
      rw [e3] at h2
      exact (rel_d.1 h2).mono (fun _ x=>x) hw
     ·rw [if_neg (by omega)]
      refine ⟨u,hu,?_⟩
      rw [show ((f q).take off++ds++(f q).drop (off+i.size)).getD j default=(f q).getD j default from by
       simp only [List.getD]
       rw [List.getElem?_append_right (by simp; omega),List.getElem?_drop]
       congr 2
       simp
       omega]
      exact hru.mono (fun _ x=>x) hw
   ·simp only [c,if_false]
    have hout:q * k+j < p * k+off∨p * k+off+i.size≤q * k+j:=by
     rcases Nat.lt_or_gt_of_ne c with h1 | h1
     ·left
      have:q * k+k≤p * k:=by
       calc q * k+k=(q+1) * k:=by rw [Nat.add_mul,Nat.one_mul]
        _≤p * k:=Nat.mul_le_mul_right k h1
      omega
     ·right
      have:p * k+k≤q * k:=by
       calc p * k+k=(p+1) * k:=by rw [Nat.add_mul,Nat.one_mul]
        _≤q * k:=Nat.mul_le_mul_right k h1
      omega
    refine ⟨u,?_,hru.mono (fun _ x=>x) hw⟩
    rcases hout with h1 | h1
    ·rw [if_pos h1]; exact hu
    ·rw [if_neg (by omega),if_neg (by omega)]; exact hu
end
end Go.Av
