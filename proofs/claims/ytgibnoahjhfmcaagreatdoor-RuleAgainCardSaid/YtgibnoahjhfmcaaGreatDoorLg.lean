/- slices.SortFunc of a call's own row of structs of scalars, by the contract of the kit's shelf. -/
import Derived.Test.YtgibnoahjhfmcaaGreatDoorLd
import Derived.Shelf.SlSortCmp.WholeK
import Derived.Lib.Bytealg
set_option linter.unusedSimpArgs false
set_option linter.unusedVariables false
set_option linter.unusedSectionVars false
namespace Go.Av
open Go Go.Sort Go.Proofs
variable [Globs]
def oneS:D→Bool
 | .v x=>scalar x
 | _=>false
def dvS:D→Value
 | .v x=>x
 | _=>undef
def encS {α:Type} (cells:α→List D) (x:α):List Value:=(cells x).map dvS
section
variable {α : Type} [Inhabited α] {cells : α → List D} {k : Nat}
theorem heap_sortK {w:World} {g n:Nat} {os:Array Obj} {cur:Array Value} {e:TypeId} {fr:Nat × Nat} (d:Array α) (hb:w.heap[g]? = some (.cells cur e fr)) :
  (sortWorldK (encS cells) k w g 0 n d os).heap[g]? = some (.cells (putCells id 0 (flatK (encS cells) k d) cur) e fr):=by
 have hg:g < w.heap.size:=(Array.getElem?_eq_some_iff.1 hb).1
 unfold sortWorldK putRowK
 rw [heap_grow_old _ _ (by simpa using hg)]
 simp [putRow,mapBlock,Sort.ahead,Array.getElem?_modify,hb,onCells]
theorem grownBy_sortK {w:World} {g n:Nat} {os:Array Obj} (d:Array α):w.grownBy (sortWorldK (encS cells) k w g 0 n d os) (some g):=by
 unfold sortWorldK putRowK
 refine ⟨rfl,rfl,rfl,by simp,fun q hq hne=>?_⟩
 rw [heap_grow_old _ _ (by simpa using hq)]
 have:g≠q:=fun e=>hne (by rw [e])
 simp [putRow,mapBlock,Sort.ahead,Array.getElem?_modify,this]
theorem kept_sortK {w:World} {g n:Nat} {os:Array Obj} (d:Array α):Kept w (sortWorldK (encS cells) k w g 0 n d os) (fun q=>q=g):=by
 have hb:=grownBy_sortK (cells:=cells) (k:=k) (w:=w) (g:=g) (n:=n) (os:=os) d
 exact ⟨hb.os,hb.tape,hb.output,hb.size,fun b hlt hb'=>hb.block b hlt (fun e=>by cases e; exact hb' rfl)⟩
variable {w : World} {S : Nat → Prop} {μ : Mu} {e g c : Nat} {L : List α}
end
theorem ti_agg {P:Program} {T:List (Nat × TI)} (hT:TOk P T) {t:Nat} {i:TI} (h:look T t=some i) (w:World):(isAgg t).run P w=.ok (isAggK i.kind) w∧(sizeOf t).run P w=.ok i.size w:=by
 obtain ⟨j,z,F⟩:=tiOK_facts (hT _ _ h)
 exact ⟨kind_isAgg F.kind w,by simp [sizeOf,typeInfo,F.info,F.size]⟩
theorem heap_sortW {α:Type} [Inhabited α] {cells:α→List D} {k:Nat} {w:World} {g n:Nat} {os:Array Obj} (d:Array α) {q:Nat} (hq:q < w.heap.size) (hne:g≠q):(sortWorldK (encS cells) k w g 0 n d os).heap[q]? = w.heap[q]? :=
 (grownBy_sortK (cells:=cells) (k:=k) (w:=w) (g:=g) (n:=n) (os:=os) d).block q hq (fun e=>hne (Option.some.inj e).symm)
theorem size_sortW {α:Type} [Inhabited α] {cells:α→List D} {k:Nat} {w:World} {g n:Nat} {os:Array Obj} (d:Array α):w.heap.size≤(sortWorldK (encS cells) k w g 0 n d os).heap.size :=
 (grownBy_sortK (cells:=cells) (k:=k) (w:=w) (g:=g) (n:=n) (os:=os) d).size
/-- an element of a row,with the values that it has in a world -/
structure El (w:World) (S:Nat→Prop) {α:Type} (cells:α→List D) (k:Nat) where
  x:α
  vs:List Value
  hl:vs.length=k
  hr:∀ j,j < k→Rd w S ((cells x).getD j default) (vs.getD j undef)
  ho:∀ v,v∈vs→v.oneCell'=true
section
variable {w : World} {S : Nat → Prop} {α : Type} {cells : α → List D} {k : Nat}
def El.raw (e:El w S cells k):List D:=e.vs.map .v
theorem encS_raw (e:El w S cells k):encS El.raw e=e.vs:=by
  unfold encS El.raw
  rw [List.map_map]
  exact List.map_id _
end

theorem cmpLaysE {P:Program} {gf:FuncId} {α:Type} {cells:α→List D} {k:Nat} (hk:∀ x,(cells x).length=k) {cf:α→α→Int} (hc:∀ x y,FnA P gf [av (cells x),av (cells y)] [] (iv (cf x y)) [])
    {w:World} {S:Nat→Prop} [Inhabited (El w S cells k)] {g n:Nat} (hS:∀ b,S b→b < w.heap.size) (hg:GlobOK w S) (hns:¬ S g):CmpLays P gf #[] (encS (El.raw (w:=w) (S:=S) (cells:=cells) (k:=k))) k (fun e e'=>cf e.x e'.x) g 0 n w:=by
  intro m os dk hdk x y
  have hkeep:∀ b,S b→(sortWorldK (encS El.raw) k w g 0 m dk os).heap[b]? = w.heap[b]?:=fun b hb=>heap_sortW dk (hS b hb) (fun e=>hns (e ▸ hb))
  have hsz:=size_sortW (cells:=El.raw) (k:=k) (w:=w) (g:=g) (n:=m) (os:=os) dk
  generalize sortWorldK (encS El.raw) k w g 0 m dk os=W at hkeep hsz ⊢
  have hagg:∀ z:El w S cells k,Rd W S (.agg (cells z.x)) (.agg (encS El.raw z).toArray):=fun z=>by
    rw [encS_raw]
    refine .agg _ _ (by simp [hk,z.hl]) (fun i hi=>?_)
    have:=(z.hr i (by rwa [hk] at hi)).mono (fun _ h=>h) hkeep
    have hi':i < z.vs.length:=by rw [z.hl]; rwa [hk] at hi
    have e:z.vs.toArray.getD i undef=z.vs.getD i undef:=by simp [Array.getD,List.getD,hi']
    rw [e]
    exact this
  have h:=(hc x.x y.x).2 W S (fun _=>none) #[.agg (encS El.raw x).toArray,.agg (encS El.raw y).toArray] (fun b hb=>Nat.lt_of_lt_of_le (hS b hb) hsz) (hg.mono (fun _ h=>h) hkeep)
    (fun ν=>⟨rfl,fun i hi=>by
      have:i=0∨i=1:=by simp at hi; omega
      rcases this with rfl | rfl
      · exact .d (hagg x)
      · exact .d (hagg y)⟩) (fun κ b hb=>by simp [look] at hb) (fun κ κ' b b' g c c' hb=>by simp [look] at hb)
  show Calls P gf #[.agg (encS El.raw x).toArray,.agg (encS El.raw y).toArray] W _
  refine (Calls.drawn h (fun w' hw=>by obtain ⟨v,S',μ',e,-⟩:=hw; cases e)).mono ?_
  rintro e w' ⟨⟨v,S',μ',rfl,hb⟩,hd⟩
  have hv:v=.int .i64 (cf x.x y.x):=rel_scalar rfl (hb.res fun _=>false)
  subst hv
  have hbel:Go.RowKit.Below W.heap.size W w':=⟨hb.kept.os,hb.kept.tape,hb.kept.output,hb.kept.size,fun q hq=>hb.kept.block q hq (by rintro ⟨c,hc⟩; simp_all [Handed,look])⟩
  exact ⟨rfl,below_grow hbel hd⟩

theorem rowE_els {w:World} {S:Nat→Prop} {α:Type} [Inhabited α] {cells:α→List D} {k:Nat} (hk:∀ x,(cells x).length=k) (hcell:∀ (x:α) (w:World) (S:Nat→Prop) (j:Nat) (v:Value),j < k→Rd w S ((cells x).getD j default) v→v.oneCell'=true)
    {L:List α} {cur:Array Value} (hrow:∀ i,i < L.length→(cells (L.getD i default)).length=k∧∀ j,j < k→∃ x,cur[i * k+j]? = some x∧Rd w S ((cells (L.getD i default)).getD j default) x) :
    ∃ d:List (El w S cells k),d.map (·.x)=L∧∀ i (h:i < d.length),∀ j,j < k→cur[i * k+j]? = some ((d[i]'h).vs.getD j undef):=by
  have hex:∀ i,i < L.length→∃ z:El w S cells k,z.x=L.getD i default∧∀ j,j < k→cur[i * k+j]? = some (z.vs.getD j undef):=fun i hi=>by
    have hv:=(hrow i hi).2
    have:∃ f:Nat→Value,∀ j,j < k→cur[i * k+j]? = some (f j)∧Rd w S ((cells (L.getD i default)).getD j default) (f j):=⟨fun j=>if h:j < k then (hv j h).choose else undef,fun j hj=>by
      simp only [hj,dif_pos]
      exact (hv j hj).choose_spec⟩
    obtain ⟨f,hf⟩:=this
    have hg:∀ j,j < k→((List.range k).map f).getD j undef=f j:=fun j hj=>by simp [List.getD,hj]
    refine ⟨⟨L.getD i default,(List.range k).map f,by simp,fun j hj=>by rw [hg j hj]; exact (hf j hj).2,fun v hv=>?_⟩,rfl,fun j hj=>by rw [hg j hj]; exact (hf j hj).1⟩
    obtain ⟨j,hj,rfl⟩:=List.mem_map.1 hv
    have hj:=List.mem_range.1 hj
    exact hcell _ w S j _ hj (hf j hj).2
  refine ⟨List.ofFn fun i:Fin L.length=>(hex i.1 i.2).choose,?_,fun i h j hj=>?_⟩
  · apply List.ext_getElem
    · simp
    · intro i h1 h2
      simp only [List.getElem_map,List.getElem_ofFn]
      rw [(hex i h2).choose_spec.1]
      simp [List.getD,h2]
  · have hi:i < L.length:=by simpa using h
    simp only [List.getElem_ofFn]
    exact (hex i hi).choose_spec.2 j hj

theorem rd_sl_one {w:World} {S:Nat→Prop} {n:Nat} {f:Nat→List D} {v:Value} (h:Rd w S (.sl n f) v):v.oneCell'=true:=by
  cases h <;> rfl
theorem sortf_fnS4 {P:Program} {f gf:FuncId} (hc:callable P f=true) {α:Type} [Inhabited α] (cells:α→List D) (k:Nat) (k0:0 < k) (hk:∀ x,(cells x).length=k)
    (hcell:∀ (x:α) (w:World) (S:Nat→Prop) (j:Nat) (v:Value),j < k→Rd w S ((cells x).getD j default) v→v.oneCell'=true)
    (hdef:∀ (w:World) (S:Nat→Prop),Nonempty (El w S cells k)) (cf:α→α→Int) (hO:SWO (ltOf cf))
    (hcmp:∀ x y,FnA P gf [av (cells x),av (cells y)] [] (iv (cf x y)) [])
    (h1:∀ {β:Type} [Inhabited β] (enc:β→List Value),(∀ x,(enc x).length=k)→(∀ x,∀ v∈enc x,v.oneCell'=true)→∀ (cf:β→β→Int),SWO (ltOf cf)→∀ (blk off cap:Nat) (d:Array β) (w:World),CmpLays P gf #[] enc k cf blk off d.size w→HoldsK enc k w blk off d→blk < w.heap.size→d.size < 4611686018427387904 →
      Calls P f #[.slice (some ⟨blk,off,none⟩) d.size cap,.func (.func gf) #[] #[]] w fun e w'=>e=.returned (.tuple #[])∧∃ n os,w'=sortWorldK enc k w blk off n (pdq (ltOf cf) d 0 d.size (Lib.bitLen d.size) true true) os)
    (h0:∀ (p:Option Addr) (cap:Nat) (w:World),Calls P f #[.slice p 0 cap,.func (.func gf) #[] #[]] w fun e w'=>e=.returned (.tuple #[])∧w'=w) (κ e:Nat) (L:List α) (hL:L.length < 4611686018427387904)
    (R:List α) (hR:∀ l:List α,l.Perm L→(∀ i j,i < j→j < l.length→ltOf cf (l.getD j default) (l.getD i default)=false)→l=R) :
    FnS P f [ow κ L,.fn gf []] κ (rowB e k cells L) (rowB e k cells R):=by
  refine ⟨hc,fun w S μ vs hS hg hr hb=>?_⟩
  have hr0:=hr fun _=>false
  obtain ⟨v,u,rfl⟩:∃ v u,vs = #[v,u]:=by
    have:=hr0.1
    match vs,this with
    | ⟨[v,u]⟩,_=>exact ⟨v,u,rfl⟩
  have hv:Rel w S μ (fun _=>false) (.own κ L.length) v:=by simpa using hr0.2 0 (by simp)
  have hu:Rel w S μ (fun _=>false) (.fn gf []) u:=by simpa using hr0.2 1 (by simp)
  obtain rfl:u=.func (.func gf) #[] #[]:=by
    cases hu with
    | @fn _ _ cvs hl hh =>
      have:cvs = #[]:=Array.eq_empty_of_size_eq_zero (hl.trans rfl)
      subst this
      rfl
  generalize hn:L.length=n at hv
  cases hv with
  | ownNil hm =>
    refine (h0 _ _ w).mono ?_
    rintro e' w' ⟨rfl,rfl⟩
    refine ⟨⟨_,rfl⟩,?_,Kept.refl _ _⟩
    rw [hm]
    have:L=[]:=List.eq_nil_of_length_eq_zero hn
    subst this
    have:=hR [] (List.Perm.refl _) (fun i j _ hj=>absurd hj (by simp))
    rw [← this]
    rfl
  | @own _ _ g cap hm =>
    rw [hm] at hb
    have hat:BlkAt w S μ (rowB e k cells L) g cap:=hb
    obtain ⟨cur,q2,hns,q5,q3,q4,hrow⟩:=id hat
    have hlt:g < w.heap.size:=(Array.getElem?_eq_some_iff.1 q2).1
    haveI:Inhabited (El w S cells k):=⟨Classical.choice (hdef w S)⟩
    obtain ⟨d,hdx,hdc⟩:=rowE_els hk hcell hrow
    have hdl:d.length=L.length:=by rw [← hdx,List.length_map]
    subst hn
    have hlenR:∀ z:El w S cells k,(encS El.raw z).length=k:=fun z=>by rw [encS_raw,z.hl]
    have hH:HoldsK (encS (El.raw (w:=w) (S:=S) (cells:=cells) (k:=k))) k w g 0 d.toArray:=by
      intro t ht
      have ht':t < d.length * k:=by simpa using ht
      have hi:t / k < d.length:=Nat.div_lt_of_lt_mul (by rw [Nat.mul_comm]; exact ht')
      have hj:t % k < k:=Nat.mod_lt _ k0
      refine ⟨?_,by simp [World.frozen?,q2]⟩
      have hx:=hdc (t / k) hi (t % k) hj
      have e0:t / k * k+t % k=t:=by rw [Nat.mul_comm]; exact Nat.div_add_mod t k
      rw [e0] at hx
      rw [get_flatK _ _ _ _ (by simpa using ht')]
      simp only [World.cell?,q2,Nat.zero_add,Option.isSome_none,Bool.false_eq_true,if_false,hx]
      simp only [id,Option.some.injEq]
      have e1:d.toArray[t / k]! = d[t / k]'hi:=by simp [hi]
      rw [e1,encS_raw]
      simp [List.getD,(d[t / k]'hi).hl,hj]
    have hO':SWO (ltOf fun z z':El w S cells k=>cf z.x z'.x):=⟨fun z=>hO.irrefl z.x,fun a b c h h'=>hO.trans a.x b.x c.x h h',fun a b c h h'=>hO.ntrans a.x b.x c.x h h'⟩
    have hsz:d.toArray.size=L.length:=by simpa using hdl
    have hcall:=h1 (encS El.raw) hlenR (fun z v hv=>by rw [encS_raw] at hv; exact z.ho v hv) (fun z z'=>cf z.x z'.x) hO' g 0 cap d.toArray w (cmpLaysE hk hcmp hS hg hns) hH hlt (by omega)
    rw [hsz] at hcall
    refine hcall.mono ?_
    rintro e' w' ⟨rfl,m,os,rfl⟩
    refine ⟨⟨_,rfl⟩,?_,(kept_sortK _).mono' (fun q hq=>⟨cap,by rw [hq]; exact hm⟩)⟩
    rw [hm]
    have hp:=pdq_sorts (ltOf fun z z':El w S cells k=>cf z.x z'.x) hO' d.toArray 0 d.toArray.size (Lib.bitLen d.toArray.size) true true (Nat.zero_le _) (Nat.le_refl _) (Or.inl rfl)
    rw [hsz] at hp
    generalize pdq (ltOf fun z z':El w S cells k=>cf z.x z'.x) d.toArray 0 L.length (Lib.bitLen L.length) true true=q at hp ⊢
    have hqs:q.size=L.length:=hp.1.1.trans hsz
    have hperm:q.toList.Perm d:=by
      have h2:=hp.1.2.2
      have e1:q.extract 0 L.length=q:=by rw [← hqs]; simp
      have e2:d.toArray.extract 0 L.length=d.toArray:=by rw [← hsz]; simp
      rw [e1,e2] at h2
      simpa using h2
    have hRq:q.toList.map (·.x)=R:=hR _ (by rw [← hdx]; exact hperm.map _) (fun i j hij hj=>by
      have hj':j < q.size:=by simpa using hj
      have h:=hp.2 i j (Nat.zero_le _) hij (by omega)
      have g1:∀ t,t < q.size→(q.toList.map (·.x)).getD t default=(q[t]!).x:=fun t ht=>by simp [List.getD,ht]
      rw [g1 j hj',g1 i (by omega)]
      exact h)
    have hRl:R.length=L.length:=by rw [← hRq]; simp [hqs]
    have hkp:=kept_sortK (cells:=El.raw) (k:=k) (w:=w) (g:=g) (n:=m) (os:=os) q
    refine ⟨_,heap_sortK q q2,hns,by simpa [putCells] using q5,by omega,q4,fun i hi=>⟨hk _,fun j hj=>?_⟩⟩
    have hid:i < q.size:=by omega
    have hlt2:i * k+j < q.size * k:=by
      have:=Nat.mul_le_mul_right k (show i+1≤q.size from hid)
      rw [Nat.add_mul,Nat.one_mul] at this
      omega
    have hic:i * k+j < cur.size:=by
      have:q.size * k≤cap * k:=Nat.mul_le_mul_right k (by omega)
      omega
    have e1:(i * k+j) / k=i:=(blk_iff k i _ (by omega)).1 ⟨by omega,by omega⟩
    have e2:(i * k+j) % k=j:=by rw [Nat.mod_eq_sub_div_mul,e1]; omega
    refine ⟨(q[i]!).vs.getD j undef,?_,?_⟩
    · simp only [putCells,Nat.zero_le,Nat.zero_add,Nat.sub_zero,true_and,Array.getElem?_mapIdx,size_flatK,hlt2,if_true]
      rw [Array.getElem?_eq_getElem hic]
      simp only [Option.map_some,Option.some.injEq,id]
      rw [get_flatK _ _ _ _ hlt2,e1,e2,encS_raw]
      simp [List.getD,(q[i]!).hl,hj]
    · have e3:R.getD i default=(q[i]!).x:=by rw [← hRq]; simp [List.getD,hid]
      show Rd _ _ ((cells (R.getD i default)).getD j default) _
      rw [e3]
      exact ((q[i]!).hr j hj).mono (fun _ h=>h) (fun b hb=>hkp.block b (hS b hb) (fun e=>hns (e ▸ hb)))

/-- the sorted list,by insertion -/
def insBy {α:Type} (key:α→Int) (x:α):List α→List α
  | []=>[x]
  | y :: r=>bif decide (key x≤key y) then x :: y :: r else y :: insBy key x r
def isort {α:Type} (key:α→Int):List α→List α
  | []=>[]
  | x :: r=>insBy key x (isort key r)
theorem insBy_perm {α:Type} (key:α→Int) (x:α):∀ l:List α,(insBy key x l).Perm (x :: l)
  | []=>List.Perm.refl _
  | y :: r=>by
    unfold insBy
    cases decide (key x≤key y)
    · exact ((insBy_perm key x r).cons y).trans (List.Perm.swap x y r)
    · exact List.Perm.refl _
theorem isort_perm {α:Type} (key:α→Int):∀ l:List α,(isort key l).Perm l
  | []=>List.Perm.refl _
  | x :: r=>(insBy_perm key x _).trans ((isort_perm key r).cons x)
theorem insBy_sorted {α:Type} (key:α→Int) (x:α):∀ l:List α,l.Pairwise (fun a b=>key a≤key b)→(insBy key x l).Pairwise fun a b=>key a≤key b
  | [],_=>List.pairwise_singleton _ _
  | y :: r,h=>by
    unfold insBy
    have h2:=List.pairwise_cons.1 h
    cases hd:decide (key x≤key y)
    · have hd:=of_decide_eq_false hd
      refine List.pairwise_cons.2 ⟨fun z hz=>?_,insBy_sorted key x r h2.2⟩
      rcases List.mem_cons.1 ((insBy_perm key x r).mem_iff.1 hz) with rfl | hz
      · omega
      · exact h2.1 z hz
    · have hd:=of_decide_eq_true hd
      refine List.pairwise_cons.2 ⟨fun z hz=>?_,h⟩
      rcases List.mem_cons.1 hz with rfl | hz
      · exact hd
      · exact Int.le_trans hd (h2.1 z hz)
theorem isort_sorted {α:Type} (key:α→Int):∀ l:List α,(isort key l).Pairwise fun a b=>key a≤key b
  | []=>List.Pairwise.nil
  | x :: r=>insBy_sorted key x _ (isort_sorted key r)
theorem isort_length {α:Type} (key:α→Int) (l:List α):(isort key l).length=l.length:=(isort_perm key l).length_eq
theorem sorted_one {α:Type} (key:α→Int):∀ l l':List α,l.Perm l'→(l.map key).Nodup→l.Pairwise (fun a b=>key a≤key b)→l'.Pairwise (fun a b=>key a≤key b)→l=l'
  | [],l',hp,_,_,_=>hp.nil_eq
  | a :: r,[],hp,_,_,_=>absurd hp.length_eq (by simp)
  | a :: r,b :: r',hp,hn,h1,h2=>by
    have g1:=List.pairwise_cons.1 h1
    have g2:=List.pairwise_cons.1 h2
    have hn1:=List.nodup_cons.1 (show (key a :: r.map key).Nodup from hn)
    have hab:a=b:=by
      rcases List.mem_cons.1 (hp.mem_iff.1 (List.mem_cons_self:a∈a :: r)) with e | e
      · exact e
      · rcases List.mem_cons.1 (hp.mem_iff.2 (List.mem_cons_self:b∈b :: r')) with e' | e'
        · exact e'.symm
        · have k1:=g2.1 a e
          have k2:=g1.1 b e'
          have:key a=key b:=by omega
          exact absurd (this ▸ List.mem_map_of_mem e') hn1.1
    subst hab
    rw [sorted_one key r r' hp.cons_inv hn1.2 g1.2 g2.2]
def cmpK {α:Type} (key:α→Int) (x y:α):Int:=bif decide (key x < key y) then -1 else bif decide (key x > key y) then 1 else 0
theorem ltK {α:Type} (key:α→Int) (x y:α):ltOf (cmpK key) x y=decide (key x < key y):=by
  unfold ltOf cmpK
  by_cases h:key x < key y
  · simp [h]
  · by_cases h2:key x > key y <;> simp [h,h2]
theorem cmpK_swo {α:Type} (key:α→Int):SWO (ltOf (cmpK key)) where
  irrefl x:=by rw [ltK]; simp
  trans x y z h1 h2:=by rw [ltK] at *; simp only [decide_eq_true_eq] at *; omega
  ntrans x y z h1 h2:=by rw [ltK] at *; simp only [decide_eq_false_iff_not] at *; omega
theorem isort_one {α:Type} [Inhabited α] (key:α→Int) (L:List α) (hn:(L.map key).Nodup) (l:List α) (hp:l.Perm L) (hs:∀ i j,i < j→j < l.length→ltOf (cmpK key) (l.getD j default) (l.getD i default)=false):l=isort key L:=by
  refine sorted_one key l _ (hp.trans (isort_perm key L).symm) ((hp.map key).nodup_iff.2 hn) ?_ (isort_sorted key L)
  rw [List.pairwise_iff_getElem]
  intro i j hi hj hij
  have:=hs i j hij hj
  rw [ltK] at this
  simp only [List.getD,List.getElem?_eq_getElem hi,List.getElem?_eq_getElem hj,Option.getD_some,decide_eq_false_iff_not] at this
  omega
end Go.Av
