/- slices.SortFunc of a call's own row of structs of scalars, by the contract of the kit's shelf. -/
import Derived.Test.YtihmmpaalpghbaaGreatDoorLd
import Derived.Shelf.SlSortCmp.WholeK
import Derived.Lib.Bytealg
import Derived.Test.YtihmmpaalpghbaaGreatDoorLf
import Derived.Shelf.SlSortCmp.NoneTotal
import Derived.Ground.SlsfProg
import Derived.Shelf.SortM.Plain
import Derived.Shelf.SortM.SortNone
import Derived.Ground.SlgmProg
set_option linter.unusedSimpArgs false
set_option linter.unusedVariables false
set_option linter.unusedSectionVars false
set_option maxHeartbeats 1000000
set_option maxRecDepth 100000
namespace Go.Av
noncomputable section
open Go Go.Sort Go.Proofs
variable [oa]
def JF:D→Bool
 | .v x=>scalar x
 | _=>false
def Za:D→Value
 | .v x=>x
 | _=>undef
theorem Zb {w:World} {S:Nat→Prop} {d:D} (h:JF d=true) {x:Value} (hr:Rd w S d x):x=Za d:=by
 cases d with
 | v y=>cases hr; rfl
 | agg=>cases h
 | sl=>cases h
 | mp=>cases h
theorem T5 {w:World} {S:Nat→Prop} {d:D} (h:JF d=true):Rd w S d (Za d):=by
 cases d with
 | v y=>exact .v _ h
 | agg=>cases h
 | sl=>cases h
 | mp=>cases h
def encS {α:Type} (cells:α→List D) (x:α):List Value:=(cells x).map Za
theorem P2 {α:Type} {cells:α→List D} {x:α} {j:Nat} (h:j < (cells x).length):(encS cells x)[j]! = Za ((cells x).getD j default):=by
 generalize hc:cells x=cs at h
 simp [encS,hc,List.getD,h]
def qw {α:Type} [Inhabited α] (cf:α→α→Int) (L:List α):List α:=(pdq (ltOf cf) L.toArray 0 L.toArray.size (Lib.bitLen L.toArray.size) true true).toList
section
variable {α : Type} [Inhabited α] {cells : α → List D} {k : Nat}
theorem OB {w:World} {g n:Nat} {os:Array Obj} {cur:Array Value} {e:TypeId} {fr:Nat × Nat} (d:Array α) (hb:w.heap[g]? = some (.cells cur e fr)) :
  (sortWorldK (encS cells) k w g 0 n d os).heap[g]? = some (.cells (putCells id 0 (flatK (encS cells) k d) cur) e fr):=by
 have hg:g < w.heap.size:=(Array.getElem?_eq_some_iff.1 hb).1
 unfold sortWorldK putRowK
 rw [heap_grow_old _ _ (by simpa using hg)]
 simp [putRow,mapBlock,Sort.ahead,Array.getElem?_modify,hb,onCells]
theorem rW {w:World} {g n:Nat} {os:Array Obj} (d:Array α):w.grownBy (sortWorldK (encS cells) k w g 0 n d os) (some g):=by
 unfold sortWorldK putRowK
 refine ⟨rfl,rfl,rfl,by simp,fun q hq gN=>?_⟩
 rw [heap_grow_old _ _ (by simpa using hq)]
 have:g≠q:=fun e=>gN (by rw [e])
 simp [putRow,mapBlock,Sort.ahead,Array.getElem?_modify,this]
theorem OC {w:World} {g n:Nat} {os:Array Obj} (d:Array α):Kept w (sortWorldK (encS cells) k w g 0 n d os) (fun q=>q=g):=by
 have hb:=rW (cells:=cells) (k:=k) (w:=w) (g:=g) (n:=n) (os:=os) d
 exact ⟨hb.os,hb.tape,hb.output,hb.size,fun b cI iu=>hb.block b cI (fun e=>by cases e; exact iu rfl)⟩
variable {w : World} {S : Nat → Prop} {μ : Mu} {e g c : Nat} {L : List α}
theorem OD (hk:∀ x,(cells x).length=k) (pC:∀ x,(cells x).all JF=true) (h:cx w S μ (cm e k cells L) g c):HoldsK (encS cells) k w g 0 L.toArray:=by
 obtain ⟨cur,hg,iw,Au,K8,Cc,kJ⟩:=h
 intro t ht
 have ht':t < L.length * k:=by simpa using ht
 have k0:0 < k:=by
  rcases Nat.eq_zero_or_pos k with h | h
  ·subst h; simp at ht'
  ·exact h
 have hi:t / k < L.length:=Nat.div_lt_of_lt_mul (by rw [Nat.mul_comm]; exact ht')
 have hj:t % k < k:=Nat.mod_lt _ k0
 refine ⟨?_,by simp [World.frozen?,hg]⟩
 obtain ⟨x,hx,hr⟩:=(kJ (t / k) hi).2 (t % k) hj
 have e0:t / k * k+t % k=t:=by rw [Nat.mul_comm]; exact Nat.div_add_mod t k
 rw [e0] at hx
 have ho:=pC (L.getD (t / k) default)
 simp only [List.all_eq_true] at ho
 have hlen:t % k < (cells (L.getD (t / k) default)).length:=by rw [hk]; exact hj
 have hd:JF ((cells (L.getD (t / k) default)).getD (t % k) default)=true:=ho _ (oD hlen _)
 have hv:=Zb hd hr
 rw [get_flatK _ _ _ _ (by simpa using ht')]
 simp only [World.cell?,hg,Nat.zero_add,Option.isSome_none,Bool.false_eq_true,if_false,hx]
 rw [hv]
 simp only [id,Option.some.injEq]
 have e1:L.toArray[t / k]! = L.getD (t / k) default:=by simp [List.getD,hi]
 rw [e1]
 exact (P2 hlen).symm
theorem T6 {n:Nat} {os:Array Obj} {d:Array α} (hk:∀ x,(cells x).length=k) (pC:∀ x,(cells x).all JF=true) (h:cx w S μ (cm e k cells L) g c) (hd:d.size=L.length) :
  cx (sortWorldK (encS cells) k w g 0 n d os) S μ (cm e k cells d.toList) g c:=by
 obtain ⟨cur,hg,iw,Au,K8,Cc,kJ⟩:=h
 refine ⟨_,OB d hg,iw,by simpa [putCells] using Au,by simp; omega,Cc,fun i hi=>⟨hk _,fun j hj=>?_⟩⟩
 have hid:i < d.size:=by simpa using hi
 have cI:i * k+j < d.size * k:=by
  have:=Nat.mul_le_mul_right k (show i+1≤d.size from hid)
  rw [Nat.add_mul,Nat.one_mul] at this
  omega
 have hic:i * k+j < cur.size:=by
  have:d.size * k≤c * k:=Nat.mul_le_mul_right k (by omega)
  omega
 have e1:(i * k+j) / k=i:=(blk_iff k i _ (by omega)).1 ⟨by omega,by omega⟩
 have e2:(i * k+j) % k=j:=by rw [Nat.mod_eq_sub_div_mul,e1]; omega
 have e3:d[i]! = d.toList.getD i default:=by simp [List.getD,hid]
 have hlen:j < (cells (d.toList.getD i default)).length:=by rw [hk]; exact hj
 have ho:=pC (d.toList.getD i default)
 simp only [List.all_eq_true] at ho
 have hds:JF ((cells (d.toList.getD i default)).getD j default)=true:=ho _ (oD hlen _)
 refine ⟨Za ((cells (d.toList.getD i default)).getD j default),?_,T5 hds⟩
 simp only [putCells,Nat.zero_le,Nat.zero_add,Nat.sub_zero,true_and,Array.getElem?_mapIdx,size_flatK,cI,if_true]
 rw [Array.getElem?_eq_getElem hic]
 simp only [Option.map_some,Option.some.injEq,id]
 rw [get_flatK _ _ _ _ cI,e1,e2,e3]
 exact P2 hlen
theorem E7 (cf:α→α→Int) (hO:SWO (ltOf cf)) (L:List α):(pdq (ltOf cf) L.toArray 0 L.toArray.size (Lib.bitLen L.toArray.size) true true).size=L.length:=by
 have h:=(pdq_sorts (ltOf cf) hO L.toArray 0 L.toArray.size (Lib.bitLen L.toArray.size) true true (Nat.zero_le _) (Nat.le_refl _) (Or.inl rfl)).1.1
 simpa using h
theorem OE (cf:α→α→Int) (hO:SWO (ltOf cf)) (L:List α):(qw cf L).Perm L:=by
 have h:=(pdq_sorts (ltOf cf) hO L.toArray 0 L.toArray.size (Lib.bitLen L.toArray.size) true true (Nat.zero_le _) (Nat.le_refl _) (Or.inl rfl)).1
 have h2:=h.2.2
 have hs:=h.1
 unfold qw
 generalize pdq (ltOf cf) L.toArray 0 L.toArray.size (Lib.bitLen L.toArray.size) true true=d at *
 have e1:d.extract 0 L.toArray.size=d:=by rw [← hs]; simp
 rw [e1] at h2
 simpa using h2
theorem JG (cf:α→α→Int) (hO:SWO (ltOf cf)) (L:List α):∀ i j,i < j→j < (qw cf L).length→ltOf cf ((qw cf L).getD j default) ((qw cf L).getD i default)=false:=by
 have h:=pdq_sorts (ltOf cf) hO L.toArray 0 L.toArray.size (Lib.bitLen L.toArray.size) true true (Nat.zero_le _) (Nat.le_refl _) (Or.inl rfl)
 have hs:=h.1.1
 have h2:=h.2
 intro i j UY hj
 unfold qw at *
 generalize pdq (ltOf cf) L.toArray 0 L.toArray.size (Lib.bitLen L.toArray.size) true true=d at *
 have Ar:j < d.size:=by simpa using hj
 have:=h2 i j (Nat.zero_le _) UY (by omega)
 have e1:d[i]! = d.toList.getD i default:=by simp [List.getD,show i < d.size by omega]
 have e2:d[j]! = d.toList.getD j default:=by simp [List.getD,Ar]
 rw [e1,e2] at this
 exact this
end
theorem T7 {P:Program} {T:List (Nat × TI)} (hT:im P T) {t:Nat} {i:TI} (h:look T t=some i) (w:World):(isAgg t).run P w=.ok (jC i.kind) w∧(sizeOf t).run P w=.ok i.size w:=by
 obtain ⟨j,z,F⟩:=ar (hT _ _ h)
 exact ⟨qc F.kind w,by simp [sizeOf,typeInfo,F.info,F.size]⟩
theorem Mg {α β:Type} [Inhabited α] [Inhabited β] (e k:Nat) (c:β→List D) (g:α→β) (hd:g default=default) (L:List α):cm e k (fun s=>c (g s)) L=cm e k c (L.map g):=by
 have h1:(L.map g).length=L.length:=List.length_map _
 have h2:(fun i=>c (g (L.getD i default)))=fun i=>c ((L.map g).getD i default):=by
  funext i
  by_cases hi:i < L.length
  ·simp [List.getD,hi]
  ·simp [List.getD,hi,hd]
 show aZ.row e k L.length _=aZ.row e k (L.map g).length _
 rw [h1,h2]
theorem OG {α:Type} [Inhabited α] {cells:α→List D} {k:Nat} {w:World} {g n:Nat} {os:Array Obj} (d:Array α) {q:Nat} (hq:q < w.heap.size) (gN:g≠q):(sortWorldK (encS cells) k w g 0 n d os).heap[q]? = w.heap[q]? :=
  (rW (cells:=cells) (k:=k) (w:=w) (g:=g) (n:=n) (os:=os) d).block q hq (fun e=>gN (Option.some.inj e).symm)

theorem OH {α:Type} [Inhabited α] {cells:α→List D} {k:Nat} {w:World} {g n:Nat} {os:Array Obj} (d:Array α):w.heap.size≤(sortWorldK (encS cells) k w g 0 n d os).heap.size :=
  (rW (cells:=cells) (k:=k) (w:=w) (g:=g) (n:=n) (os:=os) d).size

theorem OI {P:Program} {gf:FuncId} {α:Type} [Inhabited α] {cells:α→List D} {k:Nat} (pC:∀ x,(cells x).all JF=true) {cf:α→α→Int} (hc:∀ x y,kE P gf [av (cells x),av (cells y)] [] (iv (cf x y)) [])
    {w:World} {S:Nat→Prop} {g n:Nat} (hS:∀ b,S b→b < w.heap.size) (hg:iA w S) (iw:¬ S g):CmpLays P gf #[] (encS cells) k cf g 0 n w:=by
  intro m os dk Z3 x y
  have XH:∀ b,S b→(sortWorldK (encS cells) k w g 0 m dk os).heap[b]? = w.heap[b]?:=fun b hb=>OG dk (hS b hb) (fun e=>iw (e ▸ hb))
  have dK:=OH (cells:=cells) (k:=k) (w:=w) (g:=g) (n:=m) (os:=os) dk
  generalize sortWorldK (encS cells) k w g 0 m dk os=W at XH dK ⊢
  have abn:∀ z:α,Rd W S (.agg (cells z)) (.agg (encS cells z).toArray):=fun z=>by
    refine .agg _ _ (by simp [encS]) (fun i hi=>?_)
    have ho:=pC z
    simp only [List.all_eq_true] at ho
    have hd:=ho _ (oD hi default)
    have e:(encS cells z).toArray.getD i undef=Za ((cells z).getD i default):=by
      simp [encS,Array.getD,List.getD,hi]
    rw [e]
    exact T5 hd
  have h:=(hc x y).2 W S (fun _=>none) #[.agg (encS cells x).toArray,.agg (encS cells y).toArray] (fun b hb=>Nat.lt_of_lt_of_le (hS b hb) dK) (hg.mono (fun _ h=>h) XH)
    (fun ν=>⟨rfl,fun i hi=>by
      have:i=0∨i=1:=by simp at hi; omega
      rcases this with rfl | rfl
      · exact .d (abn x)
      · exact .d (abn y)⟩) (fun κ b hb=>by simp [look] at hb) (fun κ κ' b b' g c c' hb=>by simp [look] at hb)
  show Calls P gf #[.agg (encS cells x).toArray,.agg (encS cells y).toArray] W _
  refine (Calls.drawn h (fun w' hw=>by obtain ⟨v,S',μ',e,-⟩:=hw; cases e)).mono ?_
  rintro e w' ⟨⟨v,S',μ',rfl,hb⟩,hd⟩
  have hv:v=.int .i64 (cf x y):=bG rfl (hb.res fun _=>false)
  subst hv
  have VP:Go.RowKit.Below W.heap.size W w':=⟨hb.kept.os,hb.kept.tape,hb.kept.output,hb.kept.size,fun q hq=>hb.kept.block q hq (by rintro ⟨c,hc⟩; simp_all [Handed,look])⟩
  exact ⟨rfl,Oq VP hd⟩

theorem OJ {P:Program} {f gf:FuncId} (hc:dX P f=true) {α:Type} [Inhabited α] (cells:α→List D) (k:Nat) (hk:∀ x,(cells x).length=k) (pC:∀ x,(cells x).all JF=true) (cf:α→α→Int) (hO:SWO (ltOf cf))
    (adI:∀ x y,kE P gf [av (cells x),av (cells y)] [] (iv (cf x y)) [])
    (h1:∀ (blk off cap:Nat) (d:Array α) (w:World),CmpLays P gf #[] (encS cells) k cf blk off d.size w→HoldsK (encS cells) k w blk off d→blk < w.heap.size→d.size < 4611686018427387904 →
      Calls P f #[.slice (some ⟨blk,off,none⟩) d.size cap,.func (.func gf) #[] #[]] w fun e w'=>e=.returned (.tuple #[])∧∃ n os,w'=sortWorldK (encS cells) k w blk off n (pdq (ltOf cf) d 0 d.size (Lib.bitLen d.size) true true) os)
    (h0:∀ (p:Option Addr) (cap:Nat) (w:World),Calls P f #[.slice p 0 cap,.func (.func gf) #[] #[]] w fun e w'=>e=.returned (.tuple #[])∧w'=w) (κ e:Nat) (L:List α) (hL:L.length < 4611686018427387904) :
    ZZ P f [ow κ L,.fn gf []] κ (cm e k cells L) (cm e k cells (qw cf L)):=by
  refine ⟨hc,fun w S μ vs hS hg hr hb=>?_⟩
  have hr0:=hr fun _=>false
  obtain ⟨v,u,rfl⟩:∃ v u,vs = #[v,u]:=by
    have:=hr0.1
    match vs,this with
    | ⟨[v,u]⟩,_=>exact ⟨v,u,rfl⟩
  have hv:Rel w S μ (fun _=>false) (.own κ L.length) v:=by simpa using hr0.2 0 (by simp)
  have hu:Rel w S μ (fun _=>false) (.fn gf []) u:=by simpa using hr0.2 1 (by simp)
  obtain rfl:u=.func (.func gf) #[] #[]:=by
    cases hu with
    | @fn _ _ xl hl hh =>
      have:xl = #[]:=Array.eq_empty_of_size_eq_zero (hl.trans rfl)
      subst this
      rfl
  have Gq:(qw cf L).length=L.length:=by have:=E7 cf hO L; simpa [qw] using this
  generalize hn:L.length=n at hv
  cases hv with
  | cR hm =>
    refine (h0 _ _ w).mono ?_
    rintro e' w' ⟨rfl,rfl⟩
    refine ⟨⟨_,rfl⟩,?_,Kept.refl _ _⟩
    rw [hm]
    show (qw cf L).length=0
    omega
  | @own _ _ g cap hm =>
    rw [hm] at hb
    have Aq:cx w S μ (cm e k cells L) g cap:=hb
    have hH:=OD hk pC Aq
    obtain ⟨cur,q2,iw,q5,q3,q4,kJ⟩:=id Aq
    have cI:g < w.heap.size:=(Array.getElem?_eq_some_iff.1 q2).1
    subst hn
    refine (h1 g 0 cap L.toArray w (OI pC adI hS hg iw) hH cI (by simpa using hL)).mono ?_
    rintro e' w' ⟨rfl,m,os,rfl⟩
    refine ⟨⟨_,rfl⟩,?_,(OC _).xi (fun q hq=>⟨cap,by rw [hq]; exact hm⟩)⟩
    rw [hm]
    exact T6 hk pC Aq (E7 cf hO L)

/-- Hz order of strings -/
theorem zw:∀ (a b:List UInt8),Lib.compareBytes a b < 0↔a < b
  | [],[]=>by simp [Lib.compareBytes]
  | [],_ :: _=>by simp [Lib.compareBytes]
  | _ :: _,[]=>by simp [Lib.compareBytes]
  | a :: xs,b :: bs=>by
    have ih:=zw xs bs
    unfold Lib.compareBytes
    rw [List.cons_lt_cons_iff]
    by_cases h1:a < b
    · simp [h1]
    · by_cases h2:b < a
      · have:a≠b:=fun e=>by subst e; exact h1 h2
        simp [h1,h2,this]
      · have:a=b:=UInt8.le_antisymm (UInt8.not_lt.1 h2) (UInt8.not_lt.1 h1)
        subst this
        simp [ih]
theorem T8 {α:Type} (t:α→List UInt8):SWO (ltOf fun x y=>Lib.compareBytes (t x) (t y)) where
  irrefl x:=by
    unfold ltOf
    rw [decide_eq_false_iff_not,zw]
    exact List.lt_irrefl _
  trans x y z h1 h2:=by
    simp only [ltOf,decide_eq_true_eq] at *
    rw [zw] at *
    exact List.lt_trans h1 h2
  ntrans x y z h1 h2:=by
    simp only [ltOf,decide_eq_false_iff_not] at *
    rw [zw] at *
    rw [List.not_lt] at *
    exact List.le_trans h2 h1
end
end Go.Av
namespace Go.Proofs.YtihmmpaalpghbaaGreatDoor
noncomputable section
open Go Go.Av Go.Shelf Go.Proofs
def Tryz.GP:Go.Shelf.Ren:=⟨fun | 6=>55 | 15=>91 | 14=>90 | 28=>136 | 29=>137 | 20=>128 | 21=>129 | 22=>130 | 23=>131 | 24=>132 | 25=>133 | 26=>134 | 27=>135 | 46=>173 | 47=>174 | 48=>175 | 49=>176 | 50=>177 | 57=>199 | n=>n,fun | 22=>75 | 24=>37 | 25=>125 | 3=>3 | 39=>159 | 0=>0 | 53=>198 | 55=>200 | 4=>4 | 46=>191 | 45=>190 | 50=>195 | 5=>5 | 9=>9 | 66=>227 | 70=>231 | 76=>252 | 77=>253 | n=>n,fun | n=>n⟩
theorem Tryz.H6:Go.Proofs.SlLaysF0.n6 Tryz.prog Tryz.GP:={
  mixed:=by kernel_rfl
  f6:=⟨Tryz.f55.name,by decide,Tryz.func55.trans (congrArg some (by kernel_rfl))⟩
  f14:=⟨Tryz.f90.name,by decide,Tryz.func90.trans (congrArg some (by kernel_rfl))⟩
  f15:=Tryz.func91.trans (congrArg some (by kernel_rfl))
  f20:=⟨Tryz.f128.name,by decide,Tryz.func128.trans (congrArg some (by kernel_rfl))⟩
  f21:=⟨Tryz.f129.name,by decide,Tryz.func129.trans (congrArg some (by kernel_rfl))⟩
  f22:=⟨Tryz.f130.name,by decide,Tryz.func130.trans (congrArg some (by kernel_rfl))⟩
  f23:=⟨Tryz.f131.name,by decide,Tryz.func131.trans (congrArg some (by kernel_rfl))⟩
  f24:=⟨Tryz.f132.name,by decide,Tryz.func132.trans (congrArg some (by kernel_rfl))⟩
  f25:=⟨Tryz.f133.name,by decide,Tryz.func133.trans (congrArg some (by kernel_rfl))⟩
  f26:=⟨Tryz.f134.name,by decide,Tryz.func134.trans (congrArg some (by kernel_rfl))⟩
  f27:=⟨Tryz.f135.name,by decide,Tryz.func135.trans (congrArg some (by kernel_rfl))⟩
  f28:=Tryz.func136.trans (congrArg some (by kernel_rfl))
  f29:=Tryz.func137.trans (congrArg some (by kernel_rfl))
  f46:=⟨Tryz.f173.name,by decide,Tryz.func173.trans (congrArg some (by kernel_rfl))⟩
  f47:=Tryz.func174.trans (congrArg some (by kernel_rfl))
  f48:=Tryz.func175.trans (congrArg some (by kernel_rfl))
  f49:=⟨Tryz.f176.name,by decide,Tryz.func176.trans (congrArg some (by kernel_rfl))⟩
  f50:=⟨Tryz.f177.name,by decide,Tryz.func177.trans (congrArg some (by kernel_rfl))⟩
  f57:=⟨Tryz.f199.name,by decide,Tryz.func199.trans (congrArg some (by kernel_rfl))⟩
  t0:=Tryz.underlying0
  a0:=Tryz.isAgg0
  z0:=Tryz.sizeOf0
  v0:=Tryz.zeroValue0
  t3:=Tryz.underlying3
  a3:=Tryz.isAgg3
  z3:=Tryz.sizeOf3
  v3:=Tryz.zeroValue3
  t4:=Tryz.underlying4
  a4:=Tryz.isAgg4
  z4:=Tryz.sizeOf4
  v4:=Tryz.zeroValue4
  t5:=Tryz.underlying5
  a5:=Tryz.isAgg5
  z5:=Tryz.sizeOf5
  v5:=Tryz.zeroValue5
  t9:=Tryz.underlying9
  a9:=Tryz.isAgg9
  z9:=Tryz.sizeOf9
  v9:=Tryz.zeroValue9
  t22:=Tryz.underlying75
  a22:=Tryz.isAgg75
  z22:=Tryz.sizeOf75
  v22:=Tryz.zeroValue75
  t25:=Tryz.underlying125
  a25:=Tryz.isAgg125
  z25:=Tryz.sizeOf125
  v25:=Tryz.zeroValue125
  t39:=Tryz.underlying159
  a39:=Tryz.isAgg159
  z39:=Tryz.sizeOf159
  v39:=Tryz.zeroValue159
  t45:=Tryz.underlying190
  a45:=Tryz.isAgg190
  z45:=Tryz.sizeOf190
  v45:=Tryz.zeroValue190
  t46:=Tryz.underlying191
  a46:=Tryz.isAgg191
  z46:=Tryz.sizeOf191
  v46:=Tryz.zeroValue191
  t50:=Tryz.underlying195
  a50:=Tryz.isAgg195
  z50:=Tryz.sizeOf195
  v50:=Tryz.zeroValue195
  t53:=Tryz.underlying198
  a53:=Tryz.isAgg198
  z53:=Tryz.sizeOf198
  v53:=Tryz.zeroValue198
  t55:=Tryz.underlying200
  a55:=Tryz.isAgg200
  z55:=Tryz.sizeOf200
  v55:=Tryz.zeroValue200
  t66:=Tryz.underlying227
  a66:=Tryz.isAgg227
  z66:=Tryz.sizeOf227
  v66:=Tryz.zeroValue227
  t70:=Tryz.underlying231
  a70:=Tryz.isAgg231
  z70:=Tryz.sizeOf231
  v70:=Tryz.zeroValue231
  t76:=Tryz.underlying252
  a76:=Tryz.isAgg252
  z76:=Tryz.sizeOf252
  v76:=Tryz.zeroValue252
  t77:=Tryz.underlying253
  a77:=Tryz.isAgg253
  z77:=Tryz.sizeOf253
  v77:=Tryz.zeroValue253 }
theorem XI:∃ i,Go.Av.look TT 37=some i∧jC i.kind=true∧i.size=44:=⟨_,rfl,rfl,rfl⟩
theorem Zc (w:World):(isAgg 37).run Tryz.prog w=.ok true w:=by
  obtain ⟨i,h1,h2,-⟩:=XI
  rw [← h2]
  exact (T7 tok h1 w).1
theorem Wm (w:World):(Go.sizeOf 37).run Tryz.prog w=.ok 44 w:=by
  obtain ⟨i,h1,-,h2⟩:=XI
  rw [← h2]
  exact (T7 tok h1 w).2
abbrev E8:Type:={x:ae // x.dT}
instance:Inhabited E8:=⟨⟨default,by unfold ae.dT; decide⟩⟩
/-- Hz text of a report,as bytes -/
def E9 (x:ae):List UInt8:=(bg x).data.toList
def sO (x y:E8):Int:=Lib.compareBytes (E9 x.1) (E9 y.1)
theorem wB:Go.Sort.SWO (Go.Proofs.ltOf sO):=T8 fun x:E8=>E9 x.1
def A7 (s:ae):E8:=open Classical in if h:s.dT then ⟨s,h⟩ else default
theorem Mh {l:List ae} (h:∀ s,s∈l→s.dT):(l.map A7).map (·.1)=l:=by
  rw [List.map_map]
  conv=>rhs; rw [← List.map_id l]
  refine List.map_congr_left (fun s hs=>?_)
  show (A7 s).1=s
  unfold A7
  rw [dif_pos (h s hs)]
def dS (l:List ae):List ae:=(qw sO (l.map A7)).map (·.1)
theorem gA {l:List ae} (h:∀ s,s∈l→s.dT):(dS l).Perm l:=by
  have:=(OE sO wB (l.map A7)).map (·.1)
  rwa [Mh h] at this
theorem rX (l:List ae):∀ i j,i < j→j < (dS l).length→¬ E9 ((dS l).getD j default) < E9 ((dS l).getD i default):=by
  intro i j UY hj
  have hl:(dS l).length=(qw sO (l.map A7)).length:=by simp [dS]
  have h:=JG sO wB (l.map A7) i j UY (by omega)
  unfold Go.Proofs.ltOf sO at h
  simp only [decide_eq_false_iff_not,zw] at h
  have e:∀ q,q < (qw sO (l.map A7)).length→(dS l).getD q default=((qw sO (l.map A7)).getD q default).1:=fun q hq=>by simp [dS,List.getD,hq]
  rw [e i (by omega),e j (by omega)]
  exact h
theorem Zd (x y:E8):kE Tryz.prog 56 [av x.1.cells,av y.1.cells] [] (iv (sO x y)) []:=by
  have h:=(rj x.1 y.1).pf ⟨x.2,y.2⟩
  have e:(rj x.1 y.1).v=sO x y:=rfl
  rw [e] at h
  exact h
/-- adJ.abo of an own row of JB -/
def zx (κ:Nat) (x:List ae):GL (List ae) :=
  ⟨Tryz.prog,55,[ow κ x,.fn 56 []],κ,cm 37 44 ae.cells x,fun y=>cm 37 44 ae.cells y,dS x,x.length < 4611686018427387904∧∀ s,s∈x→s.dT,
    fun h=>by
      have e:=Mh h.2
      have hf:=OJ (P:=Tryz.prog) (f:=55) (gf:=56) (by kernel_rfl) (fun s:E8=>s.1.cells) 44 (fun _=>rfl) (fun _=>rfl) sO wB
        Zd
        (fun blk off cap d w pZ hH hb hs=>AnyQ.slices_SortFunc_eq Tryz.H6 44 Zc Wm (Go.Av.encS fun s:E8=>s.1.cells) (fun _=>rfl)
          (fun x v hv=>by
            have hv:v∈(ae.cells x.1).map Za:=hv
            obtain ⟨d,hd,rfl⟩:=List.mem_map.1 hv
            have ho:(ae.cells x.1).all JF=true:=rfl
            have:=(List.all_eq_true.1 ho) d hd
            have hi:=(List.all_eq_true.1 x.2) d hd
            cases d with
            | v z =>
              cases z with
              | int k n=>rfl
              | _=>simp [yb] at hi
            | _=>simp [yb] at hi) sO wB 56 #[] blk off cap d w (fun args w=>tQ (by kernel_rfl) args) pZ hH hb hs)
        (fun p cap w=>AnyF.slices_SortFunc_none Tryz.H6 p cap _ w) κ 37 (x.map A7) (by simpa using h.1)
      have e1:cm 37 44 (fun s:E8=>s.1.cells) (x.map A7)=cm 37 44 ae.cells x:=by rw [Mg _ _ ae.cells (fun s:E8=>s.1) rfl,e]
      have e2:cm 37 44 (fun s:E8=>s.1.cells) (qw sO (x.map A7))=cm 37 44 ae.cells (dS x):=Mg _ _ ae.cells (fun s:E8=>s.1) rfl _
      have e3:ow κ (x.map A7)=ow κ x:=by show AV.own κ _=AV.own κ _; rw [List.length_map]
      rw [e1,e2,e3] at hf
      exact hf,
    fun y=>(∀ s,s∈x→s.dT)→y.Perm x∧∀ i j,i < j→j < y.length→¬ E9 (y.getD j default) < E9 (y.getD i default),fun h=>⟨gA h,rX x⟩⟩
section
open Go Go.Av
theorem Body.lV {a b:Body} (h:a.cells=b.cells):a=b:=by
 obtain ⟨k,bi,ix,⟨p1,p2,p3,p4,p5,⟨t1,t2,t3⟩,p6,p7,p8,p9,EV,Gt,Cw⟩,⟨s1,s2,s3,s4,s5,s6,s7,s8,s9⟩,⟨a1,a2,a3,a4,a5,a6,a7,a8,a9⟩,⟨l1,l2⟩,⟨f1,f2,f3⟩⟩:=a
 obtain ⟨k',bi',ix',⟨p1',p2',p3',p4',p5',⟨t1',t2',t3'⟩,p6',p7',p8',p9',aex,aey,aez⟩,⟨s1',s2',s3',s4',s5',s6',s7',s8',s9'⟩,⟨a1',a2',a3',a4',a5',a6',a7',a8',a9'⟩,⟨l1',l2'⟩,⟨f1',f2',f3'⟩⟩:=b
 simp only [Body.cells,dV.cells,fc.cells,Sign.cells,cd.cells,bB.cells,Fact.cells,List.cons_append,List.nil_append,List.append_assoc,List.append_nil,List.cons.injEq,dI,D.v.injEq,Value.int.injEq,true_and,and_true] at h
 obtain ⟨rfl,rfl,rfl,rfl,rfl,rfl,rfl,rfl,rfl,rfl,rfl,rfl,rfl,rfl,rfl,rfl,rfl,rfl,rfl,rfl,rfl,rfl,rfl,rfl,rfl,rfl,rfl,rfl,rfl,rfl,rfl,rfl,rfl,rfl,rfl,rfl,rfl,rfl,rfl,rfl,rfl⟩:=h
 rfl
theorem yj {x:ae} (h:au x=true):x.body=(bK x.body.kind x.body.bill x.body.index (ic x.body)).1:=by
 have hn:=eh x.body
 dsimp only at hn
 cases hb:bZ (Body.cells (bK x.body.kind x.body.bill x.body.index (eW x.body)).1) (Body.cells x.body) with
 | true =>
  rw [hn] at hb
  exact (Body.lV (kb rfl rfl hb)).symm
 | false =>
  have e:au x=bif (((((!aO x.reporter 200)||(!aO x.no 10000))||(!aO x.day 100001))||(!aO x.body.kind 5))||(!aO x.body.bill 50)) then false else bif !(bZ (Body.cells (bK x.body.kind x.body.bill x.body.index (eW x.body)).1) (Body.cells x.body)) then false else (bif x.body.kind == 0 then (x.body.index == 0)&&(x.body.aw.day == x.day) else bif x.body.kind == 1 then ((decide (x.body.index > 0))&&(decide (x.body.index < 40)))&&(x.body.sign.day == x.day) else bif x.body.kind == 2 then aO x.body.index 100&&(x.body.act.day == x.day) else bif x.body.kind == 3 then aO x.body.index 4 else x.body.index == 0):=rfl
  rw [e,hb] at h
  simp at h
def jJ (x:ae):List Int:=[x.reporter,x.no,x.day,x.body.kind,x.body.bill,x.body.index]++ic x.body
theorem jK (x:ae):(jJ x).length≤22:=by
 have:=L2 x.body
 simp only [jJ,List.length_append,List.length_cons,List.length_nil]
 omega
theorem jL {x:ae} (h:x.dT):∀ n∈jJ x,aK n:=by
 obtain ⟨p1,p2,p3,p4⟩:=h.parts
 obtain ⟨q1,q2,q3,-⟩:=p4.parts
 have h2:=L3 p4
 intro n hn
 simp only [jJ,List.cons_append,List.nil_append,List.mem_cons] at hn
 rcases hn with rfl | rfl | rfl | rfl | rfl | rfl | hn
 ·exact p1
 ·exact p2
 ·exact p3
 ·exact q1
 ·exact q2
 ·exact q3
 ·exact h2 n hn
theorem uh {x:ae} (h:au x=true):bg x=fH (jJ x):=by
 have hn:=eh x.body
 dsimp only at hn
 have e:bg x=bif !au x then (⟨#[]⟩:ByteArray) else fH ([x.reporter,x.no,x.day,x.body.kind,x.body.bill,x.body.index]++eW x.body):=rfl
 rw [e,h,hn]
 rfl
theorem yk {x:ae} (h:au x=false):bg x=⟨#[]⟩:=by
 have e:bg x=bif !au x then (⟨#[]⟩:ByteArray) else fH ([x.reporter,x.no,x.day,x.body.kind,x.body.bill,x.body.index]++eW x.body):=rfl
 rw [e,h]
 rfl
theorem ke {x:ae} (h:au x=true):E9 x=iU (jJ x):=by
 unfold E9
 rw [uh h]
 simp [fH]
theorem T9 {a b:ae} (ha:au a=true) (hb:au b=true) (h:jJ a=jJ b):a=b:=by
 simp only [jJ,List.cons_append,List.nil_append,List.cons.injEq] at h
 obtain ⟨h1,h2,h3,h4,h5,h6,h7⟩:=h
 have e1:=yj ha
 have e2:=yj hb
 rw [h4,h5,h6,h7,← e2] at e1
 obtain ⟨r,n,d,bo⟩:=a
 obtain ⟨r',n',d',bo'⟩:=b
 simp only at h1 h2 h3 e1
 rw [h1,h2,h3,e1]
theorem Fa {a b:ae} (ia:a.dT) (ib:b.dT) (ha:au a=true) (hb:au b=true) (h:E9 a=E9 b):a=b:=by
 rw [ke ha,ke hb] at h
 have h1:=jK a
 have h2:=jK b
 exact T9 ha hb (A0 (t:=[]) (u:=[]) (by omega) (by omega) (jL ia) (jL ib) (by rw [h])).1
theorem Mi {κ α:Type} (K:KE κ) (k:κ) (v:α):∀ (m:List (κ × α)) (e:κ × α),e∈eM K m k v→(∃ e',e'∈m∧e'.1=e.1)∨e.1=k
 | [],e,h=>by simp [eM] at h; exact .inr (by rw [h])
 | p :: r,e,h=>by
  simp only [eM] at h
  cases hk:bZ (K.C k) (K.C p.1) with
  | true =>
   rw [hk] at h
   simp only [cond_true,List.mem_cons] at h
   rcases h with rfl | h
   ·exact .inl ⟨p,List.mem_cons_self,rfl⟩
   ·exact .inl ⟨e,List.mem_cons_of_mem _ h,rfl⟩
  | false =>
   rw [hk] at h
   simp only [cond_false,List.mem_cons] at h
   rcases h with rfl | h
   ·exact .inl ⟨e,List.mem_cons_self,rfl⟩
   ·rcases Mi K k v r e h with ⟨e',h1,h2⟩ | h1
    ·exact .inl ⟨e',List.mem_cons_of_mem _ h1,h2⟩
    ·exact .inr h1
theorem H7 (day:Int):∀ (l:List ah) (m:List (ae × Int)) (e:ae × Int),e∈l.foldl (lI day) m→(∃ e',e'∈m∧e'.1=e.1)∨∃ x,x∈l∧x.report=e.1∧wA day x=true
 | [],m,e,h=>.inl ⟨e,h,rfl⟩
 | x :: l,m,e,h=>by
  rcases H7 day l _ e h with ⟨e',h1,h2⟩ | ⟨y,h1,h2⟩
  ·unfold lI at h1
   cases hc:wA day x with
   | false =>
    rw [hc] at h1
    exact .inl ⟨e',h1,h2⟩
   | true =>
    rw [hc] at h1
    rcases Mi _ _ _ _ _ h1 with ⟨e'',h3,h4⟩ | h3
    ·exact .inl ⟨e'',h3,h4.trans h2⟩
    ·exact .inr ⟨x,List.mem_cons_self,by rw [← h2,h3],hc⟩
  ·exact .inr ⟨y,List.mem_cons_of_mem _ h1,h2⟩
theorem lW {l:List ah} {day:Int} {x:ae} (h:x∈aY l day):au x=true∧∃ a,a∈l∧a.report=x:=by
 unfold aY vE at h
 obtain ⟨e,he,rfl⟩:=List.mem_map.1 h
 rcases H7 day l [] e (List.mem_filter.1 he).1 with ⟨e',h1,-⟩ | ⟨a,h1,h2,h3⟩
 ·cases h1
 ·refine ⟨?_,a,h1,h2⟩
  unfold wA at h3
  simp only [Bool.and_eq_true] at h3
  rw [← h2]
  exact h3.2
theorem H8 {α:Type} (k:Int):∀ (m:List (Int × α)),(∃ v,xt m k=some v∧∃ e,e∈m∧e.2=v)∧k∈m.map Prod.fst∨xt m k=none∧k ∉ m.map Prod.fst
 | []=>.inr ⟨rfl,by simp⟩
 | p :: r=>by
  simp only [xt]
  cases h:(k == p.1) with
  | true =>
   have h:k=p.1:=by simpa using h
   exact .inl ⟨⟨p.2,rfl,p,List.mem_cons_self,rfl⟩,by simp [h]⟩
  | false =>
   have h:k≠p.1:=by simpa using h
   rcases H8 k r with ⟨⟨v,h1,e,h2,h3⟩,h4⟩ | ⟨h1,h2⟩
   ·exact .inl ⟨⟨v,h1,e,List.mem_cons_of_mem _ h2,h3⟩,by simp at h4 ⊢; exact .inr h4⟩
   ·exact .inr ⟨h1,by simp at h2 ⊢; exact ⟨h,h2⟩⟩
theorem Ua {L:List ae} {m:List (Int × Bool)} (h:fY L m) (r:Int):Jo m r false=true↔∃ c,2≤yJ L r c:=by
 rw [← h.2.2 r]
 unfold Jo
 rcases H8 r m with ⟨⟨v,h1,e,h2,h3⟩,h4⟩ | ⟨h1,h2⟩
 ·rw [h1]
  have:=h.2.1 e h2
  rw [h3] at this
  simp only [Option.getD_some,this,true_iff]
  exact h4
 ·rw [h1]
  simp only [Option.getD_none,Bool.false_eq_true,false_iff]
  exact h2
def mU (L:List ae) (r:Int):Bool:=open Classical in decide (∃ c,2≤yJ L r c)
theorem Ub {L:List ae} {m:List (Int × Bool)} (h:fY L m) (r:Int):Jo m r false=mU L r:=by
 have:=Ua h r
 unfold mU
 cases hm:Jo m r false with
 | true=>rw [hm] at this; exact (@decide_eq_true _ (Classical.propDecidable _) (this.1 rfl)).symm
 | false=>rw [hm] at this; exact (@decide_eq_false _ (Classical.propDecidable _) (fun h=>by have:=this.2 h; cases this)).symm
def vF (l:List ah) (day:Int):List ae:=dS ((aY l day).filter fun c=>!mU (aY l day) c.reporter)
theorem JH {a b:List ae} (h:a.Perm b) (hi:∀ s,s∈a→s.dT) (hr:∀ s,s∈a→au s=true):dS a=dS b:=by
 have hib:∀ s,s∈b→s.dT:=fun s hs=>hi s (h.mem_iff.2 hs)
 have pa:=gA hi
 have pb:=gA hib
 have hp:∀ l:List ae,(dS l).Pairwise (fun x y:ae=>¬ E9 y < E9 x):=fun l=>by
  rw [List.pairwise_iff_getElem]
  intro i j hi hj UY
  have:=rX l i j UY hj
  rwa [show (dS l).getD j default=(dS l)[j] by simp [List.getD,hj],show (dS l).getD i default=(dS l)[i] by simp [List.getD,hi]] at this
 refine List.Perm.eq_of_pairwise (fun x y hx hy h1 h2=>?_) (hp a) (hp b) ((pa.trans h).trans pb.symm)
 have hxa:=pa.mem_iff.1 hx
 have hya:=h.mem_iff.2 (pb.mem_iff.1 hy)
 exact Fa (hi x hxa) (hi y hya) (hr x hxa) (hr y hya) (List.le_antisymm (List.not_lt.1 h1) (List.not_lt.1 h2))
theorem mo {l:List ah} {day:Int} (hl:l.length≤1200) (hi:∀ a,a∈l→a.report.dT) {y:List ae} {m:List (Int × Bool)} (hy:xa (aY l day) y) (hm:fY (aY l day) m) :
  y.length≤1200∧(∀ s,s∈bE y m→s.dT)∧(bE y m).length≤1200∧dS (bE y m)=vF l day:=by
 have h1:y.length≤1200:=by
  have:=hy.length_eq
  have h2:=rh l day
  omega
 have hd:=kG y m (by omega)
 have hf:(fun c_:ae=>!bD c_ m)=fun c=>!mU (aY l day) c.reporter:=by
  funext c
  rw [show bD c m=Jo m c.reporter false from rfl,Ub hm]
 rw [hf] at hd
 have hI:∀ s,s∈bE y m→s.dT∧au s=true:=fun s hs=>by
  rw [hd] at hs
  obtain ⟨h3,a,h4,h5⟩:=lW (hy.mem_iff.1 (List.mem_filter.1 hs).1)
  exact ⟨h5 ▸ hi a h4,h3⟩
 refine ⟨h1,fun s hs=>(hI s hs).1,?_,?_⟩
 ·rw [hd]
  have:=List.length_filter_le (fun c:ae=>!mU (aY l day) c.reporter) y
  omega
 ·refine JH ?_ (fun s hs=>(hI s hs).1) (fun s hs=>(hI s hs).2)
  rw [hd]
  exact hy.filter _
def lu (l:List ah) (day:Int):Sk ((List ae)) :=
 .br (decide (((l.length:Nat):Int) > 1200))
 (.fin [])
 (.r 3 ((sJ l day).c) fun _ =>
 .Ny 777777 (fp l day) (vy ae.cells) [] fun y1 =>
 .wr 777777 (lr l day) y1.length <|
 .ot 777778 (bH l day) List.length (xr dB) [] fun m2 =>
 .fm 777778 <|
 .fb 6 <|
 .r 4 ((sN 777777 19 y1 m2).c) fun x3 =>
 .r 5 ((zx 19 x3).c) fun x4 =>
 .wn 19 x3.length x4.length <|
 .fin x4)
def aB l day:=(lu l day).val
theorem gm {l:List ah} {day:Int} (hl:l.length≤1200) (hi:∀ a,a∈l→a.report.dT):aB l day=vF l day:=by
 have hd:decide (((l.length:Nat):Int) > 1200)=false:=by rw [decide_eq_false_iff_not]; omega
 have KA:fY (aY l day) (cT (bH l day) []):=fB (qu _)
 have hy0:xa (aY l day) (cT (fp l day) []):=fB ⟨_,List.Perm.refl _⟩
 have e0:aB l day=bif decide (((l.length:Nat):Int) > 1200) then [] else dS (bE (cT (fp l day) []) (cT (bH l day) [])):=rfl
 rw [e0,hd]
 exact (mo hl hi hy0 KA).2.2.2
theorem ui {l:List ah} {day:Int} (hi:∀ a,a∈l→a.report.dT):(aB l day).length≤1200∧∀ s,s∈aB l day→s.dT∧au s=true:=by
 by_cases hl:l.length≤1200
 ·rw [gm hl hi]
  have hs:∀ s,s∈(aY l day).filter (fun c=>!mU (aY l day) c.reporter)→s.dT∧au s=true:=fun s hs=>by
   obtain ⟨h1,a,h2,h3⟩:=lW (List.mem_filter.1 hs).1
   exact ⟨h3 ▸ hi a h2,h1⟩
  have hp:=gA (fun s h=>(hs s h).1)
  unfold vF
  refine ⟨?_,fun s h=>hs s (hp.mem_iff.1 h)⟩
  have h1:=hp.length_eq
  have h2:=List.length_filter_le (fun c:ae=>!mU (aY l day) c.reporter) (aY l day)
  have h3:=rh l day
  omega
 ·have hd:decide (((l.length:Nat):Int) > 1200)=true:=by rw [decide_eq_true_eq]; omega
  have e0:aB l day=bif decide (((l.length:Nat):Int) > 1200) then [] else dS (bE (cT (fp l day) []) (cT (bH l day) [])):=rfl
  rw [e0,hd]
  exact ⟨by simp,fun s h=>by cases h⟩
theorem zy (l:List ah) (day:Int):(fun (x:(List ae))=>(∀ a,a∈l→a.report.dT)→x.length≤1200∧∀ s,s∈x→s.dT∧au s=true) (aB l day):=fun hi=>ui hi
theorem Cy (l:List ah) (day:Int) (hi:∀ a,a∈l→a.report.dT):(lu l day).bO (fun _=>True):=by
 unfold lu
 refine ⟨fun _=>trivial,fun hl=>?_⟩
 have hl:l.length≤1200:=by simp only [decide_eq_false_iff_not] at hl; omega
 refine ⟨hl,fun _ _ _ y1 Uc=>⟨?_,Uc.length_eq.symm,fun m2 Sb=>⟨?_,?_,fun x3 hx3 _=>⟨?_,fun x4 PZ _=>⟨?_,trivial⟩⟩⟩⟩⟩
 ·have KA:fY (aY l day) (cT (bH l day) []):=fB (qu _)
  have hy0:xa (aY l day) (cT (fp l day) []):=fB ⟨y1,Uc⟩
  exact (mo hl hi Uc KA).2.2.2.trans (mo hl hi hy0 KA).2.2.2.symm
 ·have KA:fY (aY l day) (cT (bH l day) []):=fB (qu _)
  exact (mo hl hi Uc Sb).2.2.2.trans (mo hl hi Uc KA).2.2.2.symm
 ·have:=(mo hl hi Uc Sb).1
  show y1.length≤1000000000
  omega
 ·have hx3:x3=bE y1 m2:=hx3
  rw [hx3]
  have h1:=(mo hl hi Uc Sb).2.2.1
  exact ⟨by omega,(mo hl hi Uc Sb).2.1⟩
 ·have hx3:x3=bE y1 m2:=hx3
  have PZ:x4=dS x3:=PZ
  rw [PZ]
  exact (gA (by rw [hx3]; exact (mo hl hi Uc Sb).2.1)).length_eq.symm
def ed l day:=kk tok mixed Tryz.func19 [lv ah.cells l,iv day] (fun x=>lv ae.cells x) false (lu l day) (aB l day) (Cy l day) (fun (x:(List ae))=>(∀ a,a∈l→a.report.dT)→x.length≤1200∧∀ s,s∈x→s.dT∧au s=true) (zy l day)
def fS (a:List ae) (b:List ae):Sk (Bool) :=
 .br (((a.length:Nat):Int) != ((b.length:Nat):Int))
 (.fin false)
 (.bt
 (.loop (default:Sum (Bool) (Unit)) (fun i2=>i2≤a.length) (fun i2=>a.length - i2) (0:Nat)
 (fun (i2:Nat)=>⟨[(5,iv (i2:Int))],[]⟩) fun i2 =>
 .lt 0 0 i2 a.length
 (.r 6 (.ak (.p (cM (i2:Int) a.length)) (.p (cM (i2:Int) b.length))) fun _ =>
 .br (!(bZ (ae.cells (a.getD i2 default)) (ae.cells (b.getD i2 default))))
 (.fin (.inl (.inl false)))
 (.nx 5 5 i2 (i2+1)))
 (.fin (.inl (.inr ()))))
 (fun (_:Unit)=>⟨[],[]⟩) fun _ =>
 .fin true)
def gn a b:=(fS a b).val
theorem yl (a:List ae) (b:List ae):(fS a b).bO (fun _=>True):=by
 unfold fS
 exact sH
def rk a b:=kk tok mixed Tryz.func31 [lv ae.cells a,lv ae.cells b] (fun x=>bv x) true (fS a b) (gn a b) (u0 (yl a b))
end
def Tryz.JI:Go.Shelf.Ren:=⟨fun | 5=>71 | 8=>91 | 7=>105 | 19=>136 | 20=>137 | 10=>149 | 11=>150 | 12=>151 | 13=>152 | 14=>153 | 15=>154 | 16=>155 | 17=>156 | 18=>157 | 30=>181 | 31=>174 | 32=>175 | 33=>182 | 34=>183 | 35=>125 | 40=>200 | n=>n,fun | 23=>43 | 25=>3 | 3=>3 | 32=>159 | 22=>43 | 0=>0 | 44=>198 | 46=>200 | 4=>4 | 36=>191 | 35=>190 | 41=>195 | 5=>5 | 9=>9 | 53=>227 | 57=>231 | 63=>252 | 64=>253 | n=>n,fun | n=>n⟩
theorem Tryz.Mj:Go.Proofs.SlLaysM.n5 Tryz.prog Tryz.JI:={
 mixed:=by kernel_rfl
 f5:=⟨Tryz.f71.name,by decide,Tryz.func71.trans (congrArg some (by kernel_rfl))⟩
 f7:=⟨Tryz.f105.name,by decide,Tryz.func105.trans (congrArg some (by kernel_rfl))⟩
 f8:=Tryz.func91.trans (congrArg some (by kernel_rfl))
 f10:=⟨Tryz.f149.name,by decide,Tryz.func149.trans (congrArg some (by kernel_rfl))⟩
 f11:=⟨Tryz.f150.name,by decide,Tryz.func150.trans (congrArg some (by kernel_rfl))⟩
 f12:=⟨Tryz.f151.name,by decide,Tryz.func151.trans (congrArg some (by kernel_rfl))⟩
 f13:=⟨Tryz.f152.name,by decide,Tryz.func152.trans (congrArg some (by kernel_rfl))⟩
 f14:=⟨Tryz.f153.name,by decide,Tryz.func153.trans (congrArg some (by kernel_rfl))⟩
 f15:=⟨Tryz.f154.name,by decide,Tryz.func154.trans (congrArg some (by kernel_rfl))⟩
 f16:=⟨Tryz.f155.name,by decide,Tryz.func155.trans (congrArg some (by kernel_rfl))⟩
 f17:=⟨Tryz.f156.name,by decide,Tryz.func156.trans (congrArg some (by kernel_rfl))⟩
 f18:=⟨Tryz.f157.name,by decide,Tryz.func157.trans (congrArg some (by kernel_rfl))⟩
 f19:=Tryz.func136.trans (congrArg some (by kernel_rfl))
 f20:=Tryz.func137.trans (congrArg some (by kernel_rfl))
 f30:=⟨Tryz.f181.name,by decide,Tryz.func181.trans (congrArg some (by kernel_rfl))⟩
 f31:=Tryz.func174.trans (congrArg some (by kernel_rfl))
 f32:=Tryz.func175.trans (congrArg some (by kernel_rfl))
 f33:=⟨Tryz.f182.name,by decide,Tryz.func182.trans (congrArg some (by kernel_rfl))⟩
 f34:=⟨Tryz.f183.name,by decide,Tryz.func183.trans (congrArg some (by kernel_rfl))⟩
 f35:=⟨Tryz.f125.name,by decide,Tryz.func125.trans (congrArg some (by kernel_rfl))⟩
 f40:=⟨Tryz.f200.name,by decide,Tryz.func200.trans (congrArg some (by kernel_rfl))⟩
 t0:=Tryz.underlying0
 a0:=Tryz.isAgg0
 z0:=Tryz.sizeOf0
 v0:=Tryz.zeroValue0
 t3:=Tryz.underlying3
 a3:=Tryz.isAgg3
 z3:=Tryz.sizeOf3
 v3:=Tryz.zeroValue3
 t4:=Tryz.underlying4
 a4:=Tryz.isAgg4
 z4:=Tryz.sizeOf4
 v4:=Tryz.zeroValue4
 t5:=Tryz.underlying5
 a5:=Tryz.isAgg5
 z5:=Tryz.sizeOf5
 v5:=Tryz.zeroValue5
 t9:=Tryz.underlying9
 a9:=Tryz.isAgg9
 z9:=Tryz.sizeOf9
 v9:=Tryz.zeroValue9
 t22:=Tryz.underlying43
 a22:=Tryz.isAgg43
 z22:=Tryz.sizeOf43
 v22:=Tryz.zeroValue43
 t23:=Tryz.underlying43
 a23:=Tryz.isAgg43
 z23:=Tryz.sizeOf43
 v23:=Tryz.zeroValue43
 t25:=Tryz.underlying3
 a25:=Tryz.isAgg3
 z25:=Tryz.sizeOf3
 v25:=Tryz.zeroValue3
 t32:=Tryz.underlying159
 a32:=Tryz.isAgg159
 z32:=Tryz.sizeOf159
 v32:=Tryz.zeroValue159
 t35:=Tryz.underlying190
 a35:=Tryz.isAgg190
 z35:=Tryz.sizeOf190
 v35:=Tryz.zeroValue190
 t36:=Tryz.underlying191
 a36:=Tryz.isAgg191
 z36:=Tryz.sizeOf191
 v36:=Tryz.zeroValue191
 t41:=Tryz.underlying195
 a41:=Tryz.isAgg195
 z41:=Tryz.sizeOf195
 v41:=Tryz.zeroValue195
 t44:=Tryz.underlying198
 a44:=Tryz.isAgg198
 z44:=Tryz.sizeOf198
 v44:=Tryz.zeroValue198
 t46:=Tryz.underlying200
 a46:=Tryz.isAgg200
 z46:=Tryz.sizeOf200
 v46:=Tryz.zeroValue200
 t53:=Tryz.underlying227
 a53:=Tryz.isAgg227
 z53:=Tryz.sizeOf227
 v53:=Tryz.zeroValue227
 t57:=Tryz.underlying231
 a57:=Tryz.isAgg231
 z57:=Tryz.sizeOf231
 v57:=Tryz.zeroValue231
 t63:=Tryz.underlying252
 a63:=Tryz.isAgg252
 z63:=Tryz.sizeOf252
 v63:=Tryz.zeroValue252
 t64:=Tryz.underlying253
 a64:=Tryz.isAgg253
 z64:=Tryz.sizeOf253
 v64:=Tryz.zeroValue253 }
def GQ (κ:Nat) (x:List Int):GL (List Int) :=
 ⟨Tryz.prog,71,[ow κ x],κ,cm 3 1 cw x,fun y=>cm 3 1 cw y,jo x,x.length < 4611686018427387904,
  fun h=>TV (by kernel_rfl) (fun blk off cap zs w=>AnyM.slices_Sort_int Tryz.Mj blk off cap zs w) (fun p cap w=>AnyM.slices_Sort_int_none Tryz.Mj p cap w) κ 3 x h,
  fun y=>y.length=x.length,by simp [jo]⟩
section
open Go Go.Av
def kH {α:Type}:List α→List Bool→List α
 | x :: b,true :: g=>x :: kH b g
 | _ :: b,false :: g=>kH b g
 | _,_=>[]
theorem H9 {α:Type} [Inhabited α]:∀ (b:List α) (g:List Bool) (i:Nat),g.length=b.length→i < b.length→g.getD i false=false→(kH b (g.set i true)).Perm (kH b g++[b.getD i default])
 | [],_,i,_,h,_=>absurd h (by simp)
 | p :: b,[],i,hl,_,_=>by simp at hl
 | p :: b,x :: g,0,hl,_,hx=>by
  have hx:x=false:=by simpa using hx
  subst hx
  show (p :: kH b g).Perm (kH b g++[p])
  exact (List.perm_append_singleton p (kH b g)).symm
 | p :: b,x :: g,i+1,hl,hi,hx=>by
  have ih:=H9 b g i (by simpa using hl) (by simpa using hi) (by simpa using hx)
  cases x with
  | true =>
   show (p :: kH b (g.set i true)).Perm (p :: (kH b g++[b.getD i default]))
   exact ih.cons _
  | false=>exact ih
theorem wC {α:Type}:∀ (b:List α) (g:List Bool),(kH b g).length≤b.length
 | [],_=>by simp [kH]
 | p :: b,[]=>by simp [kH]
 | p :: b,true :: g=>by have:=wC b g; simp only [kH,List.length_cons]; omega
 | p :: b,false :: g=>by have:=wC b g; simp only [kH,List.length_cons]; omega
theorem A8 {α:Type}:∀ (b:List α),kH b (List.replicate b.length false)=[]
 | []=>rfl
 | p :: b=>A8 b
theorem Ia {α:Type}:∀ (b:List α) (g:List Bool),g.length=b.length→(∀ j,j < b.length→g.getD j false=true)→kH b g=b
 | [],g,_,_=>by simp [kH]
 | p :: b,[],h,_=>by simp at h
 | p :: b,x :: g,h,hj=>by
  have ih:=Ia b g (by simpa using h) (fun j h'=>by have:=hj (j+1) (by simpa using h'); simpa using this)
  have h0:x=true:=by have:=hj 0 (by simp); simpa using this
  subst h0
  show p :: kH b g=p :: b
  rw [ih]
def ym (L:List Int) (y:List Int):Prop:=y.Perm L
abbrev lJ (m:List (Int × Bool)) (g:List Bool):List Int:=(kH m g).map Prod.fst
def A9 (m2:List (Int × Bool)) (g4:List Bool) (i5:Nat):Sk (List Bool) :=
 .Gr <|
 .r 7 (.p (i5 < m2.length)) fun _ =>
 .Ny 100002 (ym (lJ m2 g4)) (vy cw) [] fun y =>
 .wr 100002 (lJ m2 g4).length y.length <|
 .r 8 (.ak (.o [.dU (dw eJ [(m2.getD i5 default).1])]) (.ak (.o [.dU (fo eJ y [(m2.getD i5 default).1])]) (.ak (.t (eJ.jz [(m2.getD i5 default).1])) (.p (jH y.length [(m2.getD i5 default).1].length 8))))) fun _ =>
 .wr 27 (y++[(m2.getD i5 default).1]).length (lJ m2 (g4.set i5 true)).length <|
 .cr 27 (lJ m2 (g4.set i5 true)).length (ym (lJ m2 (g4.set i5 true))) (vy cw) (y++[(m2.getD i5 default).1]) <|
 .fin (g4.set i5 true)
def lx (l:List ah) (day:Int):Sk (List Int) :=
 .br (decide (((l.length:Nat):Int) > 1200))
 (.fin [])
 (.r 3 ((sJ l day).c) fun _ =>
 .Ny 777777 (fp l day) (vy ae.cells) [] fun y1 =>
 .wr 777777 (lr l day) y1.length <|
 .ot 777778 (bH l day) List.length (xr dB) [] fun m2=>let aC:=(List.replicate m2.length false);
 .r 4 .z fun _ =>
 .nr 7 100002 3 1 (vy cw []) <|
 .wr 100002 0 (lJ m2 aC).length <|
 .cr 100002 (lJ m2 aC).length (ym (lJ m2 aC)) (vy cw) [] <|
 .bind true (fun b=>b.length=m2.length∧∀ j,j < m2.length→b.getD j false=true)
 (.mr m2.length (fun s g=>g.length=m2.length∧∀ j,j < m2.length→g.getD j false=decide (j∈s)) aC
 (fun g4 s6=>⟨[(7,.own 100002 (lJ m2 g4).length)],[(100002,.rx 3 1 (lJ m2 g4).length (YO (ym (lJ m2 g4)) (vy cw))),(19,.it 777778 m2.length s6)]⟩)
 (fun g7=>⟨[(7,.own 100002 (lJ m2 g7).length)],[(100002,.rx 3 1 (lJ m2 g7).length (YO (ym (lJ m2 g7)) (vy cw)))]⟩)
 (fun g4 i5=>A9 m2 g4 i5) fun g7 =>
 .Gs <|
 .fin (.inr g7))
 (fun (b3:List Bool)=>⟨[(19,.any),(7,.own 100001 (lJ m2 b3).length)],[(100001,.rx 3 1 (lJ m2 b3).length (YO (ym (lJ m2 b3)) (vy cw)))]⟩) fun b3 =>
 .Ny 100001 (ym (lJ m2 b3)) (vy cw) [] fun z =>
 .wr 100001 (lJ m2 b3).length z.length <|
 .r 9 ((GQ 100001 z).c) fun x8 =>
 .wn 100001 z.length x8.length <|
 .fin x8)
theorem rl {a b:List Int} (h:a.Perm b):jo a=jo b:=by
 have hp:∀ l:List Int,(jo l).Pairwise (fun x y:Int=>x≤y):=fun l=>by
  have:=List.pairwise_mergeSort (le:=fun x y:Int=>decide (x≤y)) (by intro a b c h1 h2; simp only [decide_eq_true_eq] at *; omega) (by intro a b; simp only [Bool.or_eq_true,decide_eq_true_eq]; omega) l
  exact this.imp (by intro x y h; simpa using h)
 refine List.Perm.eq_of_pairwise (fun x y _ _ h1 h2=>by omega) (hp a) (hp b) ?_
 exact ((List.mergeSort_perm a _).trans h).trans (List.mergeSort_perm b _).symm
theorem qx (m:List (Int × Bool)) (g:List Bool) (i:Nat):(A9 m g i).val=g.set i true:=rfl
theorem OK (m:List (Int × Bool)) (g:List Bool) (i:Nat) (L:List Bool→Prop) (hL:L (g.set i true)):(A9 m g i).dj L :=
 fun _ _ _=>⟨⟨_,List.Perm.refl _⟩,fun _ _ _ _ _=>hL⟩
theorem OL (m:List (Int × Bool)) (g:List Bool) (i:Nat) (hb:m.length≤1000000) (hg:g.length=m.length) (hi:i < m.length) (Xh:g.getD i false=false):(A9 m g i).bO fun _=>True:=by
 have hp:=(H9 m g i hg hi Xh).map Prod.fst
 rw [List.map_append] at hp
 have dK:∀ y,ym (lJ m g) y→jH y.length [(m.getD i default).1].length 8:=fun y hy=>by
  have h1:=wC m g
  have h2:=hy.length_eq
  simp only [lJ,List.length_map] at h2
  simp only [jH,maxLen,List.length_cons,List.length_nil]
  omega
 refine ⟨hi,fun _ _ _ y hy=>⟨rfl,hy.length_eq.symm,⟨trivial,trivial,trivial,dK y hy⟩,fun _ _ _=>⟨?_,?_,trivial⟩⟩⟩
 ·exact ((hy.append_right _).trans hp.symm).length_eq
 ·exact (hy.append_right _).trans hp.symm
theorem Mk {m:List (Int × Bool)} {s:List Nat} {g:List Bool} {i:Nat} (hi:i < m.length) (h:g.length=m.length∧∀ j,j < m.length→g.getD j false=decide (j∈s)):(g.set i true).length=m.length∧∀ j,j < m.length→(g.set i true).getD j false=decide (j∈i :: s):=by
 refine ⟨by simp [h.1],fun j hj=>?_⟩
 have h2:=h.2 j hj
 by_cases e:j=i
 ·subst e
  simp [List.getD,h.1,hj]
 ·rw [show (g.set i true).getD j false=g.getD j false by simp [List.getD,List.getElem?_set_ne (fun e'=>e e'.symm)],h2]
  simp [e]
theorem Ml (m:List (Int × Bool)):(List.replicate m.length false).length=m.length∧∀ j,j < m.length→(List.replicate m.length false).getD j false=decide (j∈([]:List Nat)) :=
 ⟨by simp,fun j hj=>by simp [List.getD,hj]⟩
theorem P3 {m:List (Int × Bool)} {g:List Bool} (h:g.length=m.length∧∀ j,j < m.length→g.getD j false=decide (j∈List.range m.length)):g.length=m.length∧∀ j,j < m.length→g.getD j false=true :=
 ⟨h.1,fun j hj=>by rw [h.2 j hj]; simp [hj]⟩
def XJ (m:List (Int × Bool)):List Bool:=(List.range m.length).foldr (fun i g=>(A9 m g i).val) (List.replicate m.length false)
theorem JJ (m:List (Int × Bool)):(XJ m).length=m.length∧∀ j,j < m.length→(XJ m).getD j false=true :=
 P3 (nh (V:=fun s g=>g.length=m.length∧∀ j,j < m.length→g.getD j false=decide (j∈s)) (f:=fun g i=>(A9 m g i).val) (n:=m.length) (fun s g i hg hi hn=>by rw [qx]; exact Mk hi hg) (Ml m) (List.range m.length) List.nodup_range (fun i hi=>List.mem_range.1 hi))
theorem Fb {m:List (Int × Bool)} {g:List Bool} (h:g.length=m.length∧∀ j,j < m.length→g.getD j false=true):lJ m g=m.map Prod.fst:=by
 show (kH m g).map Prod.fst=_
 rw [Ia m g h.1 h.2]
theorem Fc {L:List ae} {m m':List (Int × Bool)} (h:fY L m) (h':fY L m'):(m.map Prod.fst).Perm (m'.map Prod.fst) :=
 (List.perm_ext_iff_of_nodup h.1 h'.1).2 fun r=>(h.2.2 r).trans (h'.2.2 r).symm
theorem OM {Q:List Int}:ym Q (cT (ym Q) []):=fB ⟨Q,List.Perm.refl _⟩
theorem Rj {L:List ae} {m:List (Int × Bool)} (h:fY L m):m.length≤L.length:=by
 have h1:∀ r,r∈m.map Prod.fst→r∈L.map ae.reporter:=fun r hr=>by
  obtain ⟨c,hc⟩:=(h.2.2 r).1 hr
  unfold yJ at hc
  have:0 < L.countP fun x=>x.reporter == r&&x.no == c:=by omega
  obtain ⟨x,hx,Xt⟩:=List.countP_pos_iff.1 this
  simp only [Bool.and_eq_true,beq_iff_eq] at Xt
  exact List.mem_map.2 ⟨x,hx,Xt.1⟩
 have:=List.Nodup.length_le_of_subset h.1 (fun r hr=>h1 r hr)
 simpa using this
theorem Cz (l:List ah) (day:Int):(lx l day).bO (fun _=>True):=by
 unfold lx
 refine ⟨fun _=>trivial,fun hl=>?_⟩
 have hl:l.length≤1200:=by simp only [decide_eq_false_iff_not] at hl; omega
 refine ⟨hl,fun _ _ _ y1 Uc=>⟨rfl,Uc.length_eq.symm,fun m2 Sb=>⟨?_,?_⟩⟩⟩
 ·have KA:fY (aY l day) (cT (bH l day) []):=fB ⟨m2,Sb⟩
  have e:∀ m,fY (aY l day) m→jo (cT (ym (lJ m (XJ m))) [])=jo (m.map Prod.fst):=fun m hm=>by
   refine rl ?_
   have h:=OM (Q:=lJ m (XJ m))
   rw [Fb (JJ m)] at h
   rw [Fb (JJ m)]
   exact h
  show jo (cT (ym (lJ m2 (XJ m2))) [])=jo (cT (ym (lJ (cT (bH l day) []) (XJ (cT (bH l day) [])))) [])
  rw [e _ Sb,e _ KA]
  exact rl (Fc Sb KA)
 ·have aee:m2.length≤1200:=by
   have h1:=Rj Sb
   have h2:=rh l day
   omega
  refine ⟨trivial,fun _ _ _=>⟨by show 0=((kH m2 (List.replicate m2.length false)).map Prod.fst).length; rw [A8]; rfl,?_,⟨⟨Ml m2,fun s g i hV hi hn=>⟨OK m2 g i _ (Mk hi hV),?_⟩,fun s g i j hV hi hj gN Xc hnj=>?_,fun g hg hV=>P3 hV⟩,fun b3 _ uI z hz=>⟨?_,hz.length_eq.symm,?_,fun x8 hx8 hp8=>⟨hp8.symm,trivial⟩⟩⟩⟩⟩
  ·show ([]:List Int).Perm ((kH m2 (List.replicate m2.length false)).map Prod.fst)
   rw [A8]
   exact List.Perm.refl _
  ·refine OL m2 g i (by omega) hV.1 hi ?_
   rw [hV.2 i hi]
   simpa using hn
  ·rw [qx,qx,qx,qx]
   exact List.set_comm _ _ (fun e=>gN e.symm)
  ·show jo z=jo (cT (ym (lJ m2 b3)) [])
   exact rl (hz.trans (OM (Q:=lJ m2 b3)).symm)
  ·show z.length < _
   have:=hz.length_eq
   have h2:=wC m2 b3
   simp only [lJ,List.length_map] at this
   omega
def bJ l day:=(lx l day).val
theorem CA (l:List ah) (day:Int):kE Tryz.prog 29 [lv ah.cells l,iv day] [] (lv cw (bJ l day)) [] :=
 kE.sk tok mixed (fun x=>lv cw x) (fun x=>[]) Tryz.func29 rfl (by kernel_rfl) 3000 (lx l day) (by kernel_rfl) (Cz l day)
theorem OO {L:List ae} {m:List (Int × Bool)} (h:fY L m):∀ r,r∈jo (m.map Prod.fst)↔∃ c,2≤yJ L r c:=fun r=>by
 rw [(show (jo (m.map Prod.fst)).Perm (m.map Prod.fst) from List.mergeSort_perm _ _).mem_iff]
 exact h.2.2 r
theorem oY {l:List ah} {day:Int} (hl:l.length≤1200) {m:List (Int × Bool)} (hm:fY (aY l day) m):bJ l day=jo (m.map Prod.fst):=by
 have hd:decide (((l.length:Nat):Int) > 1200)=false:=by rw [decide_eq_false_iff_not]; omega
 have KA:fY (aY l day) (cT (bH l day) []):=fB ⟨m,hm⟩
 have e0:bJ l day=bif decide (((l.length:Nat):Int) > 1200) then [] else jo (cT (ym (lJ (cT (bH l day) []) (XJ (cT (bH l day) [])))) []):=rfl
 rw [e0,hd]
 refine rl ?_
 have h:=OM (Q:=lJ (cT (bH l day) []) (XJ (cT (bH l day) [])))
 refine h.trans ?_
 rw [Fb (JJ _)]
 exact Fc KA hm
def qy (l:List ah) (day:Int):iM (List Int):=⟨Tryz.prog,29,[lv ah.cells l,iv day],fun x=>lv cw x,false,bJ l day,True,fun _=>CA l day,fun _=>True,trivial⟩
end
section
open Go Go.Av
def oI (a:List Int) (b:List Int):Sk (Bool) :=
 .br (((a.length:Nat):Int) != ((b.length:Nat):Int))
 (.fin false)
 (.bt
 (.loop (default:Sum (Bool) (Unit)) (fun i2=>i2≤a.length) (fun i2=>a.length - i2) (0:Nat)
 (fun (i2:Nat)=>⟨[(5,iv (i2:Int))],[]⟩) fun i2 =>
 .lt 0 0 i2 a.length
 (.r 6 (.ak (.p (cM (i2:Int) a.length)) (.p (cM (i2:Int) b.length))) fun _ =>
 .br ((a.getD i2 default) != (b.getD i2 default))
 (.fin (.inl (.inl false)))
 (.nx 5 5 i2 (i2+1)))
 (.fin (.inl (.inr ()))))
 (fun (_:Unit)=>⟨[],[]⟩) fun _ =>
 .fin true)
def sP a b:=(oI a b).val
theorem zA (a:List Int) (b:List Int):(oI a b).dj (fun (x:Bool)=>a=b→x=true):=by
 unfold oI
 exact U7
theorem GR (a:List Int) (b:List Int):(fun (x:Bool)=>a=b→x=true) (sP a b):=have h:=Sk.cN _ (zA a b); h
theorem Mm (a:List Int) (b:List Int):(oI a b).bO (fun _=>True):=by
 unfold oI
 exact sH
def Fe a b:=kp tok mixed Tryz.func28 [lv cw a,lv cw b] (fun x=>bv x) true (sP a b) (u0 (Mm a b)) (zA a b)
def iH (a:ae) (b:ae):Sk (Bool) :=
 .r 1 (.dep ((dA a).c) fun x1=>.wh x1 true ((dA b).c)) fun p3 =>
 .fin ((((p3.1&&p3.2)&&(a.reporter == b.reporter))&&(a.no == b.no))&&(!(bZ (ae.cells a) (ae.cells b))))
def de a b:=(iH a b).val
theorem yn (a:ae) (b:ae):(iH a b).bO (fun _=>True):=by
 unfold iH
 try simp only [dA]
 exact DB
def mq a b:=kk tok mixed Tryz.func25 [av a.cells,av b.cells] (fun x=>bv x) true (iH a b) (de a b) (u0 (yn a b))
theorem Ud (r n k:Int) (hr:aK r) (hn:aK n) (hk:aK k):(ay r n k).dT:=by
 rw [L0]
 simp [ae.dT,ae.cells,Body.cells,dV.cells,fc.cells,Sign.cells,cd.cells,bB.cells,Fact.cells,oX,hr,hn,hk,aK]
theorem lX (r n k:Int) (h:(decide (-1000≤r)&&decide (r≤1000)&&decide (-1000≤n)&&decide (n≤1000)&&decide (-1000≤k)&&decide (k≤1000))=true):(ay r n k).dT:=by
 simp only [Bool.and_eq_true,decide_eq_true_eq] at h
 exact Ud r n k ⟨by omega,by omega⟩ ⟨by omega,by omega⟩ ⟨by omega,by omega⟩
theorem wD:bg (ay 0 1 1)=⟨#[57,59,48,59,49,59,53,59,52,59,51,59,48,59,48,59,49,59,49,59]⟩:=by
 rw [uh rfl]
 unfold fH
 have e:iU (jJ (ay 0 1 1))=[57,59,48,59,49,59,53,59,52,59,51,59,48,59,48,59,49,59,49,59]:=by
  show iU [0,1,5,4,3,0,0,1,1]=_
  simp [iU,dC,Lib.itoa,Lib.decDigits]
 rw [e]
abbrev sL:List ah:=[qm 0 5 (ay 0 1 1),qm 2 9 (ay 0 1 1),qm 1 6 (ay 1 1 1),qm 1 7 (ay 1 1 1),qm 0 5 (ay 2 1 1),qm 1 10 (ay 2 1 1)]
abbrev sT:List ah:=[qm 0 5 (ay 0 1 1),qm 1 5 (ay 0 1 1),qm 0 5 (ay 0 1 0),qm 1 5 (ay 0 1 0)]
theorem Ba:∀ a,a∈sL→a.report.dT:=by
 intro a ha
 simp only [sL,List.mem_cons,List.not_mem_nil,or_false] at ha
 rcases ha with rfl | rfl | rfl | rfl | rfl | rfl <;> exact lX _ _ _ rfl
theorem Ue:∀ a,a∈sT→a.report.dT:=by
 intro a ha
 simp only [sT,List.mem_cons,List.not_mem_nil,or_false] at ha
 rcases ha with rfl | rfl | rfl | rfl <;> exact lX _ _ _ rfl
def oJ:Sk (Bool):=let dm:=((ud 0 1 0).c);
 .r 1 ((ud 0 1 1).c) fun x1=>let lU:=((mh 0 5 x1).c); let eX:=((kU x1).c);
 .r 2 ((ud 1 1 1).c) fun x2 =>
 .r 3 ((ud 2 1 1).c) fun x3 =>
 .r 4 (.dep lU fun x4=>.dep ((mh 2 9 x1).c) fun x5=>.dep ((mh 1 6 x2).c) fun x6=>.dep ((mh 1 7 x2).c) fun x7=>.dep ((mh 0 5 x3).c) fun x8=>.sE ((mh 1 10 x3).c) fun x9=>.o [.dU (dw ah.E [x4,x5,x6,x7,x8,x9])]) fun CB =>
 .r 5 (.dep lU fun OP=>.dep ((mh 1 5 x1).c) fun JK=>.dep dm fun Wn=>.dep ((mh 0 5 Wn).c) fun Ze=>.dep dm fun x14=>.sE ((mh 1 5 x14).c) fun yo=>.o [.dU (dw ah.E [OP,JK,Ze,yo])]) fun Wo =>
 .r 6 (.dep eX fun Mn=>(rT Mn).c) fun Wp =>
 .r 7 (.dep eX fun P4=>.ak (.p (((P4.size+(⟨#[48,59]⟩:ByteArray).size:Nat):Int)≤IntKind.i64.max)) ((rT (P4++(⟨#[48,59]⟩:ByteArray))).c)) fun Vb =>
 .fz 27 <|
 .r 8 (.dep ((ed [CB.1,CB.2.1,CB.2.2.1,CB.2.2.2.1,CB.2.2.2.2.1,CB.2.2.2.2.2] 9).c) fun x20=>.ak (.o [.dU (dw ae.E [x1])]) (.dep ((rk x20 [x1]).c) fun x21=>.dep (.wh x21 true ((ed [CB.1,CB.2.1,CB.2.2.1,CB.2.2.2.1,CB.2.2.2.2.1,CB.2.2.2.2.2] 10).c)) fun zB=>.wh (x21&&(((zB.length:Nat):Int) == 2)) true ((ed [CB.1,CB.2.1,CB.2.2.1,CB.2.2.2.1,CB.2.2.2.2.1,CB.2.2.2.2.2] 8).c))) fun p35 =>
 .fz 36 <|
 .r 9 (.dep ((ed [Wo.1,Wo.2.1,Wo.2.2.2.1,Wo.2.2.2.2.2] 9).c) fun x24=>let bF:=(((x24.length:Nat):Int) == 0); .dep (.wh bF true ((qy [Wo.1,Wo.2.1,Wo.2.2.2.1,Wo.2.2.2.2.2] 9).c)) fun Wq=>.ak (.wh bF true (.o [.dU (dw eJ [0])])) (.dep (.wh bF true ((Fe Wq [0]).c)) fun x26=>.wh (bF&&x26) true ((qy [CB.1,CB.2.1,CB.2.2.1,CB.2.2.2.1,CB.2.2.2.2.1,CB.2.2.2.2.2] 9).c))) fun p34=>let aC:=((((((p35.2.1&&(((p35.2.2.1.length:Nat):Int) == 2))&&(((p35.2.2.2.length:Nat):Int) == 0))&&(((((p34.1.length:Nat):Int) == 0)&&p34.2.2.1)&&(((p34.2.2.2.length:Nat):Int) == 0)))&&Wp.2.2)&&(bZ (ae.cells Wp.2.1) (ae.cells x1)))&&(!Vb.2.2));
 .r 10 (.dep (.wh aC true ((dA x1).c)) fun x28=>.dep (.wh (aC&&x28) true eX) fun x29=>.dep (.wh ((aC&&x28)&&(x29.toList == (⟨#[57,59,48,59,49,59,53,59,52,59,51,59,48,59,48,59,49,59,49,59]⟩:ByteArray).toList)) true dm) fun x30=>.dep (.wh ((aC&&x28)&&(x29.toList == (⟨#[57,59,48,59,49,59,53,59,52,59,51,59,48,59,48,59,49,59,49,59]⟩:ByteArray).toList)) true ((mq x1 x30).c)) fun x31=>.wh (((aC&&x28)&&(x29.toList == (⟨#[57,59,48,59,49,59,53,59,52,59,51,59,48,59,48,59,49,59,49,59]⟩:ByteArray).toList))&&x31) true ((mq x1 x2).c)) fun p33 =>
 .fin ((((aC&&p33.1)&&(p33.2.1.toList == (⟨#[57,59,48,59,49,59,53,59,52,59,51,59,48,59,48,59,49,59,49,59]⟩:ByteArray).toList))&&p33.2.2.2.1)&&(!p33.2.2.2.2))
def vG:Bool:=(oJ).val
theorem Mo:(oJ).bO (fun _=>True):=by
 have hA:(ay 0 1 1).dT:=lX _ _ _ rfl
 have hZ:(ay 0 1 0).dT:=lX _ _ _ rfl
 unfold oJ
 refine ⟨trivial,fun x1 h1 _=>⟨trivial,fun x2 h2 _=>⟨trivial,fun x3 h3 _=>⟨?_,fun CB h39 _=>⟨?_,fun Wo h38 _=>⟨?_,fun Wp h37 _=>⟨?_,fun Vb h36 _=>⟨?_,fun p35 h35 _=>⟨?_,fun p34 h34 _=>⟨?_,fun p33 h33 _=>trivial⟩⟩⟩⟩⟩⟩⟩⟩⟩⟩
 ·exact ⟨trivial,fun _ _ _=>⟨trivial,fun _ _ _=>⟨trivial,fun _ _ _=>⟨trivial,fun _ _ _=>⟨trivial,fun _ _ _=>⟨trivial,fun _ _ _=>trivial⟩⟩⟩⟩⟩⟩
 ·exact ⟨trivial,fun _ _ _=>⟨trivial,fun _ _ _=>⟨trivial,fun _ _ _=>⟨trivial,fun _ _ _=>⟨trivial,fun _ _ _=>⟨trivial,fun _ _ _=>trivial⟩⟩⟩⟩⟩⟩
 ·have h1:x1=ay 0 1 1:=h1
  subst h1
  refine ⟨hA,fun x hx _=>?_⟩
  have hx:x=bg (ay 0 1 1):=hx
  rw [hx,wD]
  show (20:Nat)≤1000000
  decide
 ·have h1:x1=ay 0 1 1:=h1
  subst h1
  refine ⟨hA,fun x hx _=>?_⟩
  have hx:x=bg (ay 0 1 1):=hx
  rw [hx,wD]
  exact ⟨(by decide:((20+2:Nat):Int)≤IntKind.i64.max),(by decide:(22:Nat)≤1000000)⟩
 ·have h1:x1=ay 0 1 1:=h1
  have h2:x2=ay 1 1 1:=h2
  have h3:x3=ay 2 1 1:=h3
  subst h1; subst h2; subst h3; subst h39
  exact ⟨Ba,fun _ _ _=>⟨trivial,trivial,fun _ _ _=>⟨fun _=>Ba,fun _ _ _=>fun _=>Ba⟩⟩⟩
 ·have h1:x1=ay 0 1 1:=h1
  have h2:x2=ay 1 1 1:=h2
  have h3:x3=ay 2 1 1:=h3
  subst h1; subst h2; subst h3; subst h39; subst h38
  exact ⟨Ue,fun _ _ _=>⟨fun _=>trivial,fun _ _ _=>⟨fun _=>trivial,fun _=>trivial,fun _ _ _=>fun _=>trivial⟩⟩⟩
 ·have h1:x1=ay 0 1 1:=h1
  subst h1
  exact ⟨fun _=>trivial,fun _ _ _=>⟨fun _=>hA,fun _ _ _=>⟨fun _=>trivial,fun _ _ _=>⟨fun _=>trivial,fun _ _ _=>fun _=>trivial⟩⟩⟩⟩
def OQ:iM (Bool):=kk tok mixed Tryz.func8 [] (fun x=>bv x) true (oJ) (vG) (fun (_:True)=>Mo)
def uj (l:List ah):Sk (Bool) :=
 .fin (decide (((l.length:Nat):Int)≤120))
def DC l:=(uj l).val
theorem Ff (l:List ah):DC l=(decide (((l.length:Nat):Int)≤120)):=rfl
theorem OS (l:List ah):(uj l).bO (fun _=>True):=by
 unfold uj
 exact DB
def Rk l:=kk tok mixed Tryz.func20 [lv ah.cells l] (fun x=>bv x) true (uj l) (DC l) (u0 (OS l))
def qz (r:ai):Sk (Bool):=let yH:=((r.aG.length:Nat):Int); let yI:=((r.aL.length:Nat):Int);
 .bt
 (.loop (default:Sum (Bool) (Unit)) (fun i2=>i2≤r.aL.length) (fun i2=>r.aL.length - i2) (0:Nat)
 (fun (i2:Nat)=>⟨[(3,iv (i2:Int))],[]⟩) fun i2=>let uW:=(i2:Int); let lU:=(r.aL.getD i2 default); let eX:=(decide ((((lU.cK).length:Nat):Int) > 70)); let bF:=(cM uW r.aL.length); let aC:=(eX||(decide ((((lU.shut).length:Nat):Int) > 210)));
 .DJ 1 1 r.aL.length <|
 .br ((decide (uW < yI))&&(decide (uW < 50)))
 (.r 4 (.ak (.p bF) (.ak (.wh eX false (.p bF)) (.wh aC false (.p bF)))) fun _ =>
 .br (aC||(decide ((((lU.rest).length:Nat):Int) > 8)))
 (.fin (.inl (.inl false)))
 (.nx 3 3 i2 (i2+1)))
 (.fin (.inl (.inr ()))))
 (fun (_:Unit)=>⟨[],[]⟩) fun _ =>
 .bind true (fun b3=>∀ k,k < r.aG.length→k < 50→(r.aG.getD k default).aN.length≤40∧(r.aG.getD k default).rules.length≤40)
 (.loop (default:Sum (Bool) (Unit)) (fun i4=>(∀ k,k < i4→(r.aG.getD k default).aN.length≤40∧(r.aG.getD k default).rules.length≤40)∧i4≤r.aG.length) (fun i4=>r.aG.length - i4) (0:Nat)
 (fun (i4:Nat)=>⟨[(4,iv (i4:Int))],[]⟩) fun i4=>let l8:=(i4:Int); let dm:=(decide (((((r.aG.getD i4 default).aN).length:Nat):Int) > 40));
 .DJ 1 4 r.aG.length <|
 .br ((decide (l8 < yH))&&(decide (l8 < 50)))
 (.r 9 (.ak (.p (cM l8 r.aG.length)) (.wh dm false (.p (cM l8 r.aG.length)))) fun _ =>
 .br (dm||(decide (((((r.aG.getD i4 default).rules).length:Nat):Int) > 40)))
 (.fin (.inl (.inl false)))
 (.nx 8 4 i4 (i4+1)))
 (.fin (.inl (.inr ()))))
 (fun (_:Unit)=>⟨[],[]⟩) fun _ =>
 .fin ((((((((decide (((r.aM.length:Nat):Int) < 50))&&(decide (yI < 50)))&&(decide (((r.ch.length:Nat):Int) < 50)))&&(decide (((r.aQ.length:Nat):Int) < 210)))&&(decide (yH < 50)))&&(decide (((r.aI.length:Nat):Int) < 110)))&&(decide (((r.dL.length:Nat):Int) < 110)))&&(decide (((r.e9.length:Nat):Int) < 50)))
def DD r:=(qz r).val
theorem B1 (r:ai):(qz r).dj (fun (x:Bool)=>x=true→r.Small):=by
 unfold qz
 try simp only [aA.Small,ai.Small]
 exact U7
theorem JL (r:ai):(fun (x:Bool)=>x=true→r.Small) (DD r):=have h:=Sk.cN _ (B1 r); h
theorem OT (r:ai):(qz r).bO (fun _=>True):=by
 unfold qz
 try simp only [aA.Small,ai.Small]
 exact sH
def Rl r:=kp tok mixed Tryz.func13 [av r.cells] (fun x=>bv x) true (DD r) (u0 (OT r)) (B1 r)
def nQ (c_:Int):Sk (Bool) :=
 .fin (((decide ((97:Int)≤c_))&&(decide (c_≤122)))||((decide ((65:Int)≤c_))&&(decide (c_≤90))))
def uk c_:=(nQ c_).val
theorem GS (c_:Int):uk c_=(((decide ((97:Int)≤c_))&&(decide (c_≤122)))||((decide ((65:Int)≤c_))&&(decide (c_≤90)))):=rfl
theorem GU (c_:Int):(nQ c_).bO (fun _=>True):=by
 unfold nQ
 exact DB
def zC c_:=kk tok mixed Tryz.func178 [.d (.v (.int .u8 c_))] (fun x=>bv x) true (nQ c_) (uk c_) (u0 (GU c_))
def rp (s:ByteArray):Sk (Bool):=let dm:=((s.size:Nat):Int);
 .br ((decide (dm < 1))||(decide (dm > 20)))
 (.fin false)
 (.bt
 (.loop (default:Sum (Bool) (Unit)) (fun i2=>i2≤s.size) (fun i2=>s.size - i2) (0:Nat)
 (fun (i2:Nat)=>⟨[(3,iv (i2:Int))],[]⟩) fun i2=>let bF:=(i2:Int); let aC:=((s.data.toList.getD i2 0).toNat:Int); let eX:=(decide ((48:Int)≤aC));
 .br (decide (bF < dm))
 (.r 6 (.ak (.p (0≤bF∧bF < dm)) (.ak (.wh (aC == 95) false (.p (0≤bF∧bF < dm))) (.wh (aC == 95) false (.wh eX true (.p (0≤bF∧bF < dm)))))) fun _ =>
 .r 7 (.ak (.p (0≤bF∧bF < dm)) ((zC aC).c)) fun x3 =>
 .br ((!x3)&&((bF == 0)||(!((aC == 95)||(eX&&(decide (aC≤57)))))))
 (.fin (.inl (.inl false)))
 (.nx 5 3 i2 (i2+1)))
 (.fin (.inl (.inr ()))))
 (fun (_:Unit)=>⟨[],[]⟩) fun _ =>
 .fin true)
def qA s:=(rp s).val
theorem Mp (s:ByteArray):(rp s).bO (fun _=>True):=by
 unfold rp
 try simp only [zC,GS]
 exact AQ
def Fg s:=kk tok mixed Tryz.func139 [sv s] (fun x=>bv x) true (rp s) (qA s) (u0 (Mp s))
def nR (l:List ByteArray) (n:Int) (s:ByteArray):Sk (Bool) :=
 .bt
 (.loop (default:Sum (Bool) (Unit)) (fun i2=>i2≤l.length) (fun i2=>l.length - i2) (0:Nat)
 (fun (i2:Nat)=>⟨[(7,iv (i2:Int))],[]⟩) fun i2=>let aC:=(i2:Int);
 .DJ 0 0 l.length <|
 .br ((decide (aC < n))&&(decide (aC < ((l.length:Nat):Int))))
 (.r 4 (.p (cM aC l.length)) fun _ =>
 .br ((l.getD i2 default).toList == s.toList)
 (.fin (.inl (.inl true)))
 (.nx 3 7 i2 (i2+1)))
 (.fin (.inl (.inr ()))))
 (fun (_:Unit)=>⟨[],[]⟩) fun _ =>
 .fin false
def qB l n s:=(nR l n s).val
theorem GV (l:List ByteArray) (n:Int) (s:ByteArray):(nR l n s).bO (fun _=>True):=by
 unfold nR
 exact sH
def zD l n s:=kk tok mixed Tryz.func140 [lv fZ l,iv n,sv s] (fun x=>bv x) true (nR l n s) (qB l n s) (u0 (GV l n s))
def pH (l:List ByteArray) (i:Int):Sk (Int) :=
 .r 1 (.ak (.p (cM i l.length)) ((Fg (l.getD i.toNat default)).c)) fun x1 =>
 .br (!x1)
 (.fin 2)
 (.r 3 (.ak (.p (cM i l.length)) ((zD l i (l.getD i.toNat default)).c)) fun x2 =>
 .br x2
 (.fin 5)
 (.fin 0))
def ei l i:=(pH l i).val
theorem JM (l:List ByteArray) (i:Int) (hi:0≤i∧i < (l.length:Int)):(pH l i).bO (fun _=>True):=by
 unfold pH
 try simp only [zD,Fg]
 exact sH
def fC l i:=kk tok mixed Tryz.func93 [lv fZ l,iv i] (fun x=>iv x) true (pH l i) (ei l i) (JM l i)
def nS (n:Int) (low:Int) (high:Int):Sk (Bool) :=
 .fin ((decide (low≤n))&&(decide (n≤high)))
def ba n low high:=(nS n low high).val
theorem bu (n:Int) (low:Int) (high:Int):ba n low high=((decide (low≤n))&&(decide (n≤high))):=rfl
theorem GW (n:Int) (low:Int) (high:Int):(nS n low high).bO (fun _=>True):=by
 unfold nS
 exact DB
def aj n low high:=kk tok mixed Tryz.func95 [iv n,iv low,iv high] (fun x=>bv x) true (nS n low high) (ba n low high) (u0 (GW n low high))
def nT (l:List Int) (low:Int) (high:Int):Sk (Bool) :=
 .bt
 (.loop (default:Sum (Bool) (Unit)) (fun i2=>i2≤l.length) (fun i2=>l.length - i2) (0:Nat)
 (fun (i2:Nat)=>⟨[(7,iv (i2:Int))],[]⟩) fun i2=>let aC:=(i2:Int); let bF:=(decide (aC > 0));
 .lt 0 0 i2 l.length
 (.r 4 (.ak (.p (cM aC l.length)) ((aj (l.getD i2 default) low high).c)) fun x3 =>
 .br (!x3)
 (.fin (.inl (.inl false)))
 (.r 6 (.ak (.wh bF true (.p (cM (bI (aC - 1)) l.length))) (.wh bF true (.p (cM aC l.length)))) fun _ =>
 .br (bF&&(decide ((l.getD ((bI (aC - 1)).toNat) default)≥(l.getD i2 default))))
 (.fin (.inl (.inl false)))
 (.nx 3 7 i2 (i2+1))))
 (.fin (.inl (.inr ()))))
 (fun (_:Unit)=>⟨[],[]⟩) fun _ =>
 .fin true
def nw l low high:=(nT l low high).val
theorem GX (l:List Int) (low:Int) (high:Int):(nT l low high).bO (fun _=>True):=by
 unfold nT
 try simp only [aj,bu]
 exact AQ
def pI l low high:=kk tok mixed Tryz.func141 [lv cw l,iv low,iv high] (fun x=>bv x) true (nT l low high) (nw l low high) (u0 (GX l low high))
def kg (r:ai) (c_:nj):Sk (Bool) :=
 .r 1 (.dep ((aj c_.order 0 (bI (((r.aG.length:Nat):Int) - 1))).c) fun x1=>.wh (!x1) false ((aj c_.bh 0 (bI (((r.aM.length:Nat):Int) - 1))).c)) fun Cw =>
 .br ((((!Cw.1)||(!Cw.2))||(decide (((c_.cK.length:Nat):Int) > 60)))||(decide (((c_.shut.length:Nat):Int) > 200)))
 (.fin false)
 (.bt
 (.loop (default:Sum (Bool) (Unit)) (fun i4=>i4≤c_.cK.length) (fun i4=>c_.cK.length - i4) (0:Nat)
 (fun (i4:Nat)=>⟨[(5,iv (i4:Int))],[]⟩) fun i4=>let bF:=(c_.cK.getD i4 default); let aC:=(cM (i4:Int) c_.cK.length);
 .lt 3 4 i4 c_.cK.length
 (.r 6 (.ak (.p aC) (.ak (.p ((100:Int)≠0)) (.dep ((aj (bI (bF.tdiv 100)) 1 12).c) fun x5=>.ak (.wh (!x5) false (.p aC)) (.ak (.wh (!x5) false (.p ((100:Int)≠0))) (.wh (!x5) false ((aj (bF.tmod 100) 1 31).c)))))) fun p7 =>
 .br ((!p7.1)||(!p7.2))
 (.fin (.inl (.inl false)))
 (.nx 5 5 i4 (i4+1)))
 (.fin (.inl (.inr ()))))
 (fun (_:Unit)=>⟨[],[]⟩) fun _ =>
 .r 8 (.dep ((pI c_.rest 0 6).c) fun x8=>.dep (.wh x8 true ((pI c_.cK 0 2000).c)) fun x9=>.wh (x8&&x9) true ((pI c_.shut 0 100000).c)) fun Gt =>
 .fin ((Gt.1&&Gt.2.1)&&Gt.2.2))
def kV r c_:=(kg r c_).val
theorem Bb (r:ai) (c_:nj):(kg r c_).bO (fun _=>True):=by
 unfold kg
 try simp only [pI,aj,bu]
 exact AQ
def oZ r c_:=kk tok mixed Tryz.func94 [av r.cells,av c_.cells] (fun x=>bv x) true (kg r c_) (kV r c_) (u0 (Bb r c_))
def kW (r:ai):Sk (Int) :=
 .br (decide (((r.aM.length:Nat):Int) > 8))
 (.fin 6)
 (.bt
 (.loop (default:Sum (Int) (Unit)) (fun i2=>i2≤r.aM.length) (fun i2=>r.aM.length - i2) (0:Nat)
 (fun (i2:Nat)=>⟨[(3,iv (i2:Int))],[]⟩) fun i2 =>
 .lt 1 0 i2 r.aM.length
 (.r 6 ((fC r.aM (i2:Int)).c) fun x3 =>
 .br (x3 != 0)
 (.fin (.inl (.inl x3)))
 (.nx 5 3 i2 (i2+1)))
 (.fin (.inl (.inr ()))))
 (fun (_:Unit)=>⟨[],[]⟩) fun _ =>
 .br (decide (((r.aL.length:Nat):Int) > 40))
 (.fin 6)
 (.bt
 (.loop (default:Sum (Int) (Unit)) (fun i5=>i5.1.length=i5.2∧i5.2≤r.aL.length) (fun i5=>r.aL.length - i5.2) (([],0):(List ByteArray) × Nat)
 (fun (i5:(List ByteArray) × Nat)=>⟨[(5,ow 100001 i5.1),(6,iv (i5.2:Int))],[(100001,cm 9 1 fZ i5.1)]⟩) fun i5=>let bF:=(cM (i5.2:Int) r.aL.length); let aC:=(r.aL.getD i5.2 default);
 .lt 1 1 i5.2 r.aL.length
 (.r 15 (.ak (.p bF) (.ak (.o [.dU (dw sD [aC.name])]) (.ak (.o [.dU (fo sD i5.1 [aC.name])]) (.ak (.t (sD.jz [aC.name])) (.p (jH i5.1.length [aC.name].length 16)))))) fun _ =>
 .r 16 ((fC (i5.1++[aC.name]) (i5.2:Int)).c) fun x6 =>
 .br (x6 != 0)
 (.fin (.inl (.inl x6)))
 (.r 19 (.ak (.p bF) ((oZ r aC).c)) fun x7 =>
 .br (!x7)
 (.fin (.inl (.inl 1)))
 (.nx 14 6 i5.2 (i5.1++[aC.name],i5.2+1))))
 (.fin (.inl (.inr ()))))
 (fun (_:Unit)=>⟨[],[]⟩) fun _ =>
 .fin 0))
def qC r:=(kW r).val
theorem Fh (r:ai):(kW r).dj (fun (x:Int)=>x=0→r.aM.length≤8∧r.aL.length≤40):=by
 unfold kW
 try simp only [oZ,fC]
 exact U7
theorem GY (r:ai):(kW r).bO (fun _=>True):=by
 unfold kW
 try simp only [oZ,fC]
 exact sH
def um r:=kp tok mixed Tryz.func58 [av r.cells] (fun x=>iv x) true (qC r) (u0 (GY r)) (Fh r)
def kh (r:ai):Sk (Int):=let dm:=((r.ch.length:Nat):Int);
 .br (decide (dm > 20))
 (.fin 6)
 (.bt
 (.loop (default:Sum (Int) (Unit)) (fun i2=>i2≤r.ch.length) (fun i2=>r.ch.length - i2) (0:Nat)
 (fun (i2:Nat)=>⟨[(3,iv (i2:Int))],[]⟩) fun i2 =>
 .lt 1 2 i2 r.ch.length
 (.r 6 (.ak (.p (cM (i2:Int) r.ch.length)) ((aj ((r.ch.getD i2 default).BW) 0 9).c)) fun x3 =>
 .br (!x3)
 (.fin (.inl (.inl 1)))
 (.nx 5 3 i2 (i2+1)))
 (.fin (.inl (.inr ()))))
 (fun (_:Unit)=>⟨[],[]⟩) fun _ =>
 .br (decide (((r.aQ.length:Nat):Int) > 200))
 (.fin 6)
 (.bind true (fun b4=>r.aL.length≤40→r.oW)
 (.loop (default:Sum (Int) (Unit)) (fun i5=>i5.1.length=i5.2∧i5.2≤r.aQ.length∧(r.aL.length≤40→∀ q,q < i5.2→0≤(r.aQ.getD q default).bn∧(r.aQ.getD q default).bn < (r.aL.length:Int))) (fun i5=>r.aQ.length - i5.2) (([],0):(List ByteArray) × Nat)
 (fun (i5:(List ByteArray) × Nat)=>⟨[(4,ow 100001 i5.1),(5,iv (i5.2:Int))],[(100001,cm 9 1 fZ i5.1)]⟩) fun i5=>let bF:=(cM (i5.2:Int) r.aQ.length); let aC:=(r.aQ.getD i5.2 default);
 .lt 1 3 i5.2 r.aQ.length
 (.r 14 (.ak (.p bF) (.ak (.o [.dU (dw sD [aC.name])]) (.ak (.o [.dU (fo sD i5.1 [aC.name])]) (.ak (.t (sD.jz [aC.name])) (.p (jH i5.1.length [aC.name].length 16)))))) fun _ =>
 .r 15 ((fC (i5.1++[aC.name]) (i5.2:Int)).c) fun x6 =>
 .br (x6 != 0)
 (.fin (.inl (.inl x6)))
 (.r 18 (.ak (.p bF) (.dep ((aj (aC.bn) 0 (bI (((r.aL.length:Nat):Int) - 1))).c) fun x7=>.ak (.wh (!x7) false (.p bF)) (.wh (!x7) false ((aj (aC.group) 0 (bI (dm - 1))).c)))) fun p9 =>
 .br ((!p9.1)||(!p9.2))
 (.fin (.inl (.inl 1)))
 (.nx 13 5 i5.2 (i5.1++[aC.name],i5.2+1))))
 (.fin (.inl (.inr ()))))
 (fun (_:Unit)=>⟨[],[]⟩) fun _ =>
 .fin 0))
def sQ r:=(kh r).val
theorem GZ (r:ai) (hP:r.aL.length≤40):(kh r).dj (fun (x:Int)=>x=0→r.ch.length≤20∧r.aQ.length≤200∧r.oW):=by
 refine Sk.bM _ ?_
 unfold kh
 simp only [Sk.eO,Sk.db,reduceCtorEq,ON,kk,kp,aj,fC,bu,forall_eq,ai.oW,maxLen]
 all_goals exact abl
theorem Fi (r:ai):(fun (x:Int)=>(r.aL.length≤40)→(x=0→r.ch.length≤20∧r.aQ.length≤200∧r.oW)) (sQ r):=fun hP=>have h:=Sk.cN _ (GZ r hP); h
theorem JN (r:ai):(kh r).bO (fun _=>True):=by
 refine Sk.bP _ ?_
 unfold kh
 simp only [Sk.oV,Sk.db,reduceCtorEq,ON,kk,kp,aj,fC,bu,forall_eq,ai.oW,maxLen]
 all_goals exact abl
def vH r:=kk tok mixed Tryz.func59 [av r.cells] (fun x=>iv x) true (kh r) (sQ r) (u0 (JN r)) (fun (x:Int)=>(r.aL.length≤40)→(x=0→r.ch.length≤20∧r.aQ.length≤200∧r.oW)) (Fi r)
def gB (o:Order):Sk (Bool) :=
 .bind true (fun b1=>∀ j:Nat,j < o.aN.length→((j:Int)≤(o.aN.getD j default).ask∧(o.aN.getD j default).ask≤21)∧0≤(o.aN.getD j default).H2∧(o.aN.getD j default).H2 < 5)
 (.loop (default:Sum (Bool) (Unit)) (fun i2=>(∀ j:Nat,j < i2→((j:Int)≤(o.aN.getD j default).ask∧(o.aN.getD j default).ask≤21)∧0≤(o.aN.getD j default).H2∧(o.aN.getD j default).H2 < 5)∧i2≤o.aN.length) (fun i2=>o.aN.length - i2) (0:Nat)
 (fun (i2:Nat)=>⟨[(3,iv (i2:Int))],[]⟩) fun i2=>let aC:=(o.aN.getD i2 default);
 .lt 1 2 i2 o.aN.length
 (.r 4 (.ak (.p (cM (i2:Int) o.aN.length)) (.dep ((aj (aC.ask) 0 21).c) fun x3=>.ak (.wh (!x3) false (.p (cM (i2:Int) o.aN.length))) (.wh (!x3) false ((aj (aC.H2) 0 4).c)))) fun p5 =>
 .br ((!p5.1)||(!p5.2))
 (.fin (.inl (.inl false)))
 (.r 6 (.ak (.wh (decide ((i2:Int) > 0)) true (.p (cM (bI ((i2:Int) - 1)) o.aN.length))) (.wh (decide ((i2:Int) > 0)) true (.p (cM (i2:Int) o.aN.length)))) fun _ =>
 .br ((decide ((i2:Int) > 0))&&(decide (((o.aN.getD ((bI ((i2:Int) - 1)).toNat) default).ask)≥(aC.ask))))
 (.fin (.inl (.inl false)))
 (.nx 3 3 i2 (i2+1))))
 (.fin (.inl (.inr ()))))
 (fun (_:Unit)=>⟨[],[]⟩) fun _ =>
 .bind true (fun b6=>∀ j:Nat,j < o.rules.length→(j:Int)≤(o.rules.getD j default).ask∧(o.rules.getD j default).ask≤21)
 (.loop (default:Sum (Bool) (Unit)) (fun i7=>(∀ j:Nat,j < i7→(j:Int)≤(o.rules.getD j default).ask∧(o.rules.getD j default).ask≤21)∧i7≤o.rules.length) (fun i7=>o.rules.length - i7) (0:Nat)
 (fun (i7:Nat)=>⟨[(4,iv (i7:Int))],[]⟩) fun i7=>let bF:=((o.rules.getD i7 default).ask);
 .lt 1 3 i7 o.rules.length
 (.r 11 (.ak (.p (cM (i7:Int) o.rules.length)) ((aj bF 0 21).c)) fun x8 =>
 .br (!x8)
 (.fin (.inl (.inl false)))
 (.r 13 (.ak (.wh (decide ((i7:Int) > 0)) true (.p (cM (bI ((i7:Int) - 1)) o.rules.length))) (.wh (decide ((i7:Int) > 0)) true (.p (cM (i7:Int) o.rules.length)))) fun _ =>
 .br ((decide ((i7:Int) > 0))&&(decide (((o.rules.getD ((bI ((i7:Int) - 1)).toNat) default).ask)≥bF)))
 (.fin (.inl (.inl false)))
 (.nx 10 4 i7 (i7+1))))
 (.fin (.inl (.inr ()))))
 (fun (_:Unit)=>⟨[],[]⟩) fun _ =>
 .fin true
def gT o:=(gB o).val
theorem qD (o:Order):(gB o).dj (fun (x:Bool)=>x=true→(∀ j,j < o.aN.length→0≤(o.aN.getD j default).H2∧(o.aN.getD j default).H2 < 5)∧o.aN.length≤22∧o.rules.length≤22):=by
 refine Sk.bM _ ?_
 unfold gB
 simp only [Sk.eO,Sk.db,reduceCtorEq,ON,kk,kp,aj,bu,forall_eq,maxLen]
 refine ⟨⟨⟨fun j hj=>absurd hj (by omega),Nat.zero_le _⟩,fun i hi=>⟨fun hc h1 _ h2 _=>?_,fun hc j hj=>?_⟩⟩,fun _ hJ=>⟨⟨⟨fun j hj=>absurd hj (by omega),Nat.zero_le _⟩,fun i hi=>⟨fun hc h1 _ h2 _=>?_,fun hc j hj=>?_⟩⟩,fun _ hJ2=>⟨fun j hj=>(hJ j hj).2,?_,?_⟩⟩⟩
 rotate_right
 rotate_right
 ·rcases Nat.lt_or_ge 22 o.aN.length with h | h
  ·have:=(hJ 22 h).1; omega
  ·exact h
 ·rcases Nat.lt_or_ge 22 o.rules.length with h | h
  ·have:=hJ2 22 h; omega
  ·exact h
 all_goals simp only [LN] at hc
 ·simp only [LN] at h1 h2
  refine ⟨⟨fun j hj=>?_,by omega⟩,by omega⟩
  by_cases e:j=i
  ·subst e
   refine ⟨⟨?_,by omega⟩,by omega,by omega⟩
   by_cases e0:j=0
   ·subst e0; omega
   ·have h3:=hi.1 (j - 1) (by omega)
    have h4:=h2.resolve_left (by omega)
    rw [aD (by omega) (by omega),show ((j:Int) - 1).toNat=j - 1 by omega] at h4
    omega
  ·exact hi.1 j (by omega)
 ·exact hi.1 j (by omega)
 ·simp only [LN] at h1 h2
  refine ⟨⟨fun j hj=>?_,by omega⟩,by omega⟩
  by_cases e:j=i
  ·subst e
   refine ⟨?_,by omega⟩
   by_cases e0:j=0
   ·subst e0; omega
   ·have h3:=hi.1 (j - 1) (by omega)
    have h4:=h2.resolve_left (by omega)
    rw [aD (by omega) (by omega),show ((j:Int) - 1).toNat=j - 1 by omega] at h4
    omega
  ·exact hi.1 j (by omega)
 ·exact hi.1 j (by omega)
theorem xc (o:Order):(fun (x:Bool)=>x=true→(∀ j,j < o.aN.length→0≤(o.aN.getD j default).H2∧(o.aN.getD j default).H2 < 5)∧o.aN.length≤22∧o.rules.length≤22) (gT o):=have h:=Sk.cN _ (qD o); h
theorem zE (o:Order):(gB o).bO (fun _=>True):=by
 refine Sk.bP _ ?_
 unfold gB
 simp only [Sk.oV,Sk.db,reduceCtorEq,ON,kk,kp,aj,bu,forall_eq,maxLen]
 refine ⟨⟨⟨fun j hj=>absurd hj (by omega),Nat.zero_le _⟩,fun i hi hm=>⟨fun hc=>⟨⟨?_,fun _=>?_⟩,fun h1=>⟨⟨fun h3=>?_,fun _=>?_⟩,fun _ h2 _=>⟨?_,?_⟩⟩⟩,fun hc j hj=>?_⟩⟩,fun _ hJ=>⟨⟨fun j hj=>absurd hj (by omega),Nat.zero_le _⟩,fun i hi hm=>⟨fun hc=>⟨?_,fun h1=>⟨⟨fun h3=>?_,fun _=>?_⟩,fun _ h2 _=>⟨?_,?_⟩⟩⟩,fun hc j hj=>?_⟩⟩⟩
 all_goals simp only [LN] at hc
 ·exact ⟨by omega,by omega⟩
 ·exact ⟨by omega,by omega⟩
 ·simp only [LN] at h3
  rw [aD (by omega) (by omega)]
  exact ⟨by omega,by omega⟩
 ·exact ⟨by omega,by omega⟩
 ·exact (aD (by omega) (by omega)).trans (by omega)
 ·simp only [LN] at h1 h2
  refine ⟨⟨fun j hj=>?_,by omega⟩,by omega⟩
  by_cases e:j=i
  ·subst e
   refine ⟨⟨?_,by omega⟩,by omega,by omega⟩
   by_cases e0:j=0
   ·subst e0; omega
   ·have h3:=hi.1 (j - 1) (by omega)
    have h4:=h2.resolve_left (by omega)
    rw [aD (by omega) (by omega),show ((j:Int) - 1).toNat=j - 1 by omega] at h4
    omega
  ·exact hi.1 j (by omega)
 ·exact hi.1 j (by omega)
 ·exact ⟨by omega,by omega⟩
 ·simp only [LN] at h3
  rw [aD (by omega) (by omega)]
  exact ⟨by omega,by omega⟩
 ·exact ⟨by omega,by omega⟩
 ·exact (aD (by omega) (by omega)).trans (by omega)
 ·simp only [LN] at h1 h2
  refine ⟨⟨fun j hj=>?_,by omega⟩,by omega⟩
  by_cases e:j=i
  ·subst e
   refine ⟨?_,by omega⟩
   by_cases e0:j=0
   ·subst e0; omega
   ·have h3:=hi.1 (j - 1) (by omega)
    have h4:=h2.resolve_left (by omega)
    rw [aD (by omega) (by omega),show ((j:Int) - 1).toNat=j - 1 by omega] at h4
    omega
  ·exact hi.1 j (by omega)
 ·exact hi.1 j (by omega)
def ny o:=kp tok mixed Tryz.func96 [av o.cells] (fun x=>bv x) true (gT o) (u0 (zE o)) (qD o)
def kX (r:ai):Sk (Int) :=
 .br (decide (((r.aG.length:Nat):Int) > 20))
 (.fin 6)
 (.bind true (fun b1=>r.Jt∧(∀ i,i < r.aG.length→(r.aG.getD i default).aN.length≤22∧(r.aG.getD i default).rules.length≤22))
 (.loop (default:Sum (Int) (Unit)) (fun i2=>i2.1.length=i2.2∧i2.2≤r.aG.length∧(∀ i j,i < i2.2→j < (r.aG.getD i default).aN.length→0≤((r.aG.getD i default).aN.getD j default).H2∧((r.aG.getD i default).aN.getD j default).H2 < 5)∧(∀ i,i < i2.2→(r.aG.getD i default).aN.length≤22∧(r.aG.getD i default).rules.length≤22)) (fun i2=>r.aG.length - i2.2) (([],0):(List ByteArray) × Nat)
 (fun (i2:(List ByteArray) × Nat)=>⟨[(3,ow 100001 i2.1),(4,iv (i2.2:Int))],[(100001,cm 9 1 fZ i2.1)]⟩) fun i2=>let bF:=(cM (i2.2:Int) r.aG.length); let aC:=(r.aG.getD i2.2 default);
 .lt 1 4 i2.2 r.aG.length
 (.r 7 (.ak (.p bF) (.ak (.o [.dU (dw sD [aC.name])]) (.ak (.o [.dU (fo sD i2.1 [aC.name])]) (.ak (.t (sD.jz [aC.name])) (.p (jH i2.1.length [aC.name].length 16)))))) fun _ =>
 .r 8 ((fC (i2.1++[aC.name]) (i2.2:Int)).c) fun x3 =>
 .br (x3 != 0)
 (.fin (.inl (.inl x3)))
 (.r 11 (.ak (.p bF) ((ny aC).c)) fun x4 =>
 .br (!x4)
 (.fin (.inl (.inl 1)))
 (.nx 6 4 i2.2 (i2.1++[aC.name],i2.2+1))))
 (.fin (.inl (.inr ()))))
 (fun (_:Unit)=>⟨[],[]⟩) fun _ =>
 .fin 0)
def uo r:=(kX r).val
theorem Fj (r:ai):(kX r).dj (fun (x:Int)=>x=0→r.Jt∧r.aG.length≤20∧(∀ i,i < r.aG.length→(r.aG.getD i default).aN.length≤22∧(r.aG.getD i default).rules.length≤22)):=by
 unfold kX
 try simp only [ny,fC,ai.Jt]
 exact U7
theorem G0 (r:ai):(kX r).bO (fun _=>True):=by
 unfold kX
 try simp only [ny,fC,ai.Jt]
 exact sH
def uq r:=kp tok mixed Tryz.func60 [av r.cells] (fun x=>iv x) true (uo r) (u0 (G0 r)) (Fj r)
def gU (r:ai):Sk (Int):=let bF:=((r.aL.length:Nat):Int);
 .br (decide (((r.aI.length:Nat):Int) > 100))
 (.fin 6)
 (.bt
 (.loop (default:Sum (Int) (Unit)) (fun i2=>i2≤r.aI.length) (fun i2=>r.aI.length - i2) (0:Nat)
 (fun (i2:Nat)=>⟨[(3,iv (i2:Int))],[]⟩) fun i2=>let eX:=(i2:Int); let aC:=(r.aI.getD i2 default);
 .lt 1 5 i2 r.aI.length
 (.bt
 (.r 6 (.p (cM eX r.aI.length)) fun _ =>
 .r 7 (.dep ((aj (aC.from_) 0 (bI (bF - 1))).c) fun x4=>.dep (.wh (!x4) false ((aj (aC.cH) 0 (bI (bF - 1))).c)) fun x5=>.wh ((!x4)||(!x5)) false ((aj (aC.days) 1 20000).c)) fun p9 =>
 .br (((!p9.1)||(!p9.2.1))||(!p9.2.2))
 (.fin (.inl (.inl (.inl 1))))
 (.bt
 (.loop (default:Sum (Sum (Sum (Sum (Int) (Unit)) (Nat)) (Int × (List dc) × Int × dc × Int × (List nj) × Int × Int × Bool × Bool × Bool × Bool × Bool × Bool × Int × Int × Bool)) (Int × Int × Int × Bool)) (fun i8=>i8≤i2) (fun i8=>i2 - i8) (0:Nat)
 (fun (i8:Nat)=>⟨[(5,iv (i8:Int))],[]⟩) fun i8=>let l8:=(r.aI.getD i8 default); let lU:=((l8.from_) == (aC.from_)); let dm:=(i8:Int);
 .br (decide (dm < eX))
 (.r 12 (.ak (.p (cM dm r.aI.length)) (.wh lU true (.p (cM dm r.aI.length)))) fun _ =>
 .br (lU&&((l8.cH) == (aC.cH)))
 (.fin (.inl (.inl (.inl (.inl (.inl 5))))))
 (.nx 11 5 i8 (i8+1)))
 (.fin (.inl (.inr (dm,dm,eX,decide (dm < eX))))))
 (fun (b7:Int × Int × Int × Bool)=>⟨[(5,iv b7.1),(46,iv b7.2.1),(47,iv b7.2.2.1),(48,bv b7.2.2.2)],[]⟩) fun b7 =>
 .fin (.inr (b7.1,r.aI,eX,r.aI.getD i2 default,aC.from_,r.aL,bF,bI (bF - 1),p9.1,!p9.1,!p9.1,(!p9.1)||(!p9.2.1),(!p9.1)||(!p9.2.1),((!p9.1)||(!p9.2.1))||(!p9.2.2),b7.2.1,b7.2.2.1,b7.2.2.2))))
 (fun (b3:Int × (List dc) × Int × dc × Int × (List nj) × Int × Int × Bool × Bool × Bool × Bool × Bool × Bool × Int × Int × Bool)=>⟨[(5,iv b3.1),(18,lv dc.cells b3.2.1),(19,iv b3.2.2.1),(21,av b3.2.2.2.1.cells),(23,iv b3.2.2.2.2.1),(25,lv nj.cells b3.2.2.2.2.2.1),(26,iv b3.2.2.2.2.2.2.1),(27,iv b3.2.2.2.2.2.2.2.1),(28,bv b3.2.2.2.2.2.2.2.2.1),(29,bv b3.2.2.2.2.2.2.2.2.2.1),(30,bv b3.2.2.2.2.2.2.2.2.2.2.1),(39,bv b3.2.2.2.2.2.2.2.2.2.2.2.1),(40,bv b3.2.2.2.2.2.2.2.2.2.2.2.2.1),(45,bv b3.2.2.2.2.2.2.2.2.2.2.2.2.2.1),(46,iv b3.2.2.2.2.2.2.2.2.2.2.2.2.2.2.1),(47,iv b3.2.2.2.2.2.2.2.2.2.2.2.2.2.2.2.1),(48,bv b3.2.2.2.2.2.2.2.2.2.2.2.2.2.2.2.2)],[]⟩) fun _ =>
 .nx 5 3 i2 (i2+1))
 (.fin (.inl (.inr ()))))
 (fun (_:Unit)=>⟨[],[]⟩) fun _ =>
 .fin 0)
def rr r:=(gU r).val
theorem CD (r:ai):(gU r).dj (fun (x:Int)=>x=0→r.aI.length≤100):=by
 unfold gU
 try simp only [aj,bu]
 exact U8
theorem Fk (r:ai):(gU r).bO (fun _=>True):=by
 unfold gU
 try simp only [aj,bu]
 exact AQ
def rY r:=kp tok mixed Tryz.func61 [av r.cells] (fun x=>iv x) true (rr r) (u0 (Fk r)) (CD r)
def jf (r:ai):Sk (Int):=let dm:=(bI (((r.aM.length:Nat):Int) - 1));
 .br (decide (((r.dL.length:Nat):Int) > 100))
 (.fin 6)
 (.bind true (fun b1=>r.ya)
 (.loop (default:Sum (Int) (Unit)) (fun i2=>i2≤r.dL.length∧(∀ i,i < i2→(1≤(r.dL.getD i default).num∧(r.dL.getD i default).num≤1073741824)∧1≤(r.dL.getD i default).den∧(r.dL.getD i default).den≤1073741824)) (fun i2=>r.dL.length - i2) (0:Nat)
 (fun (i2:Nat)=>⟨[(3,iv (i2:Int))],[]⟩) fun i2=>let aC:=(r.dL.getD i2 default);
 .lt 1 6 i2 r.dL.length
 (.r 6 (.p (cM (i2:Int) r.dL.length)) fun _ =>
 .r 7 (.dep ((aj (aC.from_) 0 dm).c) fun x3=>.wh (!x3) false ((aj (aC.cH) 0 dm).c)) fun p9 =>
 .br (((!p9.1)||(!p9.2))||((aC.from_) == (aC.cH)))
 (.fin (.inl (.inl 1)))
 (.r 9 (.dep ((aj (aC.num) 1 1073741824).c) fun x5=>.dep (.wh (!x5) false ((aj (aC.den) 1 1073741824).c)) fun x6=>.wh ((!x5)||(!x6)) false ((aj (aC.since) 0 100000).c)) fun p8 =>
 .br (((!p8.1)||(!p8.2.1))||(!p8.2.2))
 (.fin (.inl (.inl 1)))
 (.nx 5 3 i2 (i2+1))))
 (.fin (.inl (.inr ()))))
 (fun (_:Unit)=>⟨[],[]⟩) fun _ =>
 .br (decide (((r.e9.length:Nat):Int) > 20))
 (.fin 6)
 (.bind true (fun b10=>r.jk)
 (.loop (default:Sum (Int) (Unit)) (fun i11=>i11≤r.e9.length∧(∀ i,i < i11→(r.e9.getD i default).cH≤100000)) (fun i11=>r.e9.length - i11) (0:Nat)
 (fun (i11:Nat)=>⟨[(5,iv (i11:Int))],[]⟩) fun i11=>let bF:=(r.e9.getD i11 default);
 .lt 1 7 i11 r.e9.length
 (.r 16 (.p (cM (i11:Int) r.e9.length)) fun _ =>
 .r 17 (.dep ((aj (bF.order) 0 (bI (((r.aG.length:Nat):Int) - 1))).c) fun Wn=>.wh (!Wn) false ((aj (bF.from_) 0 (bF.cH)).c)) fun p14 =>
 .br (((!p14.1)||(!p14.2))||(decide ((bF.cH) > 100000)))
 (.fin (.inl (.inl 1)))
 (.nx 15 5 i11 (i11+1)))
 (.fin (.inl (.inr ()))))
 (fun (_:Unit)=>⟨[],[]⟩) fun _ =>
 .fin 0))
def ur r:=(jf r).val
theorem Fl (r:ai):(jf r).dj (fun (x:Int)=>x=0→r.dL.length≤100∧r.e9.length≤20∧r.ya∧r.jk):=by
 unfold jf
 try simp only [aj,bu,ai.jk,ai.ya]
 exact U8
theorem G1 (r:ai):(jf r).bO (fun _=>True):=by
 unfold jf
 try simp only [aj,bu,ai.jk,ai.ya]
 exact AQ
def uu r:=kp tok mixed Tryz.func62 [av r.cells] (fun x=>iv x) true (ur r) (u0 (G1 r)) (Fl r)
def mu (r:ai):Sk (Int) :=
 .r 1 ((um r).c) fun x1 =>
 .bind false (fun b2=>b2=0→r.aM.length≤8∧r.aL.length≤40∧r.ch.length≤20∧r.aQ.length≤200∧r.oW)
 (.br (x1 == 0)
 (.r 3 ((vH r).c) fun x3 =>
 .fin (.inr x3))
 (.fin (.inr x1)))
 (fun (b2:Int)=>⟨[(3,iv b2)],[]⟩) fun b2 =>
 .bind false (fun b4=>b4=0→r.aM.length≤8∧r.aL.length≤40∧r.ch.length≤20∧r.aQ.length≤200∧r.oW∧r.Jt∧r.aG.length≤20∧(∀ i,i < r.aG.length→(r.aG.getD i default).aN.length≤22∧(r.aG.getD i default).rules.length≤22))
 (.br (b2 == 0)
 (.r 5 ((uq r).c) fun x5 =>
 .fin (.inr x5))
 (.fin (.inr b2)))
 (fun (b4:Int)=>⟨[(3,iv b4)],[]⟩) fun b4 =>
 .bind false (fun b6=>b6=0→r.aM.length≤8∧r.aL.length≤40∧r.ch.length≤20∧r.aQ.length≤200∧r.oW∧r.Jt∧r.aG.length≤20∧(∀ i,i < r.aG.length→(r.aG.getD i default).aN.length≤22∧(r.aG.getD i default).rules.length≤22)∧r.aI.length≤100)
 (.br (b4 == 0)
 (.r 7 ((rY r).c) fun x7 =>
 .fin (.inr x7))
 (.fin (.inr b4)))
 (fun (b6:Int)=>⟨[(3,iv b6)],[]⟩) fun b6 =>
 .br (b6 == 0)
 (.r 9 ((uu r).c) fun x8 =>
 .fin x8)
 (.fin b6)
def eo r:=(mu r).val
theorem G2 (r:ai):(mu r).dj (fun (x:Int)=>x=0→r.aM.length≤8∧r.aL.length≤40∧r.ch.length≤20∧r.aQ.length≤200∧r.oW∧r.Jt∧r.aG.length≤20∧(∀ i,i < r.aG.length→(r.aG.getD i default).aN.length≤22∧(r.aG.getD i default).rules.length≤22)∧r.aI.length≤100∧r.dL.length≤100∧r.e9.length≤20∧r.ya∧r.jk):=by
 refine Sk.bM _ ?_
 unfold mu
 simp only [Sk.eO,Sk.db,reduceCtorEq,ON,kk,kp,um,vH,uq,uu,rY,maxLen]
 intro x _ hx
 refine ⟨⟨fun h y _ hy h0=>?_,fun h h0=>?_⟩,fun b _ hb=>⟨⟨fun h y _ hy h0=>?_,fun h h0=>?_⟩,fun b2 _ tD=>⟨⟨fun h y _ hy h0=>?_,fun h h0=>?_⟩,fun b3 _ uI=>⟨fun h y _ hy h0=>?_,fun h h0=>?_⟩⟩⟩⟩
 ·have hx:=hx (by simpa using h); have hy:=hy hx.2 h0; exact ⟨hx.1,hx.2,hy⟩
 ·rw [h0] at h; exact absurd h (by decide)
 ·have hb:=hb (by simpa using h); exact ⟨hb.1,hb.2.1,hb.2.2.1,hb.2.2.2.1,hb.2.2.2.2,hy h0⟩
 ·rw [h0] at h; exact absurd h (by decide)
 ·have hb:=tD (by simpa using h); exact ⟨hb.1,hb.2.1,hb.2.2.1,hb.2.2.2.1,hb.2.2.2.2.1,hb.2.2.2.2.2.1,hb.2.2.2.2.2.2.1,hb.2.2.2.2.2.2.2,hy h0⟩
 ·rw [h0] at h; exact absurd h (by decide)
 ·have hb:=uI (by simpa using h); exact ⟨hb.1,hb.2.1,hb.2.2.1,hb.2.2.2.1,hb.2.2.2.2.1,hb.2.2.2.2.2.1,hb.2.2.2.2.2.2.1,hb.2.2.2.2.2.2.2.1,hb.2.2.2.2.2.2.2.2,hy h0⟩
 ·rw [h0] at h; exact absurd h (by decide)
theorem JO (r:ai):(mu r).bO (fun _=>True):=by
 refine Sk.bP _ ?_
 unfold mu
 simp only [Sk.oV,Sk.db,reduceCtorEq,ON,kk,kp,um,vH,uq,uu,rY,maxLen]
 intro x _ hx
 refine ⟨⟨fun h y _ hy h0=>?_,fun h h0=>?_⟩,fun b _ hb=>⟨⟨fun h y _ hy h0=>?_,fun h h0=>?_⟩,fun b2 _ tD=>⟨fun h y _ hy h0=>?_,fun h h0=>?_⟩⟩⟩
 ·have hx:=hx (by simpa using h); have hy:=hy hx.2 h0; exact ⟨hx.1,hx.2,hy⟩
 ·rw [h0] at h; exact absurd h (by decide)
 ·have hb:=hb (by simpa using h); exact ⟨hb.1,hb.2.1,hb.2.2.1,hb.2.2.2.1,hb.2.2.2.2,hy h0⟩
 ·rw [h0] at h; exact absurd h (by decide)
 ·have hb:=tD (by simpa using h); exact ⟨hb.1,hb.2.1,hb.2.2.1,hb.2.2.2.1,hb.2.2.2.2.1,hb.2.2.2.2.2.1,hb.2.2.2.2.2.2.1,hb.2.2.2.2.2.2.2,hy h0⟩
 ·rw [h0] at h; exact absurd h (by decide)
def ru r:=kp tok mixed Tryz.func21 [av r.cells] (fun x=>iv x) true (eo r) (u0 (JO r)) (G2 r)
def eS (D:List UInt8):Nat:=D.foldl (fun a c=>a * 10+(c.toNat - 48)) 0
def Uf (D:List UInt8):Prop:=∀ c,c∈D→48≤c.toNat∧c.toNat≤57
theorem wE (D:List UInt8) (c:UInt8):eS (D++[c])=eS D * 10+(c.toNat - 48):=by simp [eS,List.foldl_append]
theorem Fm:∀ (n u:Nat),u≤n→eS (Lib.decDigits u)=u
 | n,u,hn=>by
  rw [Lib.decDigits]
  by_cases h:u < 10
  ·rw [dif_pos h]
   show 0 * 10+((UInt8.ofNat (48+u)).toNat - 48)=u
   rw [wz u h]
   omega
  ·rw [dif_neg h]
   match n with
   | 0=>omega
   | n+1 =>
    rw [wE,Fm n (u / 10) (by omega),wz _ (by omega)]
    omega
theorem Ug (A:List UInt8):∀ B:List UInt8,eS A≤eS (A++B):=by
 intro B
 unfold eS
 rw [List.foldl_append]
 generalize A.foldl (fun a c=>a * 10+(c.toNat - 48)) 0=v
 induction B generalizing v with
 | nil=>exact Nat.le_refl _
 | cons c r ih =>
  rw [List.foldl_cons]
  exact Nat.le_trans (by omega) (ih _)
theorem Mq:∀ (k:Nat) (D:List UInt8),D.length=k→Uf D→D≠[]→(1 < D.length→(D.getD 0 0).toNat≠48)→Lib.decDigits (eS D)=D
 | 0,D,hk,_,hn,_=>absurd (List.length_eq_zero_iff.1 hk) hn
 | k+1,D,hk,hd,hn,h0=>by
  obtain ⟨E,c,rfl⟩:∃ E c,D=E++[c]:=⟨D.dropLast,D.getLast hn,(List.dropLast_concat_getLast hn).symm⟩
  have hc:=hd c (by simp)
  have KC:UInt8.ofNat (48+(c.toNat - 48))=c:=by rw [show 48+(c.toNat - 48)=c.toNat by omega]; simp
  by_cases hE:E=[]
  ·subst hE
   rw [wE,Lib.decDigits,dif_pos (by show 0 * 10+(c.toNat - 48) < 10; omega)]
   show [UInt8.ofNat (48+(0 * 10+(c.toNat - 48)))]=[c]
   rw [Nat.zero_mul,Nat.zero_add,KC]
  ·have hl:E.length=k:=by simpa using hk
   have hE0:(E.getD 0 0)=((E++[c]).getD 0 0):=by
    cases E with
    | nil=>exact absurd rfl hE
    | cons a r=>rfl
   have IU:=List.length_pos_iff.2 hE
   have hh:((E++[c]).getD 0 0).toNat≠48:=h0 (by simp; omega)
   have ih:=Mq k E hl (fun x hx=>hd x (by simp [hx])) hE (fun _=>by rw [hE0]; exact hh)
   have hv:eS E≠0:=by
    intro hz
    rw [hz] at ih
    rw [← hE0,← ih] at hh
    exact hh (by rw [Lib.decDigits,dif_pos (by omega)]; rfl)
   rw [wE,Lib.decDigits,dif_neg (by omega),show (eS E * 10+(c.toNat - 48)) / 10=eS E by omega,ih,show (eS E * 10+(c.toNat - 48)) % 10=c.toNat - 48 by omega,KC]
theorem run_eq {u j:Nat} {t X:List UInt8} (hX:X=Lib.decDigits u++59 :: t) (hd:Uf (X.take j)) (hj:j≤X.length) (he:X.length≤j∨¬ (48≤(X.getD j 0).toNat∧(X.getD j 0).toNat≤57)):X.take j=Lib.decDigits u∧j < X.length∧X.getD j 0=59:=by
 have Z8:=(np u u (Nat.le_refl _)).2
 have hlen:X.length=(Lib.decDigits u).length+1+t.length:=by rw [hX]; simp; omega
 have h1:j≤(Lib.decDigits u).length:=by
  refine Nat.le_of_not_lt fun cI=>?_
  have hm:(59:UInt8)∈X.take j:=by
   rw [hX,List.take_append]
   refine List.mem_append_right _ ?_
   obtain ⟨q,hq⟩:∃ q,j - (Lib.decDigits u).length=q+1:=⟨j - (Lib.decDigits u).length - 1,by omega⟩
   rw [hq]
   simp
  have:=hd _ hm
  revert this
  decide
 have h2:¬ j < (Lib.decDigits u).length:=fun cI=>by
  have hg:X.getD j 0=(Lib.decDigits u)[j]:=by rw [hX,List.getD_eq_getElem?_getD,List.getElem?_append_left cI,List.getElem?_eq_getElem cI]; rfl
  rcases he with he | he
  ·omega
  ·rw [hg] at he
   exact he (Z8 _ (List.getElem_mem cI))
 have e:j=(Lib.decDigits u).length:=by omega
 refine ⟨by rw [hX,e]; simp,by omega,by rw [hX,e]; simp [List.getD]⟩
theorem Wr {u j:Nat} {t X:List UInt8} (hX:X=Lib.decDigits u++59 :: t) (hd:Uf (X.take j)):eS (X.take j)≤u:=by
 have h1:X.take j <+: Lib.decDigits u:=by
  by_cases h:j≤(Lib.decDigits u).length
  ·rw [hX,List.take_append_of_le_length h]
   exact List.take_prefix _ _
  ·exfalso
   have hm:(59:UInt8)∈X.take j:=by
    rw [hX,List.take_append]
    refine List.mem_append_right _ ?_
    obtain ⟨q,hq⟩:∃ q,j - (Lib.decDigits u).length=q+1:=⟨j - (Lib.decDigits u).length - 1,by omega⟩
    rw [hq]
    simp
   have:=hd _ hm
   revert this
   decide
 obtain ⟨B,hB⟩:=h1
 have:=Ug (X.take j) B
 rw [hB,Fm u u (Nat.le_refl _)] at this
 exact this
def zF (s:ByteArray) (b:Int):Prop:=(b=1∧0 < s.size∧(s.data.toList.getD 0 0).toNat=45)∨(b=0∧¬ (0 < s.size∧(s.data.toList.getD 0 0).toNat=45))
theorem wF (n:Int):dC n=(if n < 0 then 45 :: Lib.decDigits n.natAbs else Lib.decDigits n.natAbs)++[59]:=by
 unfold dC Lib.itoa
 split
 ·rfl
 ·rw [show n.toNat=n.natAbs by omega]
theorem wG {s:ByteArray} {b n:Int} {t:List UInt8} (hF:zF s b) (h:s.data.toList=dC n++t):s.data.toList.drop b.toNat=Lib.decDigits n.natAbs++59 :: t∧(b=1↔n < 0):=by
 have hz:s.data.toList.length=s.size:=(Lib.size_eq s).symm
 have Z8:=np n.natAbs n.natAbs (Nat.le_refl _)
 unfold zF at hF
 rw [wF] at h
 by_cases hn:n < 0
 ·rw [if_pos hn] at h
  have h1:s.data.toList.getD 0 0=45:=by rw [h]; rfl
  have h2:0 < s.size:=by rw [← hz,h]; simp
  rcases hF with ⟨rfl,-⟩ | ⟨-,hf⟩
  ·refine ⟨by rw [h]; simp,by simp [hn]⟩
  ·exact absurd ⟨h2,by rw [h1]; rfl⟩ hf
 ·rw [if_neg hn] at h
  have h1:(s.data.toList.getD 0 0).toNat≠45:=by
   cases hD:Lib.decDigits n.natAbs with
   | nil=>exact absurd hD Z8.1
   | cons c r =>
    have:=Z8.2 c (by rw [hD]; simp)
    rw [h,hD]
    show c.toNat≠45
    omega
  rcases hF with ⟨-,-,hf⟩ | ⟨rfl,-⟩
  ·exact absurd hf h1
  ·refine ⟨by rw [h]; simp,by simp [hn]⟩
theorem Mr {l:List UInt8} (h:(bX l).2.2=false):bX l=(0,[],false):=by
 unfold bX at h ⊢
 cases h1:(Lib.cut (l.take 21) [59]).2.2 with
 | false=>rfl
 | true =>
  rw [h1] at h
  rw [cond_true] at h ⊢
  split
  ·rename_i v ha
   rw [ha] at h
   simp only at h
   cases h2:(Lib.itoa v == (Lib.cut (l.take 21) [59]).1) with
   | false=>rfl
   | true=>rw [h2] at h; cases h
  ·rfl
theorem wH {s:ByteArray} (h:∀ n t,aK n→s.data.toList≠dC n++t):ax s=(0,⟨#[]⟩,false):=by
 have h1:(bX s.data.toList).2.2=false:=by
  cases hb:(bX s.data.toList).2.2 with
  | false=>rfl
  | true =>
   obtain ⟨h2,h3⟩:=B0 (l:=s.data.toList) (n:=(bX s.data.toList).1) (t:=(bX s.data.toList).2.1) (by rw [← hb])
   exact absurd h2 (h _ _ h3)
 unfold ax
 rw [Mr h1]
def dF (s:ByteArray) (i:Int):Int:=((s.data.toList.getD i.toNat 0).toNat:Int)
def OU (s:ByteArray) (b at_ n:Int):Prop:=(b=0∨b=1)∧∃ j:Nat,at_=b+j∧b.toNat+j≤s.size∧Uf ((s.data.toList.drop b.toNat).take j)∧n = -(eS ((s.data.toList.drop b.toNat).take j):Nat)∧eS ((s.data.toList.drop b.toNat).take j)≤9223372036854775808
def Zf (s:ByteArray) (b at_ n:Int):Prop:=OU s b at_ n∧¬ (at_ < (s.size:Int)∧48≤dF s at_∧dF s at_≤57)
theorem zF.b {s:ByteArray} {b:Int} (h:zF s b):(b=0∨b=1)∧b.toNat≤s.size:=by
 rcases h with ⟨rfl,h,-⟩ | ⟨rfl,-⟩
 ·exact ⟨.inr rfl,h⟩
 ·exact ⟨.inl rfl,Nat.zero_le _⟩
theorem OU.start {s:ByteArray} {b:Int} (h:zF s b):OU s b b 0:=⟨h.b.1,0,by omega,by have:=h.b.2; omega,fun c hc=>by simp at hc,by simp [eS],by simp [eS]⟩
theorem OU.at {s:ByteArray} {b at_ n:Int} (h:OU s b at_ n):0≤at_∧at_≤(s.size:Int)∧b≤at_:=by
 obtain ⟨h0,j,h1,h2,-⟩:=h
 omega
theorem zG {l:List UInt8} {b j:Nat}:(l.drop b).getD j 0=l.getD (b+j) 0:=by simp [List.getD]
theorem OV {l:List UInt8} {n:Nat} (h:n < l.length):l.take (n+1)=l.take n++[l.getD n 0]:=by rw [List.take_succ_eq_append_getElem h,show l.getD n 0=l[n] by simp [List.getD,h]]
theorem OU.snoc {s:ByteArray} {b at_ n:Int} (h:OU s b at_ n) (h1:at_ < (s.size:Int)) (h2:48≤dF s at_) (h3:dF s at_≤57):∃ j:Nat,at_=b+j∧(b=0∨b=1)∧b.toNat+j < s.size∧n = -(eS ((s.data.toList.drop b.toNat).take j):Nat)∧eS ((s.data.toList.drop b.toNat).take j)≤9223372036854775808∧Uf ((s.data.toList.drop b.toNat).take (j+1))∧(eS ((s.data.toList.drop b.toNat).take (j+1)):Int)=10 * eS ((s.data.toList.drop b.toNat).take j)+(dF s at_ - 48):=by
 have hz:s.data.toList.length=s.size:=(Lib.size_eq s).symm
 obtain ⟨h0,j,e1,e2,e3,e4,e5⟩:=h
 have hi:at_.toNat=b.toNat+j:=by omega
 have hc:dF s at_=(((s.data.toList.drop b.toNat).getD j 0).toNat:Int):=by unfold dF; rw [hi,zG]
 have hl:j < (s.data.toList.drop b.toNat).length:=by simp [hz]; omega
 have ht:=OV hl
 refine ⟨j,e1,h0,by omega,e4,e5,?_,?_⟩
 ·rw [ht]
  intro c hm
  rcases List.mem_append.1 hm with hm | hm
  ·exact e3 c hm
  ·simp only [List.mem_singleton] at hm
   rw [hm]
   omega
 ·rw [ht,wE,hc]
  rw [hc] at h2 h3
  omega
theorem OU.step {s:ByteArray} {b at_ n:Int} (h:OU s b at_ n) (hs:s.size≤1000000) (h1:at_ < (s.size:Int)) (h2:48≤dF s at_) (h3:dF s at_≤57) (hov:¬ (n < -922337203685477580∨(n = -922337203685477580∧bI (bI (dF s at_) - 48) > 8))):OU s b (bI (at_+1)) (bI (bI (10 * n) - bI (bI (dF s at_) - 48)))∧((s.size:Int) - bI (at_+1)).toNat < ((s.size:Int) - at_).toNat:=by
 obtain ⟨j,e1,h0,e2,e4,e5,e6,e7⟩:=h.snoc h1 h2 h3
 rw [aD (n:=dF s at_) (by omega) (by omega),aD (n:=dF s at_ - 48) (by omega) (by omega)] at hov
 rw [aD (n:=dF s at_) (by omega) (by omega),aD (n:=dF s at_ - 48) (by omega) (by omega),aD (n:=at_+1) (by omega) (by omega),aD (n:=10 * n) (by omega) (by omega),aD (by omega) (by omega)]
 exact ⟨⟨h0,j+1,by omega,by omega,e6,by omega,by omega⟩,by omega⟩
theorem OU.over {s:ByteArray} {b at_ n:Int} (h:OU s b at_ n) (hF:zF s b) (h1:at_ < (s.size:Int)) (h2:48≤dF s at_) (h3:dF s at_≤57) (hov:n < -922337203685477580∨(n = -922337203685477580∧bI (bI (dF s at_) - 48) > 8)):ax s=(0,⟨#[]⟩,false):=by
 obtain ⟨j,e1,h0,e2,e4,e5,e6,e7⟩:=h.snoc h1 h2 h3
 rw [aD (n:=dF s at_) (by omega) (by omega),aD (n:=dF s at_ - 48) (by omega) (by omega)] at hov
 refine wH fun m t hm e=>?_
 obtain ⟨g1,g2⟩:=wG hF e
 have:=Wr g1 e6
 omega
theorem b64 {x:ByteArray} {l:List UInt8} (h:x.data.toList=l):x=⟨l.toArray⟩:=by
 apply ByteArray.ext
 apply Array.ext'
 simpa using h
theorem Zf.run {s:ByteArray} {b at_ n:Int} (h:Zf s b at_ n) {u:Nat} {t:List UInt8} (e:s.data.toList.drop b.toNat=Lib.decDigits u++59 :: t):∃ j:Nat,at_=b+j∧(s.data.toList.drop b.toNat).take j=Lib.decDigits u∧b.toNat+j < s.size∧dF s at_=59∧n = -(u:Int):=by
 have hz:s.data.toList.length=s.size:=(Lib.size_eq s).symm
 obtain ⟨⟨h0,j,e1,e2,e3,e4,e5⟩,hs⟩:=h
 have hi:at_.toNat=b.toNat+j:=by omega
 have hc:dF s at_=(((s.data.toList.drop b.toNat).getD j 0).toNat:Int):=by unfold dF; rw [hi,zG]
 have hl:(s.data.toList.drop b.toNat).length=s.size - b.toNat:=by simp [hz]
 obtain ⟨r1,r2,r3⟩:=run_eq e e3 (by omega) (by
  by_cases cI:at_ < (s.size:Int)
  ·right
   rintro ⟨a1,a2⟩
   exact hs ⟨cI,by omega,by omega⟩
  ·left
   omega)
 refine ⟨j,e1,r1,by omega,by rw [hc,r3]; rfl,?_⟩
 rw [e4,r1,Fm u u (Nat.le_refl _)]
theorem Zf.bad {s:ByteArray} {b at_ n:Int} (h:Zf s b at_ n) (hF:zF s b) (hs:s.size≤1000000) (hc:((((at_ == b)||(decide (at_≥(s.size:Int))))||(dF s at_ != 59))||((decide (at_ > (bI (b+1))))&&(dF s b == 48)))=true):ax s=(0,⟨#[]⟩,false):=by
 refine wH fun m t hm e=>?_
 obtain ⟨g1,g2⟩:=wG hF e
 obtain ⟨j,e1,e2,e3,e4,e5⟩:=h.run g1
 have hb:=hF.b
 have hd:=AZ m.natAbs
 have hl:(Lib.decDigits m.natAbs).length=j:=by
  have:=congrArg List.length e2
  have hz:s.data.toList.length=s.size:=(Lib.size_eq s).symm
  simp only [List.length_take,List.length_drop] at this
  omega
 have hp:=List.length_pos_iff.2 hd
 rw [aD (by omega) (by omega)] at hc
 simp only [Bool.or_eq_true,Bool.and_eq_true,beq_iff_eq,decide_eq_true_eq,bne_iff_ne] at hc
 rcases hc with ((hc | hc) | hc) | ⟨hc,U3⟩
 ·omega
 ·omega
 ·exact hc e4
 ·have Sd:dF s b=((Lib.decDigits m.natAbs).getD 0 0).toNat:=by
   have:s.data.toList.getD b.toNat 0=(s.data.toList.drop b.toNat).getD 0 0:=by rw [zG]; rfl
   unfold dF
   rw [this,g1]
   cases hD:Lib.decDigits m.natAbs with
   | nil=>exact absurd hD hd
   | cons c r=>rfl
  rw [Sd] at U3
  have h1:1 < (Lib.decDigits m.natAbs).length:=by omega
  rw [Lib.decDigits] at h1 U3
  by_cases hu:m.natAbs < 10
  ·rw [dif_pos hu] at h1
   simp at h1
  ·rw [dif_neg hu] at U3
   have hnz:∀ (k u:Nat),u≤k→u≠0→((Lib.decDigits u).getD 0 0).toNat≠48:=by
    intro k
    induction k with
    | zero=>intro u h1 h2; omega
    | succ k ih =>
     intro u h1 h2
     rw [Lib.decDigits]
     by_cases h:u < 10
     ·rw [dif_pos h]
      show (UInt8.ofNat (48+u)).toNat≠48
      rw [wz u h]
      omega
     ·rw [dif_neg h]
      have:=ih (u / 10) (by omega) (by omega)
      have gN:=AZ (u / 10)
      cases hD:Lib.decDigits (u / 10) with
      | nil=>exact absurd hD gN
      | cons c r=>rw [hD] at this; exact this
   have:=hnz (m.natAbs / 10) (m.natAbs / 10) (Nat.le_refl _) (by omega)
   have gN:=AZ (m.natAbs / 10)
   cases hD:Lib.decDigits (m.natAbs / 10) with
   | nil=>exact gN hD
   | cons c r =>
    rw [hD] at this U3
    exact this (by exact_mod_cast U3)
theorem Zf.adK {s:ByteArray} {b at_ n:Int} (h:Zf s b at_ n) (hF:zF s b) (hs:s.size≤1000000) (hc:((((at_ == b)||(decide (at_≥(s.size:Int))))||(dF s at_ != 59))||((decide (at_ > (bI (b+1))))&&(dF s b == 48)))=false):(b=1→n=0→ax s=(0,⟨#[]⟩,false))∧(b=1→n≠0→ax s=(n,s.extract ((bI (at_+1)).toNat) s.size,true))∧(b≠1→n = -9223372036854775808→ax s=(0,⟨#[]⟩,false))∧(b≠1→n≠-9223372036854775808→ax s=(bI (0 - n),s.extract ((bI (at_+1)).toNat) s.size,true)):=by
 have hz:s.data.toList.length=s.size:=(Lib.size_eq s).symm
 have hb:=hF.b
 have KC:=hc
 rw [aD (by omega) (by omega)] at KC
 simp only [Bool.or_eq_false_iff,Bool.and_eq_false_iff,beq_eq_false_iff_ne,decide_eq_false_iff_not,bne_eq_false_iff_eq] at KC
 obtain ⟨⟨⟨c1,c2⟩,c3⟩,c4⟩:=KC
 have hE:=h
 obtain ⟨⟨h0,j,e1,e2,e3,e4,e5⟩,jD⟩:=h
 have hi:at_.toNat=b.toNat+j:=by omega
 have hl:(s.data.toList.drop b.toNat).length=s.size - b.toNat:=by simp [hz]
 have ZW:j < (s.data.toList.drop b.toNat).length:=by omega
 have adL:(s.data.toList.drop b.toNat).take j≠[]:=by
  intro he
  have:=congrArg List.length he
  simp only [List.length_take,List.length_nil] at this
  omega
 have abp:Lib.decDigits (eS ((s.data.toList.drop b.toNat).take j))=(s.data.toList.drop b.toNat).take j:=by
  refine Mq _ _ rfl e3 adL fun hlen=>?_
  have hlen:1 < j:=by simp only [List.length_take] at hlen; omega
  have e:((s.data.toList.drop b.toNat).take j).getD 0 0=s.data.toList.getD b.toNat 0:=by
   rw [show ((s.data.toList.drop b.toNat).take j).getD 0 0=(s.data.toList.drop b.toNat).getD 0 0 by simp [List.getD,show 0 < j by omega],zG]
   rfl
  rw [e]
  rcases c4 with c4 | c4
  ·omega
  ·intro U3
   exact c4 (by unfold dF; rw [U3]; rfl)
 generalize hv:eS ((s.data.toList.drop b.toNat).take j)=v at abp e4 e5
 have hw:bI (at_+1)=at_+1:=aD (by omega) (by omega)
 have hch:s.data.toList.getD at_.toNat 0=59:=by
  unfold dF at c3
  have:(s.data.toList.getD at_.toNat 0).toNat=59:=by exact_mod_cast c3
  exact UInt8.toNat_inj.1 (by rw [this]; rfl)
 have hX:s.data.toList.drop b.toNat=Lib.decDigits v++59 :: s.data.toList.drop (b.toNat+j+1):=by
  have h1:=(List.take_append_drop j (s.data.toList.drop b.toNat)).symm
  rw [h1,abp]
  congr 1
  rw [List.drop_drop,List.drop_eq_getElem_cons (by omega:b.toNat+j < s.data.toList.length)]
  congr 1
  rw [← hch,hi,List.getD_eq_getElem?_getD,List.getElem?_eq_getElem (by omega)]
  rfl
 have hex:s.extract ((bI (at_+1)).toNat) s.size=⟨(s.data.toList.drop (b.toNat+j+1)).toArray⟩:=by
  refine b64 ?_
  rw [hw,show (at_+1).toNat=b.toNat+j+1 by omega,Lib.extract_eq]
  simp only [List.toList_toArray]
  rw [List.take_of_length_le (by simp [hz])]
 rw [hex]
 have sgn:b=1→s.data.toList=45 :: s.data.toList.drop 1:=fun h1=>by
  rcases hF with ⟨-,g1,g2⟩ | ⟨g1,-⟩
  ·cases sh:s.data.toList with
   | nil=>rw [sh] at hz; simp at hz; omega
   | cons c r =>
    rw [sh] at g2
    have:c=45:=UInt8.toNat_inj.1 g2
    rw [this]
    rfl
  ·omega
 refine ⟨fun b1 n0=>wH fun m t hm e=>?_,fun b1 n0=>?_,fun b1 n0=>wH fun m t hm e=>?_,fun b1 n0=>?_⟩
 ·obtain ⟨g1,g2⟩:=wG hF e
  obtain ⟨_,_,_,_,_,g3⟩:=hE.run g1
  have:=g2.1 b1
  omega
 ·refine qo (by omega) ?_
  rw [wF,if_pos (by omega),show n.natAbs=v by omega]
  have sg:=sgn b1
  subst b1
  exact sg.trans ((congrArg (fun q=>45 :: q) hX).trans (by simp))
 ·obtain ⟨g1,g2⟩:=wG hF e
  obtain ⟨_,_,_,_,_,g3⟩:=hE.run g1
  have:¬ m < 0:=fun h=>b1 (g2.2 h)
  omega
 ·rw [aD (by omega) (by omega)]
  refine qo (by omega) ?_
  rw [wF,if_neg (by omega),show (0 - n).natAbs=v by omega]
  have Sd:b=0:=by omega
  subst Sd
  exact (show s.data.toList=s.data.toList.drop (0:Int).toNat from rfl).trans (hX.trans (by simp))
def JP (s:ByteArray):Int × ByteArray × Bool:=bif (!(ax s).2.2)||decide ((ax s).1 < 0) then (0,⟨#[]⟩,false) else ax s
theorem Ms {s:ByteArray} (h:(JP s).2.2=true):JP s=ax s∧0≤(ax s).1:=by
 unfold JP at h ⊢
 cases hc:((!(ax s).2.2)||decide ((ax s).1 < 0)) with
 | true=>rw [hc] at h; cases h
 | false =>
  refine ⟨rfl,?_⟩
  simp only [Bool.or_eq_false_iff,decide_eq_false_iff_not] at hc
  omega
theorem Ws {s:ByteArray} (h:(!(ax s).2.2||decide ((ax s).1 < 0))=false):JP s=ax s:=by
 unfold JP
 rw [h,cond_false]
def gV (s:ByteArray):Sk (Int × ByteArray × Bool):=let aC:=((s.size:Nat):Int);
 .r 2 (.wh (decide (aC > 0)) true (.p (0≤(0:Int)∧0 < aC))) fun _ =>
 .bind false (fun b1=>zF s b1)
 (.br ((decide (aC > 0))&&(((s.data.toList.getD 0 0).toNat:Int) == 45))
 (.fin (.inr 1))
 (.fin (.inr 0)))
 (fun (b1:Int)=>⟨[(5,iv b1)],[]⟩) fun b1 =>
 .bind true (fun b2=>Zf s b1 b2.1 b2.2)
 (.loop (default:Sum (Int × ByteArray × Bool) (Int × Int)) (fun i3=>OU s b1 i3.1 i3.2) (fun i3=>((s.size:Int) - i3.1).toNat) ((b1,0):Int × Int)
 (fun (i3:Int × Int)=>⟨[(6,iv i3.1),(7,iv i3.2)],[]⟩) fun i3=>let bF:=((s.data.toList.getD i3.1.toNat 0).toNat:Int); let eX:=((decide (i3.1 < aC))&&(decide (bF≥48)));
 .r 6 (.ak (.wh (decide (i3.1 < aC)) true (.p (0≤i3.1∧i3.1 < aC))) (.wh eX true (.p (0≤i3.1∧i3.1 < aC)))) fun _ =>
 .br (eX&&(decide (bF≤57)))
 (.r 7 (.p (0≤i3.1∧i3.1 < aC)) fun _ =>
 .br ((decide (i3.2 < (-922337203685477580)))||((i3.2 == (-922337203685477580))&&(decide ((bI ((bI (bF)) - 48)) > 8))))
 (.fin (.inl (.inl (0,(⟨#[]⟩:ByteArray),false))))
 (.fin (.inr (bI (i3.1+1),bI ((bI ((10:Int) * i3.2)) - (bI ((bI (bF)) - 48)))))))
 (.fin (.inl (.inr (i3.1,i3.2)))))
 (fun (b2:Int × Int)=>⟨[(6,iv b2.1),(7,iv b2.2)],[]⟩) fun b2=>let l8:=(decide (b2.1 > (bI (b1+1)))); let lU:=((b2.1 == b1)||(decide (b2.1≥aC))); let dm:=(lU||(((s.data.toList.getD b2.1.toNat 0).toNat:Int) != 59));
 .r 12 (.ak (.wh lU false (.p (0≤b2.1∧b2.1 < aC))) (.wh dm false (.wh l8 true (.p (0≤b1∧b1 < aC))))) fun _ =>
 .br (dm||(l8&&(((s.data.toList.getD b1.toNat 0).toNat:Int) == 48)))
 (.fin (0,(⟨#[]⟩:ByteArray),false))
 (.r 14 (.p (0≤(bI (b2.1+1))∧(bI (b2.1+1))≤aC)) fun _ =>
 .br ((b1 == 1)&&(b2.2 == 0))
 (.fin (0,(⟨#[]⟩:ByteArray),false))
 (.br (b1 == 1)
 (.fin (b2.2,s.extract ((bI (b2.1+1)).toNat) s.size,true))
 (.br (b2.2 == (-9223372036854775808))
 (.fin (0,(⟨#[]⟩:ByteArray),false))
 (.fin (bI (0 - b2.2),s.extract ((bI (b2.1+1)).toNat) s.size,true)))))
def jM s:=(gV s).val
theorem CE (s:ByteArray) (hP:s.size≤1000000):(gV s).dj (fun (x:Int × ByteArray × Bool)=>x=ax s):=by
 unfold gV
 have hs:=hP
 refine fun _ _ _=>⟨⟨fun hc=>?_,fun hc=>?_⟩,fun b1 _ hF=>⟨⟨OU.start hF,fun i3 h=>fun _ _ _=>⟨fun hc=>fun _ _ _=>⟨fun ho=>?_,fun ho=>?_⟩,fun hc=>⟨h,?_⟩⟩⟩,fun b2 _ hE=>fun _ _ _=>⟨fun hc=>(hE.bad hF hs hc).symm,fun hc=>fun _ _ _=>?_⟩⟩⟩
 ·simp only [Bool.and_eq_true,decide_eq_true_eq,beq_iff_eq] at hc
  exact .inl ⟨rfl,by omega,by omega⟩
 ·refine .inr ⟨rfl,fun h=>?_⟩
  simp only [Bool.and_eq_false_iff,decide_eq_false_iff_not,beq_eq_false_iff_ne] at hc
  rcases hc with hc | hc <;> omega
 ·simp only [Bool.and_eq_true,decide_eq_true_eq] at hc
  simp only [Bool.or_eq_true,Bool.and_eq_true,decide_eq_true_eq,beq_iff_eq] at ho
  exact (h.over hF hc.1.1 hc.1.2 hc.2 ho).symm
 ·simp only [Bool.and_eq_true,decide_eq_true_eq] at hc
  refine h.step hs hc.1.1 hc.1.2 hc.2 fun hn=>?_
  have:((decide (i3.2 < (-922337203685477580)))||((i3.2 == (-922337203685477580))&&(decide ((bI ((bI (dF s i3.1)) - 48)) > 8))))=true:=by
   simp only [Bool.or_eq_true,Bool.and_eq_true,decide_eq_true_eq,beq_iff_eq]
   exact hn
  have ho:((decide (i3.2 < (-922337203685477580)))||((i3.2 == (-922337203685477580))&&(decide ((bI ((bI (dF s i3.1)) - 48)) > 8))))=false:=ho
  rw [this] at ho
  cases ho
 ·intro hn
  have:((decide (i3.1 < ((s.size:Nat):Int)))&&(decide (dF s i3.1≥48))&&(decide (dF s i3.1≤57)))=true:=by
   simp only [Bool.and_eq_true,decide_eq_true_eq]
   exact ⟨⟨hn.1,hn.2.1⟩,hn.2.2⟩
  have hc:((decide (i3.1 < ((s.size:Nat):Int)))&&(decide (dF s i3.1≥48))&&(decide (dF s i3.1≤57)))=false:=hc
  rw [this] at hc
  cases hc
 ·obtain ⟨g1,g2,g3,g4⟩:=hE.adK hF hs hc
  refine ⟨fun hd=>?_,fun hd=>⟨fun he=>?_,fun he=>⟨fun hf=>?_,fun hf=>?_⟩⟩⟩
  ·simp only [Bool.and_eq_true,beq_iff_eq] at hd
   exact (g1 hd.1 hd.2).symm
  ·have he:b1=1:=by simpa using he
   exact (g2 he (fun h0=>by rw [he,h0] at hd; cases hd)).symm
  ·have he:b1≠1:=by simpa using he
   exact (g3 he (by simpa using hf)).symm
  ·have he:b1≠1:=by simpa using he
   exact (g4 he (by simpa using hf)).symm
theorem sR (s:ByteArray):(fun (x:Int × ByteArray × Bool)=>(s.size≤1000000)→(x=ax s)) (jM s):=fun hP=>have h:=Sk.cN _ (CE s hP); h
theorem Fo (s:ByteArray) (hs:s.size≤1000000):(gV s).bO (fun _=>True):=by
 unfold gV
 refine ⟨fun hc=>?_,fun _ _ _=>⟨⟨fun hc=>?_,fun hc=>?_⟩,fun b1 _ hF=>⟨⟨OU.start hF,fun i3 h=>⟨⟨fun hc=>?_,fun hc=>?_⟩,fun _ _ _=>⟨fun hc=>⟨?_,fun _ _ _=>⟨fun ho=>trivial,fun ho=>?_⟩⟩,fun hc=>⟨h,?_⟩⟩⟩⟩,fun b2 _ hE=>⟨⟨fun hc=>?_,fun hc=>fun hd=>?_⟩,fun _ _ _=>⟨fun hc=>trivial,fun hc=>⟨?_,fun _ _ _=>⟨fun _=>trivial,fun _=>⟨fun _=>trivial,fun _=>⟨fun _=>trivial,fun _=>trivial⟩⟩⟩⟩⟩⟩⟩⟩⟩
 ·have hc:=of_decide_eq_true hc
  exact ⟨by omega,by omega⟩
 ·simp only [Bool.and_eq_true,decide_eq_true_eq,beq_iff_eq] at hc
  exact .inl ⟨rfl,by omega,by omega⟩
 ·refine .inr ⟨rfl,fun h=>?_⟩
  simp only [Bool.and_eq_false_iff,decide_eq_false_iff_not,beq_eq_false_iff_ne] at hc
  rcases hc with hc | hc <;> omega
 ·have:=h.at
  exact ⟨by omega,of_decide_eq_true hc⟩
 ·have:=h.at
  simp only [Bool.and_eq_true,decide_eq_true_eq] at hc
  exact ⟨by omega,hc.1⟩
 ·have:=h.at
  simp only [Bool.and_eq_true,decide_eq_true_eq] at hc
  exact ⟨by omega,hc.1.1⟩
 ·simp only [Bool.and_eq_true,decide_eq_true_eq] at hc
  refine h.step hs hc.1.1 hc.1.2 hc.2 fun hn=>?_
  have:((decide (i3.2 < (-922337203685477580)))||((i3.2 == (-922337203685477580))&&(decide ((bI ((bI (dF s i3.1)) - 48)) > 8))))=true:=by
   simp only [Bool.or_eq_true,Bool.and_eq_true,decide_eq_true_eq,beq_iff_eq]
   exact hn
  have ho:((decide (i3.2 < (-922337203685477580)))||((i3.2 == (-922337203685477580))&&(decide ((bI ((bI (dF s i3.1)) - 48)) > 8))))=false:=ho
  rw [this] at ho
  cases ho
 ·intro hn
  have:((decide (i3.1 < ((s.size:Nat):Int)))&&(decide (dF s i3.1≥48))&&(decide (dF s i3.1≤57)))=true:=by
   simp only [Bool.and_eq_true,decide_eq_true_eq]
   exact ⟨⟨hn.1,hn.2.1⟩,hn.2.2⟩
  have hc:((decide (i3.1 < ((s.size:Nat):Int)))&&(decide (dF s i3.1≥48))&&(decide (dF s i3.1≤57)))=false:=hc
  rw [this] at hc
  cases hc
 ·have:=hE.1.at
  simp only [Bool.or_eq_false_iff,decide_eq_false_iff_not] at hc
  exact ⟨by omega,by omega⟩
 ·have:=hE.1.at
  have hb:=hF.b
  simp only [Bool.or_eq_false_iff,decide_eq_false_iff_not] at hc
  exact ⟨by omega,by omega⟩
 ·have:=hE.1.at
  simp only [Bool.or_eq_false_iff,decide_eq_false_iff_not] at hc
  show 0≤bI (b2.1+1)∧bI (b2.1+1)≤(s.size:Int)
  rw [aD (by omega) (by omega)]
  omega
def rZ s:=kk tok mixed Tryz.func98 [sv s] (fun x=>.il [iv x.1,sv x.2.1,bv x.2.2]) true (gV s) (jM s) (Fo s) (fun (x:Int × ByteArray × Bool)=>(s.size≤1000000)→(x=ax s)) (sR s)
def nU (s:ByteArray):Sk (Int × ByteArray × Bool) :=
 .r 1 ((rZ s).c) fun x1 =>
 .br ((!x1.2.2)||(decide (x1.1 < 0)))
 (.fin (0,(⟨#[]⟩:ByteArray),false))
 (.fin (x1.1,x1.2.1,true))
def nA s:=(nU s).val
theorem Uh:∀ x:Int × ByteArray × Bool,(bif (!x.2.2)||(decide (x.1 < 0)) then ((0:Int),(⟨#[]⟩:ByteArray),false) else (x.1,x.2.1,true))=bif (!x.2.2)||(decide (x.1 < 0)) then (0,⟨#[]⟩,false) else x
 | (x1,x2,true)=>rfl
 | (x1,x2,false)=>rfl
theorem vI {s:ByteArray} (hs:s.size≤1000000):nA s=JP s:=by
 have e:jM s=ax s:=sR s hs
 have e2:nA s=bif (!(jM s).2.2)||(decide ((jM s).1 < 0)) then ((0:Int),(⟨#[]⟩:ByteArray),false) else ((jM s).1,(jM s).2.1,true):=rfl
 rw [e2,Uh,e]
 rfl
theorem G3 (s:ByteArray) (hs:s.size≤1000000):(nU s).bO (fun _=>True):=by
 unfold nU
 try simp only [rZ]
 exact sH
def JQ s:=kk tok mixed Tryz.func97 [sv s] (fun x=>.il [iv x.1,sv x.2.1,bv x.2.2]) true (nU s) (nA s) (G3 s)
def gp (s:ByteArray):Sk ((List Int) × ByteArray × Bool) :=
 .r 1 ((JQ s).c) fun x1 =>
 .r 2 (.wh (!x1.2.2) false (.p ((2:Int)≠0))) fun _ =>
 .br ((!x1.2.2)||(decide (x1.1 > (bI (((x1.2.1.size:Nat):Int).tdiv 2)))))
 (.fin ([],(⟨#[]⟩:ByteArray),false))
 (.r 4 (.o [.dU (dw eJ ([]:List Int))]) fun _ =>
 .bind true (fun b2=>RdE x1 b2.1 b2.2)
 (.loop (default:Sum ((List Int) × ByteArray × Bool) (ByteArray × (List Int))) (fun i3=>Wj x1 i3.1 i3.2.1 i3.2.2) (fun i3=>(x1.1 - i3.2.2).toNat) ((x1.2.1,([]:List Int),0):ByteArray × (List Int) × Int)
 (fun (i3:ByteArray × (List Int) × Int)=>⟨[(6,sv i3.1),(8,ow 100002 i3.2.1),(9,iv i3.2.2)],[(100002,cm 3 1 cw i3.2.1)]⟩) fun i3 =>
 .br (decide (i3.2.2 < x1.1))
 (.r 8 ((rZ i3.1).c) fun x4 =>
 .br (!x4.2.2)
 (.fin (.inl (.inl ([],(⟨#[]⟩:ByteArray),false))))
 (.r 11 (.ak (.o [.dU (dw eJ [x4.1])]) (.ak (.o [.dU (fo eJ i3.2.1 [x4.1])]) (.ak (.t (eJ.jz [x4.1])) (.p (jH i3.2.1.length [x4.1].length 8))))) fun _ =>
 .fin (.inr (x4.2.1,i3.2.1++[x4.1],bI (i3.2.2+1)))))
 (.fin (.inl (.inr (i3.1,i3.2.1)))))
 (fun (b2:ByteArray × (List Int))=>⟨[(6,sv b2.1),(8,ow 100001 b2.2)],[(100001,cm 3 1 cw b2.2)]⟩) fun b2 =>
 .fin (b2.2,b2.1,true))
def zH s:=(gp s).val
theorem Bc (s:ByteArray) (hP:s.size≤1000000):(gp s).dj (fun (x:(List Int) × ByteArray × Bool)=>GN s.data.toList x):=by
 unfold gp
 have hs:=hP
 refine fun x1 wo _ _ _ _=>⟨fun hc=>?_,fun hc=>?_⟩
 ·have PA:x1=JP s:=(show x1=nA s from wo).trans (vI hs)
  refine ⟨fun h=>by simp at h,fun m t hm hi ht=>?_⟩
  have h0:=GN.head (x1:=ax s) rfl hs hm ht
  have h1:=h0
  rw [Bool.or_eq_false_iff] at h1
  rw [Ws h1.1] at PA
  rw [PA] at hc
  have h2:((!(ax s).2.2)||decide ((ax s).1 > bI ((((ax s).2.1.size:Nat):Int).tdiv 2)))=false:=by
   rw [Bool.or_eq_false_iff]
   exact ⟨(Bool.or_eq_false_iff.1 h1.1).1,h1.2⟩
  rw [h2] at hc
  cases hc
 have PA:x1=JP s:=(show x1=nA s from wo).trans (vI hs)
 simp only [Bool.or_eq_false_iff,Bool.not_eq_false',decide_eq_false_iff_not] at hc
 obtain ⟨c1,c3⟩:=hc
 obtain ⟨g1,g2⟩:=Ms (s:=s) (PA ▸ c1)
 have wo:x1=ax s:=PA.trans g1
 rw [← wo] at g2
 have hb:=oG (s:=s) (wo ▸ c1)
 rw [← wo] at hb
 have e1:s.data.toList.length=s.size:=(Lib.size_eq s).symm
 refine fun _ _ _=>⟨⟨⟨Int.le_refl 0,rfl,g2,rfl,fun n hn=>by cases hn⟩,fun i hI=>⟨fun cI=>?_,fun Az=>?_⟩⟩,fun b _ hE=>?_⟩
 ·have cI:i.2.2 < x1.1:=by simpa using cI
  have hz:=hI.size hs wo c1
  refine fun x4 PZ k4=>⟨fun hy=>?_,fun hy _ _ _=>hI.next hs wo c1 cI (k4 hz.1) (by simpa using hy)⟩
  refine ⟨fun h=>by simp at h,fun m t hm hi ht=>?_⟩
  have:=hI.goes wo c1 cI hm hi ht
  have PZ:x4=ax i.1:=k4 hz.1
  rw [PZ,this] at hy
  cases hy
 ·have Az:¬ i.2.2 < x1.1:=by simpa using Az
  obtain ⟨a1,a2,a3,a4,a5⟩:=hI
  exact ⟨by show ((i.2.1.length:Nat):Int)=x1.1; omega,a4,a5⟩
 ·obtain ⟨a1,a2,a3⟩:=hE
  refine ⟨fun _=>⟨?_,?_,a3⟩,fun _ _ _ _ _=>rfl⟩
  ·show s.data.toList=iU b.2++b.1.data.toList
   rw [hb.1,a2,← a1]
   simp [iU]
  ·show b.2.length≤1000000
   have h3:=congrArg List.length hb.1
   have h4:=congrArg List.length a2
   have h5:=oB b.2
   simp only [List.length_append] at h3 h4
   omega
theorem zI (s:ByteArray):(fun (x:(List Int) × ByteArray × Bool)=>(s.size≤1000000)→(GN s.data.toList x)) (zH s):=fun hP=>have h:=Sk.cN _ (Bc s hP); h
theorem CF (s:ByteArray) (hs:s.size≤1000000):(gp s).bO (fun _=>True):=by
 unfold gp
 refine ⟨hs,fun x1 wo _=>⟨fun _=>(show (2:Int)≠0 by decide),fun _ _ _=>⟨fun _=>trivial,fun hc=>?_⟩⟩⟩
 have PA:x1=JP s:=(show x1=nA s from wo).trans (vI hs)
 simp only [Bool.or_eq_false_iff,Bool.not_eq_false',decide_eq_false_iff_not] at hc
 obtain ⟨c1,c3⟩:=hc
 obtain ⟨g1,g2⟩:=Ms (s:=s) (PA ▸ c1)
 have wo:x1=ax s:=PA.trans g1
 rw [← wo] at g2
 refine ⟨trivial,fun _ _ _=>⟨⟨⟨Int.le_refl 0,rfl,g2,rfl,fun n hn=>by cases hn⟩,fun i hI=>⟨fun cI=>?_,fun Az=>?_⟩⟩,fun b _ _=>trivial⟩⟩
 ·have cI:i.2.2 < x1.1:=by simpa using cI
  have hz:=hI.size hs wo c1
  refine ⟨hz.1,fun x4 PZ k4=>⟨fun _=>trivial,fun hy=>⟨⟨trivial,trivial,trivial,?_⟩,fun _ _ _=>hI.next hs wo c1 cI (k4 hz.1) (by simpa using hy)⟩⟩⟩
  show jH i.2.1.length [x4.1].length 8
  have:=hz.2
  simp only [jH,maxLen,List.length_cons,List.length_nil]
  omega
 ·have Az:¬ i.2.2 < x1.1:=by simpa using Az
  obtain ⟨a1,a2,a3,a4,a5⟩:=hI
  exact ⟨by show ((i.2.1.length:Nat):Int)=x1.1; omega,a4,a5⟩
def Fp s:=kk tok mixed Tryz.func63 [sv s] (fun x=>.il [lv cw x.1,sv x.2.1,bv x.2.2]) false (gp s) (zH s) (CF s) (fun (x:(List Int) × ByteArray × Bool)=>(s.size≤1000000)→(GN s.data.toList x)) (zI s)
def wI (l:List Int) (i:Int):Sk (Int) :=
 .br (decide (i≥((l.length:Nat):Int)))
 (.fin 0)
 (.r 3 (.p (cM i l.length)) fun _ =>
 .fin (l.getD i.toNat default))
def bU l i:=(wI l i).val
theorem Rm (l:List Int) (i:Int) (h0:0≤i):(wI l i).bO (fun _=>True):=by
 unfold wI
 exact sH
def fw l i:=kk tok mixed Tryz.func64 [lv cw l,iv i] (fun x=>iv x) true (wI l i) (bU l i) (Rm l i)
def wJ (n:Int) (low:Int) (high:Int):Sk (Bool) :=
 .fin ((decide (n≥low))&&(decide (n≤high)))
def nB n low high:=(wJ n low high).val
theorem Ib (n:Int) (low:Int) (high:Int):nB n low high=((decide (n≥low))&&(decide (n≤high))):=rfl
theorem Rn (n:Int) (low:Int) (high:Int):(wJ n low high).bO (fun _=>True):=by
 unfold wJ
 exact DB
def iV n low high:=kk tok mixed Tryz.func65 [iv n,iv low,iv high] (fun x=>bv x) true (wJ n low high) (nB n low high) (u0 (Rn n low high))
end
section
open Go Go.Av
theorem jm {n:Int} (h:aK n):yb (dI n)=true:=decide_eq_true h
theorem sS {l:List Int} {n:Nat} (h:l.length=n):(List.range n).map (fun i=>l.getD i default)=l:=by
 subst h
 refine List.ext_getElem (by simp) (fun i h1 h2=>by simp [List.getD,h2])
theorem JR (k bi ix:Int) (l:List Int):bK k bi ix l=bif ((decide (k < 0))||(decide (k≥5)))||(((l.length:Nat):Int) != (((eW { (default:Body) with kind:=k,bill:=bi,index:=ix }).length:Nat):Int)) then (default,false) else
  bif k == 0 then ({ (default:Body) with kind:=k,bill:=bi,index:=ix,aw:=⟨l.getD 0 default,l.getD 1 default,l.getD 2 default,l.getD 3 default,l.getD 4 default,⟨l.getD 5 default,l.getD 6 default,l.getD 7 default⟩,l.getD 8 default,l.getD 9 default,l.getD 10 default,l.getD 11 default,l.getD 12 default,l.getD 13 default,l.getD 14 default⟩,sign:={ (default:Sign) with flags:=l.getD 15 default } },true)
  else bif k == 1 then ({ (default:Body) with kind:=k,bill:=bi,index:=ix,sign:=⟨l.getD 0 default,l.getD 1 default,l.getD 2 default,l.getD 3 default,l.getD 4 default,l.getD 5 default,l.getD 6 default,l.getD 7 default,l.getD 8 default⟩ },true)
  else bif k == 2 then ({ (default:Body) with kind:=k,bill:=bi,index:=ix,act:=⟨l.getD 0 default,l.getD 1 default,l.getD 2 default,l.getD 3 default,l.getD 4 default,l.getD 5 default,l.getD 6 default,l.getD 7 default,l.getD 8 default⟩ },true)
  else bif k == 3 then ({ (default:Body) with kind:=k,bill:=bi,index:=ix,alter:=⟨l.getD 0 default,l.getD 1 default⟩ },true)
  else ({ (default:Body) with kind:=k,bill:=bi,index:=ix,fact:=⟨l.getD 0 default,l.getD 1 default,l.getD 2 default⟩ },true):=rfl
def Mt (k:Int):Nat:=bif k == 0 then 16 else bif k == 1 then 9 else bif k == 2 then 9 else bif k == 3 then 2 else 3
theorem Fq (b:Body):(ic b).length=Mt b.kind:=by
 unfold ic Mt
 cases b.kind == 0 <;> cases b.kind == 1 <;> cases b.kind == 2 <;> cases b.kind == 3 <;> rfl
theorem Mv {k bi ix:Int} {l:List Int}:(bK k bi ix l).2=true↔(0≤k∧k < 5)∧l.length=Mt k:=by
 have hn:=eh { (default:Body) with kind:=k,bill:=bi,index:=ix }
 dsimp only at hn
 have hl:=Fq { (default:Body) with kind:=k,bill:=bi,index:=ix }
 rw [JR,hn,hl]
 cases hc:(((decide (k < 0))||(decide (k≥5)))||(((l.length:Nat):Int) != ((Mt k:Nat):Int))) with
 | true =>
  simp only [cond_true,Bool.false_eq_true,false_iff]
  simp only [Bool.or_eq_true,decide_eq_true_eq,bne_iff_ne,ne_eq] at hc
  omega
 | false =>
  simp only [Bool.or_eq_false_iff,decide_eq_false_iff_not,bne_eq_false_iff_eq] at hc
  have:(0≤k∧k < 5)∧l.length=Mt k:=by omega
  simp only [this,and_self,iff_true,cond_false]
  cases k == 0 <;> cases k == 1 <;> cases k == 2 <;> cases k == 3 <;> rfl
theorem Ui {k bi ix:Int} {l:List Int} (h:(bK k bi ix l).2=true):(bK k bi ix l).1.kind=k∧(bK k bi ix l).1.bill=bi∧(bK k bi ix l).1.index=ix∧ic (bK k bi ix l).1=l∧((∀ n∈l,aK n)→aK k→aK bi→aK ix→(bK k bi ix l).1.dT):=by
 obtain ⟨hk,hl⟩:=Mv.1 h
 have hn:=eh { (default:Body) with kind:=k,bill:=bi,index:=ix }
 dsimp only at hn
 have hl2:=Fq { (default:Body) with kind:=k,bill:=bi,index:=ix }
 have hc:(((decide (k < 0))||(decide (k≥5)))||(((l.length:Nat):Int) != ((Mt k:Nat):Int)))=false:=by
  simp only [Bool.or_eq_false_iff,decide_eq_false_iff_not,bne_eq_false_iff_eq]
  omega
 rw [JR,hn,hl2,hc]
 have hg:(∀ n∈l,aK n)→∀ j,yb (dI (l.getD j default))=true:=fun hi j=>by
  rw [oX,decide_eq_true_eq]
  by_cases hj:j < l.length
  ·exact hi _ (oD hj default)
  ·have:l.getD j default=0:=by simp [List.getD,hj]
   rw [this]
   decide
 have h0:yb (dI 0)=true:=by decide
 have hd:yb (dI default)=true:=by decide
 unfold Mt at hl
 cases Vc:k == 0 with
 | true =>
  rw [Vc] at hl
  refine ⟨rfl,rfl,rfl,?_,fun hi hk hb hx=>?_⟩
  ·have:=sS (l:=l) (n:=16) hl
   show ic _=l
   unfold ic
   simp only [cond_false,cond_true,Vc]
   exact this
  ·simp only [cond_false,cond_true,Body.dT,Body.cells,dV.cells,fc.cells,Sign.cells,cd.cells,bB.cells,Fact.cells,List.all_append,List.all_cons,List.all_nil,hg hi,jm hk,jm hb,jm hx,Bool.and_true,Bool.true_and]
   rfl
 | false =>
  cases XK:k == 1 with
  | true =>
   rw [Vc,XK] at hl
   refine ⟨rfl,rfl,rfl,?_,fun hi hk hb hx=>?_⟩
   ·have:=sS (l:=l) (n:=9) hl
    show ic _=l
    unfold ic
    simp only [cond_false,cond_true,Vc,XK]
    exact this
   ·simp only [cond_false,cond_true,Body.dT,Body.cells,dV.cells,fc.cells,Sign.cells,cd.cells,bB.cells,Fact.cells,List.all_append,List.all_cons,List.all_nil,hg hi,jm hk,jm hb,jm hx,Bool.and_true,Bool.true_and]
    rfl
  | false =>
   cases h2k:k == 2 with
   | true =>
    rw [Vc,XK,h2k] at hl
    refine ⟨rfl,rfl,rfl,?_,fun hi hk hb hx=>?_⟩
    ·have:=sS (l:=l) (n:=9) hl
     show ic _=l
     unfold ic
     simp only [cond_false,cond_true,Vc,XK,h2k]
     exact this
    ·simp only [cond_false,cond_true,Body.dT,Body.cells,dV.cells,fc.cells,Sign.cells,cd.cells,bB.cells,Fact.cells,List.all_append,List.all_cons,List.all_nil,hg hi,jm hk,jm hb,jm hx,Bool.and_true,Bool.true_and]
     rfl
   | false =>
    cases h3k:k == 3 with
    | true =>
     rw [Vc,XK,h2k,h3k] at hl
     refine ⟨rfl,rfl,rfl,?_,fun hi hk hb hx=>?_⟩
     ·have:=sS (l:=l) (n:=2) hl
      show ic _=l
      unfold ic
      simp only [cond_false,cond_true,Vc,XK,h2k,h3k]
      exact this
     ·simp only [cond_false,cond_true,Body.dT,Body.cells,dV.cells,fc.cells,Sign.cells,cd.cells,bB.cells,Fact.cells,List.all_append,List.all_cons,List.all_nil,hg hi,jm hk,jm hb,jm hx,Bool.and_true,Bool.true_and]
      rfl
    | false =>
     rw [Vc,XK,h2k,h3k] at hl
     refine ⟨rfl,rfl,rfl,?_,fun hi hk hb hx=>?_⟩
     ·have:=sS (l:=l) (n:=3) hl
      show ic _=l
      unfold ic
      simp only [cond_false,Vc,XK,h2k,h3k]
      exact this
     ·simp only [cond_false,Body.dT,Body.cells,dV.cells,fc.cells,Sign.cells,cd.cells,bB.cells,Fact.cells,List.all_append,List.all_cons,List.all_nil,hg hi,jm hk,jm hb,jm hx,Bool.and_true,Bool.true_and]
      rfl
abbrev Mw:ae:=default
theorem JS (s:ByteArray):bV s=bif (((!(az s).2.2)||(!((az s).2.1.toList == (⟨#[]⟩:ByteArray).toList)))||(decide ((((az s).1.length:Nat):Int) < 6))) then (Mw,false) else
  bif (!(bK ((az s).1.getD 3 default) ((az s).1.getD 4 default) ((az s).1.getD 5 default) (dz (az s).1 6 ((az s).1.length - 6))).2)||(!(au ({ reporter:=(az s).1.getD 0 default,no:=(az s).1.getD 1 default,day:=(az s).1.getD 2 default,body:=(bK ((az s).1.getD 3 default) ((az s).1.getD 4 default) ((az s).1.getD 5 default) (dz (az s).1 6 ((az s).1.length - 6))).1 }:ae))) then (Mw,false) else
  (({ reporter:=(az s).1.getD 0 default,no:=(az s).1.getD 1 default,day:=(az s).1.getD 2 default,body:=(bK ((az s).1.getD 3 default) ((az s).1.getD 4 default) ((az s).1.getD 5 default) (dz (az s).1 6 ((az s).1.length - 6))).1 }:ae),true):=by
 unfold bV jI
 simp only [Sk.da,Sk.fR]
 rfl
theorem abq {l:List Int} (h:6≤l.length):l=[l.getD 0 default,l.getD 1 default,l.getD 2 default,l.getD 3 default,l.getD 4 default,l.getD 5 default]++dz l 6 (l.length - 6):=by
 refine List.ext_getElem (by simp [dz]; omega) (fun i h1 h2=>?_)
 by_cases c:i < 6
 ·have:i=0∨i=1∨i=2∨i=3∨i=4∨i=5:=by omega
  rcases this with rfl | rfl | rfl | rfl | rfl | rfl <;> simp [List.getD,h1]
 ·rw [List.getElem_append_right (by simp; omega)]
  simp [dz,List.getD]
  rw [List.getElem?_eq_getElem (by omega)]
  simp
  congr 1
  omega
theorem Zg (a b c d e f:Int) (r:List Int):dz ([a,b,c,d,e,f]++r) 6 (([a,b,c,d,e,f]++r).length - 6)=r:=by
 refine List.ext_getElem (by simp [dz]) (fun i h1 h2=>?_)
 simp only [dz,List.getElem_map,List.getElem_range]
 rw [Nat.add_comm 6 i]
 simp [List.getD,h2]
theorem qE {x:ae} (h:au x=true):0≤x.body.kind∧x.body.kind < 5:=by
 have e:au x=bif (((((!aO x.reporter 200)||(!aO x.no 10000))||(!aO x.day 100001))||(!aO x.body.kind 5))||(!aO x.body.bill 50)) then false else bif !(bZ (Body.cells (bK x.body.kind x.body.bill x.body.index (eW x.body)).1) (Body.cells x.body)) then false else (bif x.body.kind == 0 then (x.body.index == 0)&&(x.body.aw.day == x.day) else bif x.body.kind == 1 then ((decide (x.body.index > 0))&&(decide (x.body.index < 40)))&&(x.body.sign.day == x.day) else bif x.body.kind == 2 then aO x.body.index 100&&(x.body.act.day == x.day) else bif x.body.kind == 3 then aO x.body.index 4 else x.body.index == 0):=rfl
 cases hw:aO x.body.kind 5 with
 | false=>rw [e,hw] at h; simp at h
 | true =>
  rw [nm] at hw
  simp only [Bool.and_eq_true,decide_eq_true_eq] at hw
  omega
theorem Uj (x:ae):6≤(jJ x).length∧(jJ x).getD 0 default=x.reporter∧(jJ x).getD 1 default=x.no∧(jJ x).getD 2 default=x.day∧(jJ x).getD 3 default=x.body.kind∧(jJ x).getD 4 default=x.body.bill∧(jJ x).getD 5 default=x.body.index∧dz (jJ x) 6 ((jJ x).length - 6)=ic x.body :=
 ⟨by simp [jJ],rfl,rfl,rfl,rfl,rfl,rfl,Zg _ _ _ _ _ _ _⟩
theorem Ic {x:ae} (h:x.dT):(bg x).size≤1000:=by
 cases hr:au x with
 | false=>rw [yk hr]; exact Nat.zero_le _
 | true =>
  rw [uh hr]
  have h1:=jL h
  have h2:=jK x
  have hf:∀ (m:List Int),(∀ n∈m,aK n)→(m.flatMap dC).length≤m.length * 21:=by
   intro m
   induction m with
   | nil=>intro _; simp
   | cons a r ih =>
    intro h
    have h1:=sI a (h a (by simp)).1 (h a (by simp)).2
    have h2:=ih (fun n hn=>h n (by simp [hn]))
    simp only [List.flatMap_cons,List.length_append,List.length_cons]
    omega
  have h3:=hf _ h1
  have h4:=sI (jJ x).length (by omega) (by omega)
  show (iU (jJ x)).toArray.size≤1000
  simp only [iU,List.size_toArray,List.length_append]
  omega
theorem Ro {x:ae} (hx:x.dT) (hr:au x=true):az (bg x)=(jJ x,⟨#[]⟩,true):=by
 have hs:=Ic hx
 have hp:=lH (bg x) (by omega)
 have h2:=jK x
 exact GN.eq hp (r:=[]) (by omega) (jL hx) (by rw [List.append_nil]; exact ke hr)
theorem Bd {x:ae} (hx:x.dT) (hr:au x=true):bV (bg x)=(x,true):=by
 obtain ⟨a1,a2,a3,a4,a5,a6,a7,a8⟩:=Uj x
 have tD:(bK x.body.kind x.body.bill x.body.index (ic x.body)).2=true:=Mv.2 ⟨qE hr,Fq _⟩
 have Ck:=yj hr
 rw [JS,Ro hx hr]
 dsimp only
 rw [a2,a3,a4,a5,a6,a7,a8,← Ck,tD]
 have e:(⟨x.reporter,x.no,x.day,x.body⟩:ae)=x:=rfl
 rw [e,hr]
 have hl:decide ((((jJ x).length:Nat):Int) < 6)=false:=by rw [decide_eq_false_iff_not]; omega
 rw [hl]
 simp
theorem Be {s:ByteArray} (hs:s.size≤1000000) {a:ae} (h:bV s=(a,true)):au a=true∧E9 a=s.data.toList∧a.dT∧s.data.toList≠[]:=by
 have hp:=lH s hs
 rw [JS] at h
 cases hc:(((!(az s).2.2)||(!((az s).2.1.toList == (⟨#[]⟩:ByteArray).toList)))||(decide ((((az s).1.length:Nat):Int) < 6))) with
 | true=>rw [hc] at h; simp at h
 | false =>
  rw [hc] at h
  simp only [Bool.or_eq_false_iff,Bool.not_eq_false',decide_eq_false_iff_not] at hc
  obtain ⟨⟨c1,c2⟩,c3⟩:=hc
  obtain ⟨q1,q2,q3⟩:=hp.1 c1
  have c2:(az s).2.1.data.toList=[]:=by
   have:=(beq_iff_eq.1 c2)
   simpa [ByteArray.toList_eq] using this
  generalize (az s).1=l at *
  have hl6:6≤l.length:=by omega
  have hl:=abq hl6
  have Vj:∀ n∈dz l 6 (l.length - 6),aK n:=fun n hn=>q3 n (by rw [hl]; exact List.mem_append_right _ hn)
  generalize dz l 6 (l.length - 6)=r at *
  simp only [cond_false] at h
  cases hb:(bK (l.getD 3 default) (l.getD 4 default) (l.getD 5 default) r).2 with
  | false=>rw [hb] at h; simp at h
  | true =>
   rw [hb] at h
   cases hr:au ({ reporter:=l.getD 0 default,no:=l.getD 1 default,day:=l.getD 2 default,body:=(bK (l.getD 3 default) (l.getD 4 default) (l.getD 5 default) r).1 }:ae) with
   | false=>rw [hr] at h; simp at h
   | true =>
    rw [hr] at h
    simp only [Bool.not_true,Bool.or_self,cond_false,Prod.mk.injEq,and_true] at h
    subst h
    obtain ⟨b1,b2,b3,b4,b5⟩:=Ui hb
    have hg:∀ j,j < 6→aK (l.getD j default):=fun j hj=>q3 _ (oD (by omega) default)
    have adM:jJ ({ reporter:=l.getD 0 default,no:=l.getD 1 default,day:=l.getD 2 default,body:=(bK (l.getD 3 default) (l.getD 4 default) (l.getD 5 default) r).1 }:ae)=l:=by
     unfold jJ
     dsimp only
     rw [b1,b2,b3,b4]
     exact hl.symm
    refine ⟨hr,?_,?_,?_⟩
    ·rw [ke hr,adM,q1,c2,List.append_nil]
    ·have hbI:=b5 Vj (hg 3 (by omega)) (hg 4 (by omega)) (hg 5 (by omega))
     unfold ae.dT ae.cells
     rw [List.all_append,Bool.and_eq_true]
     refine ⟨?_,hbI⟩
     simp only [List.all_cons,List.all_nil,jm (hg 0 (by omega)),jm (hg 1 (by omega)),jm (hg 2 (by omega)),Bool.and_true]
    ·rw [q1]
     intro e
     have:=congrArg List.length e
     have h2:=Md l.length
     simp only [iU,List.length_append,List.length_nil] at this
     omega
theorem Wt {s:ByteArray} (h:(bV s).2=false):(bV s).1=Mw:=by
 rw [JS] at h ⊢
 cases hc:(((!(az s).2.2)||(!((az s).2.1.toList == (⟨#[]⟩:ByteArray).toList)))||(decide ((((az s).1.length:Nat):Int) < 6))) with
 | true=>rfl
 | false =>
  rw [hc] at h
  simp only [cond_false] at h ⊢
  generalize (bK ((az s).1.getD 3 default) ((az s).1.getD 4 default) ((az s).1.getD 5 default) (dz (az s).1 6 ((az s).1.length - 6)))=b at *
  cases hd:((!b.2)||(!(au ({ reporter:=(az s).1.getD 0 default,no:=(az s).1.getD 1 default,day:=(az s).1.getD 2 default,body:=b.1 }:ae)))) with
  | true=>rfl
  | false=>rw [hd] at h; simp at h
theorem Fs:dS []=[]:=by
 have:=gA (l:=[]) (fun s hs=>by cases hs)
 exact List.perm_nil.1 this
theorem OW {x:ae} (h:x.dT):dS [x]=[x]:=by
 have:=gA (l:=[x]) (fun s hs=>by rw [List.mem_singleton.1 hs]; exact h)
 exact List.perm_singleton.1 this
theorem P5 {L:List ae} {r:Int} (h:∀ c,yJ L r c≤1):mU L r=false:=by
 unfold mU
 exact @decide_eq_false _ (Classical.propDecidable _) (fun ⟨c,hc⟩=>by have:=h c; omega)
theorem Uk {L:List ae} {r c:Int} (h:2≤yJ L r c):mU L r=true:=by
 unfold mU
 exact @decide_eq_true _ (Classical.propDecidable _) ⟨c,h⟩
theorem sU (x:ae) (L:List ae) (a c:Int):yJ (x :: L) a c=yJ L a c+bif x.reporter == a&&x.no == c then 1 else 0:=by
 unfold yJ
 rw [List.countP_cons]
 cases (x.reporter == a&&x.no == c) <;> rfl
theorem Mx:aB sL 9=[ay 0 1 1]:=by
 rw [gm (by decide) Ba]
 unfold vF
 have e:aY sL 9=[ay 0 1 1]:=rfl
 rw [e]
 have h:mU [ay 0 1 1] (ay 0 1 1).reporter=false:=P5 fun c=>by
  rw [sU]
  show 0+_≤1
  cases ((ay 0 1 1).reporter == (ay 0 1 1).reporter&&(ay 0 1 1).no == c) <;> decide
 simp only [List.filter_cons,h,Bool.not_false,if_true,List.filter_nil]
 exact OW (lX _ _ _ rfl)
theorem JT:(aB sL 10).length=2:=by
 rw [gm (by decide) Ba]
 unfold vF
 have e:aY sL 10=[ay 0 1 1,ay 2 1 1]:=rfl
 rw [e]
 have h:∀ r,mU [ay 0 1 1,ay 2 1 1] r=false:=fun r=>P5 fun c=>by
  rw [sU,sU]
  show 0+(bif ((2:Int) == r)&&((1:Int) == c) then 1 else 0)+(bif ((0:Int) == r)&&((1:Int) == c) then 1 else 0)≤1
  by_cases h0:(0:Int)=r
  ·have h2:((2:Int) == r)=false:=by rw [← h0]; rfl
   rw [h2]
   cases (((0:Int) == r)&&((1:Int) == c)) <;> simp
  ·have h2:((0:Int) == r)=false:=by simpa using h0
   rw [h2]
   cases (((2:Int) == r)&&((1:Int) == c)) <;> simp
 simp only [List.filter_cons,h,Bool.not_false,if_true,List.filter_nil]
 have hI:∀ s,s∈[ay 0 1 1,ay 2 1 1]→s.dT:=fun s hs=>by
  simp only [List.mem_cons,List.not_mem_nil,or_false] at hs
  rcases hs with rfl | rfl <;> exact lX _ _ _ rfl
 exact (gA hI).length_eq
theorem My:(aB sL 8).length=0:=by
 rw [gm (by decide) Ba]
 unfold vF
 have e:aY sL 8=[]:=rfl
 rw [e]
 show (dS []).length=0
 rw [Fs]
 rfl
theorem Mz:(aB sT 9).length=0:=by
 rw [gm (by decide) Ue]
 unfold vF
 have e:aY sT 9=[ay 0 1 1,ay 0 1 0]:=rfl
 rw [e]
 have h:mU [ay 0 1 1,ay 0 1 0] 0=true:=Uk (c:=1) (by decide)
 have h1:mU [ay 0 1 1,ay 0 1 0] (ay 0 1 1).reporter=true:=h
 have h2:mU [ay 0 1 1,ay 0 1 0] (ay 0 1 0).reporter=true:=h
 simp only [List.filter_cons,h1,h2,Bool.not_true,Bool.false_eq_true,if_false,List.filter_nil]
 rw [Fs]
 rfl
theorem MA:bJ sT 9=[0]:=by
 have e:aY sT 9=[ay 0 1 1,ay 0 1 0]:=rfl
 have hq:fY (aY sT 9) [(0,true)]:=by
  rw [e]
  refine ⟨by simp,by simp,fun r=>?_⟩
  constructor
  ·intro hr
   simp at hr
   subst hr
   exact ⟨1,by decide⟩
  ·rintro ⟨c,hc⟩
   rw [sU,sU] at hc
   have hc:2≤0+(bif ((0:Int) == r)&&((1:Int) == c) then 1 else 0)+(bif ((0:Int) == r)&&((1:Int) == c) then 1 else 0):=hc
   cases h0:((0:Int) == r) with
   | true=>simp at h0; simp [h0]
   | false=>rw [h0] at hc; simp at hc
 rw [oY (by decide) hq]
 simp [jo]
theorem MB:bJ sL 9=[]:=by
 have e:aY sL 9=[ay 0 1 1]:=rfl
 have hq:fY (aY sL 9) []:=by
  rw [e]
  refine ⟨by simp,by simp,fun r=>?_⟩
  constructor
  ·intro hr
   cases hr
  ·rintro ⟨c,hc⟩
   rw [sU] at hc
   have hc:2≤0+(bif ((0:Int) == r)&&((1:Int) == c) then 1 else 0):=hc
   cases h0:(((0:Int) == r)&&((1:Int) == c)) <;> rw [h0] at hc <;> simp at hc
 rw [oY (by decide) hq]
 simp [jo]
theorem Rp:bV (bg (ay 0 1 1))=(ay 0 1 1,true):=Bd (lX _ _ _ rfl) rfl
theorem Ul:(bV (bg (ay 0 1 1)++(⟨#[48,59]⟩:ByteArray))).2=false:=by
 have hA:(ay 0 1 1).dT:=lX _ _ _ rfl
 have hr:au (ay 0 1 1)=true:=rfl
 cases h:(bV (bg (ay 0 1 1)++(⟨#[48,59]⟩:ByteArray))).2 with
 | false=>rfl
 | true =>
  have hs:(bg (ay 0 1 1)++(⟨#[48,59]⟩:ByteArray)).size≤1000000:=by rw [wD]; exact (by decide:(22:Nat)≤1000000)
  obtain ⟨h1,h2,h3,-⟩:=Be hs (a:=(bV (bg (ay 0 1 1)++(⟨#[48,59]⟩:ByteArray))).1) (by rw [← h])
  generalize (bV (bg (ay 0 1 1)++(⟨#[48,59]⟩:ByteArray))).1=a at *
  have e:(bg (ay 0 1 1)++(⟨#[48,59]⟩:ByteArray)).data.toList=E9 (ay 0 1 1)++[48,59]:=by simp [E9]
  rw [e,ke h1,ke hr] at h2
  have l1:=jK a
  have l2:=jK (ay 0 1 1)
  have:=(A0 (t:=[]) (u:=[48,59]) (by omega) (by omega) (jL h3) (jL hA) (by rw [List.append_nil]; exact h2)).2
  cases this
theorem Rq:vG=true:=by
 have e:vG=(((((((((((gn (aB sL 9) [ay 0 1 1])&&((((aB sL 10).length:Nat):Int) == 2))&&((((aB sL 8).length:Nat):Int) == 0))&&((((((aB sT 9).length:Nat):Int) == 0)&&sP (bJ sT 9) [0])&&((((bJ sL 9).length:Nat):Int) == 0)))&&(bV (bg (ay 0 1 1))).2)&&(bZ (ae.cells (bV (bg (ay 0 1 1))).1) (ae.cells (ay 0 1 1))))&&(!(bV (bg (ay 0 1 1)++(⟨#[48,59]⟩:ByteArray))).2))&&au (ay 0 1 1))&&((bg (ay 0 1 1)).toList == (⟨#[57,59,48,59,49,59,53,59,52,59,51,59,48,59,48,59,49,59,49,59]⟩:ByteArray).toList))&&de (ay 0 1 1) (ay 0 1 0))&&(!de (ay 0 1 1) (ay 1 1 1))):=by
  unfold vG oJ
  simp only [Sk.fR,Sk.TU]
  rfl
 rw [e,Mx,JT,My,Mz,MA,MB,Ul,Rp,wD]
 have c1:gn [ay 0 1 1] [ay 0 1 1]=true:=rfl
 have c2:sP [0] [0]=true:=rfl
 have c3:bZ (ae.cells (ay 0 1 1)) (ae.cells (ay 0 1 1))=true:=rfl
 have c4:au (ay 0 1 1)=true:=rfl
 have c5:de (ay 0 1 1) (ay 0 1 0)=true:=rfl
 have c6:de (ay 0 1 1) (ay 1 1 1)=false:=rfl
 simp only [c1,c2,c3,c4,c5,c6,List.length_nil,Int.cast_ofNat_Int,beq_self_eq_true,Bool.and_self,Bool.not_false]
theorem within_iff (i n:Int):aO i n=true↔0≤i∧i < n:=by
 have e:aO i n=((decide (i≥0))&&(decide (i < n))):=rfl
 rw [e,Bool.and_eq_true,decide_eq_true_eq,decide_eq_true_eq]
theorem Um (x:ae):au x=bif (((((!aO x.reporter 200)||(!aO x.no 10000))||(!aO x.day 100001))||(!aO x.body.kind 5))||(!aO x.body.bill 50)) then false else bif !(bZ (Body.cells (bK x.body.kind x.body.bill x.body.index (ic x.body)).1) (Body.cells x.body)) then false else (bif x.body.kind == 0 then (x.body.index == 0)&&(x.body.aw.day == x.day) else bif x.body.kind == 1 then ((decide (x.body.index > 0))&&(decide (x.body.index < 40)))&&(x.body.sign.day == x.day) else bif x.body.kind == 2 then aO x.body.index 100&&(x.body.act.day == x.day) else bif x.body.kind == 3 then aO x.body.index 4 else x.body.index == 0):=by
 have hn:=eh x.body
 dsimp only at hn
 rw [← hn]
 rfl
def Ft (x:ae):Prop:=(0≤x.reporter∧x.reporter < 200)∧(0≤x.no∧x.no < 10000)∧(0≤x.day∧x.day < 100001)∧(0≤x.body.bill∧x.body.bill < 50) ∧
 ((x.body.kind=0∧x.body = { (default:Body) with kind:=0,bill:=x.body.bill,index:=0,aw:=x.body.aw,sign:={ (default:Sign) with flags:=x.body.sign.flags } }∧x.body.aw.day=x.day) ∨
  (x.body.kind=1∧x.body = { (default:Body) with kind:=1,bill:=x.body.bill,index:=x.body.index,sign:=x.body.sign }∧(0 < x.body.index∧x.body.index < 40)∧x.body.sign.day=x.day) ∨
  (x.body.kind=2∧x.body = { (default:Body) with kind:=2,bill:=x.body.bill,index:=x.body.index,act:=x.body.act }∧(0≤x.body.index∧x.body.index < 100)∧x.body.act.day=x.day) ∨
  (x.body.kind=3∧x.body = { (default:Body) with kind:=3,bill:=x.body.bill,index:=x.body.index,alter:=x.body.alter }∧0≤x.body.index∧x.body.index < 4) ∨
  (x.body.kind=4∧x.body = { (default:Body) with kind:=4,bill:=x.body.bill,index:=0,fact:=x.body.fact }))
theorem B2 {c y:Bool}:((bif c then false else y)=true)↔(c=false∧y=true):=by cases c <;> simp
theorem Zh {a b:Body}:(!(bZ (Body.cells a) (Body.cells b)))=false↔a=b:=by
 rw [Bool.not_eq_false']
 exact ⟨fun h=>Body.lV (kb rfl rfl h),fun h=>by subst h; exact kT rfl⟩
theorem MC {B:Body} (hk:0≤B.kind∧B.kind < 5):(bK B.kind B.bill B.index (ic B)).1=bif B.kind == 0 then { (default:Body) with kind:=B.kind,bill:=B.bill,index:=B.index,aw:=B.aw,sign:={ (default:Sign) with flags:=B.sign.flags } } else bif B.kind == 1 then { (default:Body) with kind:=B.kind,bill:=B.bill,index:=B.index,sign:=B.sign } else bif B.kind == 2 then { (default:Body) with kind:=B.kind,bill:=B.bill,index:=B.index,act:=B.act } else bif B.kind == 3 then { (default:Body) with kind:=B.kind,bill:=B.bill,index:=B.index,alter:=B.alter } else { (default:Body) with kind:=B.kind,bill:=B.bill,index:=B.index,fact:=B.fact }:=by
 have hn:=eh { (default:Body) with kind:=B.kind,bill:=B.bill,index:=B.index }
 dsimp only at hn
 have hl:=Fq { (default:Body) with kind:=B.kind,bill:=B.bill,index:=B.index }
 have hc:(((decide (B.kind < 0))||(decide (B.kind≥5)))||((((ic B).length:Nat):Int) != ((Mt B.kind:Nat):Int)))=false:=by
  rw [Fq,bne_self_eq_false,Bool.or_false,Bool.or_eq_false_iff,decide_eq_false_iff_not,decide_eq_false_iff_not]
  omega
 rw [JR,hn,hl]
 rw [hc,cond_false]
 unfold ic
 cases B.kind == 0 <;> cases B.kind == 1 <;> cases B.kind == 2 <;> cases B.kind == 3 <;> rfl
theorem wK (x:ae):au x=true↔Ft x:=by
 rw [Um,B2,B2,Zh]
 simp only [Bool.or_eq_false_iff,Bool.not_eq_false',within_iff]
 unfold Ft
 constructor
 ·rintro ⟨⟨⟨⟨⟨h1,h2⟩,h3⟩,h4⟩,h5⟩,hb,hf⟩
  rw [MC h4] at hb
  refine ⟨h1,h2,h3,h5,?_⟩
  have h6:x.body.kind=0∨x.body.kind=1∨x.body.kind=2∨x.body.kind=3∨x.body.kind=4:=by omega
  rcases h6 with k | k | k | k | k <;> rw [k] at hb hf
  ·obtain ⟨f1,f2⟩:x.body.index=0∧x.body.aw.day=x.day:=by simpa using hf
   refine .inl ⟨k,?_,f2⟩
   rw [f1] at hb
   exact hb.symm
  ·have hf:(decide (x.body.index > 0)&&decide (x.body.index < 40)&&(x.body.sign.day == x.day))=true:=hf
   simp only [Bool.and_eq_true,decide_eq_true_eq,beq_iff_eq] at hf
   exact .inr (.inl ⟨k,hb.symm,⟨hf.1.1,hf.1.2⟩,hf.2⟩)
  ·have hf:(aO x.body.index 100&&(x.body.act.day == x.day))=true:=hf
   simp only [Bool.and_eq_true,within_iff,beq_iff_eq] at hf
   exact .inr (.inr (.inl ⟨k,hb.symm,hf.1,hf.2⟩))
  ·have hf:aO x.body.index 4=true:=hf
   exact .inr (.inr (.inr (.inl ⟨k,hb.symm,(within_iff _ _).1 hf⟩)))
  ·have hf:(x.body.index == 0)=true:=hf
   have f1:x.body.index=0:=by simpa using hf
   rw [f1] at hb
   exact .inr (.inr (.inr (.inr ⟨k,hb.symm⟩)))
 ·rintro ⟨h1,h2,h3,h5,h⟩
  rcases h with ⟨k,hb,f2⟩ | ⟨k,hb,f1,f2⟩ | ⟨k,hb,f1,f2⟩ | ⟨k,hb,f1⟩ | ⟨k,hb⟩
  all_goals refine ⟨⟨⟨⟨⟨h1,h2⟩,h3⟩,by omega⟩,h5⟩,?_,?_⟩
  all_goals first | rw [MC (by omega)] | skip
  all_goals rw [k]
  ·have f1:x.body.index=0:=by rw [hb]
   rw [f1]
   exact hb.symm
  ·have f1:x.body.index=0:=by rw [hb]
   simp [f1,f2]
  ·exact hb.symm
  ·show (decide (x.body.index > 0)&&decide (x.body.index < 40)&&(x.body.sign.day == x.day))=true
   simp only [Bool.and_eq_true,decide_eq_true_eq,beq_iff_eq]
   exact ⟨f1,f2⟩
  ·exact hb.symm
  ·show (aO x.body.index 100&&(x.body.act.day == x.day))=true
   simp only [Bool.and_eq_true,within_iff,beq_iff_eq]
   exact ⟨f1,f2⟩
  ·exact hb.symm
  ·show aO x.body.index 4=true
   exact (within_iff _ _).2 f1
  ·have f1:x.body.index=0:=by rw [hb]
   rw [f1]
   exact hb.symm
  ·have f1:x.body.index=0:=by rw [hb]
   show (x.body.index == 0)=true
   simp [f1]
def kj (x_:ae):Sk (Bool) :=
 .r 2 (.dep ((iV x_.reporter 0 199).c) fun x1=>.dep (.wh (!x1) false ((iV x_.no 0 9999).c)) fun x2=>.dep (.wh ((!x1)||(!x2)) false ((iV x_.day 0 100000).c)) fun x3=>.wh (((!x1)||(!x2))||(!x3)) false ((iV x_.body.bill 0 49).c)) fun p8 =>
 .br ((((!p8.1)||(!p8.2.1))||(!p8.2.2.1))||(!p8.2.2.2))
 (.fin false)
 (.br (((((x_.body.kind != 0)&&(!(bZ (dV.cells x_.body.aw) (dV.cells ({ cD:=0,cL:=0,cE:=0,sum:=0,bh:=0,bp:=({ kind:=0,n:=0,unit:=0 }:fc),day:=0,bn:=0,tE:=0,need:=0,iR:=0,flags:=0,parts:=0 }:dV)))))||((x_.body.kind != 2)&&(!((x_.body.act.kind == 0)&&((x_.body.act.fu == 0)&&((x_.body.act.cH == 0)&&((x_.body.act.part == 0)&&((x_.body.act.at_ == 0)&&((x_.body.act.sum == 0)&&((x_.body.act.day == 0)&&((x_.body.act.bn == 0)&&((x_.body.act.form == 0)&&true))))))))))))||((x_.body.kind != 3)&&(!((x_.body.alter.at_ == 0)&&((x_.body.alter.sum == 0)&&true)))))||((x_.body.kind != 4)&&(!((x_.body.fact.kind == 0)&&((x_.body.fact.at_ == 0)&&((x_.body.fact.n == 0)&&true))))))
 (.fin false)
 (.br (x_.body.kind == 0)
 (.fin (((x_.body.index == 0)&&((x_.body.sign.kind == 0)&&((x_.body.sign.part == 0)&&((x_.body.sign.fu == 0)&&((x_.body.sign.for_ == 0)&&((x_.body.sign.cH == 0)&&((x_.body.sign.sum == 0)&&((x_.body.sign.day == 0)&&((x_.body.sign.bn == 0)&&((x_.body.sign.flags == x_.body.sign.flags)&&true))))))))))&&(x_.body.aw.day == x_.day)))
 (.br (x_.body.kind == 1)
 (.r 9 ((iV x_.body.index 1 39).c) fun x5 =>
 .fin (x5&&(x_.body.sign.day == x_.day)))
 (.br (!((x_.body.sign.kind == 0)&&((x_.body.sign.part == 0)&&((x_.body.sign.fu == 0)&&((x_.body.sign.for_ == 0)&&((x_.body.sign.cH == 0)&&((x_.body.sign.sum == 0)&&((x_.body.sign.day == 0)&&((x_.body.sign.bn == 0)&&((x_.body.sign.flags == 0)&&true))))))))))
 (.fin false)
 (.br (x_.body.kind == 2)
 (.r 13 ((iV x_.body.index 0 99).c) fun x6 =>
 .fin (x6&&(x_.body.act.day == x_.day)))
 (.br (x_.body.kind == 3)
 (.r 15 ((iV x_.body.index 0 3).c) fun x7 =>
 .fin x7)
 (.fin ((x_.body.kind == 4)&&(x_.body.index == 0)))))))))
def gq x_:=(kj x_).val
theorem iW (i a b:Int):nB i a b=true↔a≤i∧i≤b:=by
 have e:nB i a b=((decide (i≥a))&&(decide (i≤b))):=rfl
 rw [e,Bool.and_eq_true,decide_eq_true_eq,decide_eq_true_eq]
theorem Rs {x:ae} (h:Ft x):gq x=true:=by
 obtain ⟨rep,no,day,bo⟩:=x
 obtain ⟨h1,h2,h3,h5,h⟩:=h
 simp only at h1 h2 h3 h5 h
 have i1:nB rep 0 199=true:=(iW _ _ _).2 (by omega)
 have i2:nB no 0 9999=true:=(iW _ _ _).2 (by omega)
 have i3:nB day 0 100000=true:=(iW _ _ _).2 (by omega)
 have i4:nB bo.bill 0 49=true:=(iW _ _ _).2 (by omega)
 unfold gq kj
 simp only [Sk.fR,Sk.da,Sk.cg,iM.Cq,kk,kp,iV,kk,kp,bw.dep,bw.wh,i1,i2,i3,i4,Bool.not_true,Bool.or_false,cond_false]
 rcases h with ⟨k,hb,f2⟩ | ⟨k,hb,f1,f2⟩ | ⟨k,hb,f1,f2⟩ | ⟨k,hb,f1⟩ | ⟨k,hb⟩
 ·obtain ⟨b,p,fl,rfl⟩:∃ b p fl,bo=({ (default:Body) with kind:=0,bill:=b,index:=0,aw:=p,sign:={ (default:Sign) with flags:=fl } }:Body):=⟨_,_,_,hb⟩
  have f2:p.day=day:=f2
  subst f2
  simp
  decide
 ·obtain ⟨b,ix,s,rfl⟩:∃ b ix s,bo=({ (default:Body) with kind:=1,bill:=b,index:=ix,sign:=s }:Body):=⟨_,_,_,hb⟩
  have f2:s.day=day:=f2
  have i5:nB ix 1 39=true:=(iW _ _ _).2 (by have f1:0 < ix∧ix < 40:=f1; omega)
  subst f2
  simp [i5]
  decide
 ·obtain ⟨b,ix,s,rfl⟩:∃ b ix s,bo=({ (default:Body) with kind:=2,bill:=b,index:=ix,act:=s }:Body):=⟨_,_,_,hb⟩
  have f2:s.day=day:=f2
  have i5:nB ix 0 99=true:=(iW _ _ _).2 (by have f1:0≤ix∧ix < 100:=f1; omega)
  subst f2
  simp [i5]
  decide
 ·obtain ⟨b,ix,s,rfl⟩:∃ b ix s,bo=({ (default:Body) with kind:=3,bill:=b,index:=ix,alter:=s }:Body):=⟨_,_,_,hb⟩
  have i5:nB ix 0 3=true:=(iW _ _ _).2 (by have f1:0≤ix∧ix < 4:=f1; omega)
  simp [i5]
  decide
 ·obtain ⟨b,s,rfl⟩:∃ b s,bo=({ (default:Body) with kind:=4,bill:=b,index:=0,fact:=s }:Body):=⟨_,_,hb⟩
  simp
  decide
theorem abr {p:dV} (h:bZ (dV.cells p) (dV.cells ({ cD:=0,cL:=0,cE:=0,sum:=0,bh:=0,bp:=({ kind:=0,n:=0,unit:=0 }:fc),day:=0,bn:=0,tE:=0,need:=0,iR:=0,flags:=0,parts:=0 }:dV))=true):p=default:=by
 have:=kb rfl rfl h
 have e:Body.cells { (default:Body) with aw:=p }=Body.cells default:=by
  unfold Body.cells
  simp only
  rw [this]
  rfl
 exact congrArg Body.aw (Body.lV e)
theorem Rt {x:ae} (h:gq x=true):Ft x:=by
 obtain ⟨rep,no,day,bo⟩:=x
 unfold gq kj at h
 simp only [Sk.fR,Sk.da,Sk.cg,iM.Cq,kk,kp,iV,kk,kp,bw.dep,bw.wh] at h
 rw [B2,B2] at h
 obtain ⟨h1,h2,h⟩:=h
 simp only [Bool.or_eq_false_iff,Bool.not_eq_false',iW] at h1
 obtain ⟨k,b,ix,p,s,a,al,fa⟩:=bo
 simp only at h1 h2 h
 have hk:k=0∨k=1∨k=2∨k=3∨k=4∨(k≠0∧k≠1∧k≠2∧k≠3∧k≠4):=by omega
 simp only [Bool.or_eq_false_iff,Bool.and_eq_false_iff,Bool.not_eq_false'] at h2
 unfold Ft
 simp only
 refine ⟨by omega,by omega,by omega,by omega,?_⟩
 obtain ⟨⟨⟨q1,q2⟩,q3⟩,q4⟩:=h2
 have r1:k≠0→p=default:=fun hk=>by
  rcases q1 with q | q
  ·simp at q; exact absurd q hk
  ·exact abr q
 have r2:k≠2→a=default:=fun hk=>by
  rcases q2 with q | q
  ·simp at q; exact absurd q hk
  ·obtain ⟨a1,a2,a3,a4,a5,a6,a7,a8,a9⟩:=a
   simp at q
   obtain ⟨rfl,rfl,rfl,rfl,rfl,rfl,rfl,rfl,rfl⟩:=q
   rfl
 have r3:k≠3→al=default:=fun hk=>by
  rcases q3 with q | q
  ·simp at q; exact absurd q hk
  ·obtain ⟨a1,a2⟩:=al
   simp at q
   obtain ⟨rfl,rfl⟩:=q
   rfl
 have r4:k≠4→fa=default:=fun hk=>by
  rcases q4 with q | q
  ·simp at q; exact absurd q hk
  ·obtain ⟨a1,a2,a3⟩:=fa
   simp at q
   obtain ⟨rfl,rfl,rfl⟩:=q
   rfl
 have sz:((s.kind == 0)&&((s.part == 0)&&((s.fu == 0)&&((s.for_ == 0)&&((s.cH == 0)&&((s.sum == 0)&&((s.day == 0)&&((s.bn == 0)&&((s.flags == 0)&&true)))))))))=true→s=default:=fun q=>by
  obtain ⟨a1,a2,a3,a4,a5,a6,a7,a8,a9⟩:=s
  simp at q
  obtain ⟨rfl,rfl,rfl,rfl,rfl,rfl,rfl,rfl,rfl⟩:=q
  rfl
 rcases hk with rfl | rfl | rfl | rfl | rfl | hk
 ·left
  rw [r2 (by decide),r3 (by decide),r4 (by decide)]
  simp at h
  obtain ⟨⟨rfl,hs⟩,hd⟩:=h
  obtain ⟨a1,a2,a3,a4,a5,a6,a7,a8,a9⟩:=s
  simp at hs
  obtain ⟨rfl,rfl,rfl,rfl,rfl,rfl,rfl,rfl⟩:=hs
  exact ⟨rfl,rfl,hd⟩
 ·right; left
  rw [r1 (by decide),r2 (by decide),r3 (by decide),r4 (by decide)]
  simp [iW] at h
  exact ⟨rfl,rfl,by omega,h.2⟩
 ·right; right; left
  simp only [show ((2:Int) == 0)=false from rfl,show ((2:Int) == 1)=false from rfl,show ((2:Int) == 2)=true from rfl,cond_false,cond_true] at h
  rw [B2] at h
  obtain ⟨hs,h⟩:=h
  rw [Bool.not_eq_false'] at hs
  rw [Bool.and_eq_true,iW,beq_iff_eq] at h
  rw [r1 (by decide),r3 (by decide),r4 (by decide),sz hs]
  exact ⟨rfl,rfl,by omega,h.2⟩
 ·right; right; right; left
  simp only [show ((3:Int) == 0)=false from rfl,show ((3:Int) == 1)=false from rfl,show ((3:Int) == 2)=false from rfl,show ((3:Int) == 3)=true from rfl,cond_false,cond_true] at h
  rw [B2] at h
  obtain ⟨hs,h⟩:=h
  rw [Bool.not_eq_false'] at hs
  rw [iW] at h
  rw [r1 (by decide),r2 (by decide),r4 (by decide),sz hs]
  exact ⟨rfl,rfl,by omega,by omega⟩
 ·right; right; right; right
  simp only [show ((4:Int) == 0)=false from rfl,show ((4:Int) == 1)=false from rfl,show ((4:Int) == 2)=false from rfl,show ((4:Int) == 3)=false from rfl,show ((4:Int) == 4)=true from rfl,cond_false,Bool.true_and] at h
  rw [B2] at h
  obtain ⟨hs,h⟩:=h
  rw [Bool.not_eq_false'] at hs
  rw [beq_iff_eq] at h
  rw [r1 (by decide),r2 (by decide),r3 (by decide),sz hs,h]
  exact ⟨rfl,rfl⟩
 ·exfalso
  obtain ⟨k0,k1,k2,k3,k4⟩:=hk
  simp only [beq_eq_false_iff_ne.2 k0,beq_eq_false_iff_ne.2 k1,beq_eq_false_iff_ne.2 k2,beq_eq_false_iff_ne.2 k3,beq_eq_false_iff_ne.2 k4,cond_false,Bool.false_and] at h
  rw [B2] at h
  exact Bool.false_ne_true h.2
theorem nC (x:ae):gq x=au x:=by
 rw [Bool.eq_iff_iff,wK]
 exact ⟨Rt,Rs⟩
theorem JU (x_:ae):(kj x_).bO (fun _=>True):=by
 unfold kj
 try simp only [iV,Ib]
 exact AQ
def jN x_:=kk tok mixed Tryz.func23 [av x_.cells] (fun x=>bv x) true (kj x_) (gq x_) (u0 (JU x_))
def jO (x_:ae):Sk ((List Int)):=let aC:=([x_.reporter,x_.no,x_.day,x_.body.kind,x_.body.bill,x_.body.index]++[x_.body.aw.cD,x_.body.aw.cL,x_.body.aw.cE,x_.body.aw.sum,x_.body.aw.bh,x_.body.aw.bp.kind,x_.body.aw.bp.n,x_.body.aw.bp.unit]);
 .r 2 (.o [.dU (dw eJ [x_.reporter,x_.no,x_.day,x_.body.kind,x_.body.bill,x_.body.index])]) fun _ =>
 .bind false (fun b1=>b1.length≤30)
 (.br (x_.body.kind == 0)
 (.r 5 (.ak (.o [.dU (dw eJ [x_.body.aw.cD,x_.body.aw.cL,x_.body.aw.cE,x_.body.aw.sum,x_.body.aw.bh,x_.body.aw.bp.kind,x_.body.aw.bp.n,x_.body.aw.bp.unit])]) (.ak (.o [.dU (fo eJ [x_.reporter,x_.no,x_.day,x_.body.kind,x_.body.bill,x_.body.index] [x_.body.aw.cD,x_.body.aw.cL,x_.body.aw.cE,x_.body.aw.sum,x_.body.aw.bh,x_.body.aw.bp.kind,x_.body.aw.bp.n,x_.body.aw.bp.unit])]) (.ak (.t (eJ.jz [x_.body.aw.cD,x_.body.aw.cL,x_.body.aw.cE,x_.body.aw.sum,x_.body.aw.bh,x_.body.aw.bp.kind,x_.body.aw.bp.n,x_.body.aw.bp.unit])) (.p (jH ([x_.reporter,x_.no,x_.day,x_.body.kind,x_.body.bill,x_.body.index].length) [x_.body.aw.cD,x_.body.aw.cL,x_.body.aw.cE,x_.body.aw.sum,x_.body.aw.bh,x_.body.aw.bp.kind,x_.body.aw.bp.n,x_.body.aw.bp.unit].length 8))))) fun _ =>
 .r 6 (.ak (.o [.dU (dw eJ [x_.body.aw.day,x_.body.aw.bn,x_.body.aw.tE,x_.body.aw.need,x_.body.aw.iR,x_.body.aw.flags,x_.body.aw.parts,x_.body.sign.flags])]) (.ak (.o [.dU (fo eJ aC [x_.body.aw.day,x_.body.aw.bn,x_.body.aw.tE,x_.body.aw.need,x_.body.aw.iR,x_.body.aw.flags,x_.body.aw.parts,x_.body.sign.flags])]) (.ak (.t (eJ.jz [x_.body.aw.day,x_.body.aw.bn,x_.body.aw.tE,x_.body.aw.need,x_.body.aw.iR,x_.body.aw.flags,x_.body.aw.parts,x_.body.sign.flags])) (.p (jH (aC.length) [x_.body.aw.day,x_.body.aw.bn,x_.body.aw.tE,x_.body.aw.need,x_.body.aw.iR,x_.body.aw.flags,x_.body.aw.parts,x_.body.sign.flags].length 8))))) fun _ =>
 .fin (.inr (aC++[x_.body.aw.day,x_.body.aw.bn,x_.body.aw.tE,x_.body.aw.need,x_.body.aw.iR,x_.body.aw.flags,x_.body.aw.parts,x_.body.sign.flags])))
 (.fin (.inr [x_.reporter,x_.no,x_.day,x_.body.kind,x_.body.bill,x_.body.index])))
 (fun (b1:(List Int))=>⟨[(4,ow 100000 b1)],[(100000,cm 3 1 cw b1)]⟩) fun b1 =>
 .bind false (fun b2=>b2.length≤40)
 (.br (x_.body.kind == 1)
 (.r 9 (.ak (.o [.dU (dw eJ [x_.body.sign.kind,x_.body.sign.part,x_.body.sign.fu,x_.body.sign.for_,x_.body.sign.cH,x_.body.sign.sum,x_.body.sign.day,x_.body.sign.bn,x_.body.sign.flags])]) (.ak (.o [.dU (fo eJ b1 [x_.body.sign.kind,x_.body.sign.part,x_.body.sign.fu,x_.body.sign.for_,x_.body.sign.cH,x_.body.sign.sum,x_.body.sign.day,x_.body.sign.bn,x_.body.sign.flags])]) (.ak (.t (eJ.jz [x_.body.sign.kind,x_.body.sign.part,x_.body.sign.fu,x_.body.sign.for_,x_.body.sign.cH,x_.body.sign.sum,x_.body.sign.day,x_.body.sign.bn,x_.body.sign.flags])) (.p (jH b1.length [x_.body.sign.kind,x_.body.sign.part,x_.body.sign.fu,x_.body.sign.for_,x_.body.sign.cH,x_.body.sign.sum,x_.body.sign.day,x_.body.sign.bn,x_.body.sign.flags].length 8))))) fun _ =>
 .fin (.inr (b1++[x_.body.sign.kind,x_.body.sign.part,x_.body.sign.fu,x_.body.sign.for_,x_.body.sign.cH,x_.body.sign.sum,x_.body.sign.day,x_.body.sign.bn,x_.body.sign.flags])))
 (.fin (.inr b1)))
 (fun (b2:(List Int))=>⟨[(4,ow 100001 b2)],[(100001,cm 3 1 cw b2)]⟩) fun b2 =>
 .bind false (fun b3=>b3.length≤50)
 (.br (x_.body.kind == 2)
 (.r 12 (.ak (.o [.dU (dw eJ [x_.body.act.kind,x_.body.act.fu,x_.body.act.cH,x_.body.act.part,x_.body.act.at_,x_.body.act.sum,x_.body.act.day,x_.body.act.bn,x_.body.act.form])]) (.ak (.o [.dU (fo eJ b2 [x_.body.act.kind,x_.body.act.fu,x_.body.act.cH,x_.body.act.part,x_.body.act.at_,x_.body.act.sum,x_.body.act.day,x_.body.act.bn,x_.body.act.form])]) (.ak (.t (eJ.jz [x_.body.act.kind,x_.body.act.fu,x_.body.act.cH,x_.body.act.part,x_.body.act.at_,x_.body.act.sum,x_.body.act.day,x_.body.act.bn,x_.body.act.form])) (.p (jH b2.length [x_.body.act.kind,x_.body.act.fu,x_.body.act.cH,x_.body.act.part,x_.body.act.at_,x_.body.act.sum,x_.body.act.day,x_.body.act.bn,x_.body.act.form].length 8))))) fun _ =>
 .fin (.inr (b2++[x_.body.act.kind,x_.body.act.fu,x_.body.act.cH,x_.body.act.part,x_.body.act.at_,x_.body.act.sum,x_.body.act.day,x_.body.act.bn,x_.body.act.form])))
 (.fin (.inr b2)))
 (fun (b3:(List Int))=>⟨[(4,ow 100002 b3)],[(100002,cm 3 1 cw b3)]⟩) fun b3 =>
 .bind false (fun b4=>b4.length≤60)
 (.br (x_.body.kind == 3)
 (.r 14 (.ak (.o [.dU (dw eJ [x_.body.alter.at_,x_.body.alter.sum])]) (.ak (.o [.dU (fo eJ b3 [x_.body.alter.at_,x_.body.alter.sum])]) (.ak (.t (eJ.jz [x_.body.alter.at_,x_.body.alter.sum])) (.p (jH b3.length [x_.body.alter.at_,x_.body.alter.sum].length 8))))) fun _ =>
 .fin (.inr (b3++[x_.body.alter.at_,x_.body.alter.sum])))
 (.fin (.inr b3)))
 (fun (b4:(List Int))=>⟨[(4,ow 100003 b4)],[(100003,cm 3 1 cw b4)]⟩) fun b4 =>
 .br (x_.body.kind == 4)
 (.r 16 (.ak (.o [.dU (dw eJ [x_.body.fact.kind,x_.body.fact.at_,x_.body.fact.n])]) (.ak (.o [.dU (fo eJ b4 [x_.body.fact.kind,x_.body.fact.at_,x_.body.fact.n])]) (.ak (.t (eJ.jz [x_.body.fact.kind,x_.body.fact.at_,x_.body.fact.n])) (.p (jH b4.length [x_.body.fact.kind,x_.body.fact.at_,x_.body.fact.n].length 8))))) fun _ =>
 .fin (b4++[x_.body.fact.kind,x_.body.fact.at_,x_.body.fact.n]))
 (.fin b4)
def oK x_:=(jO x_).val
theorem zJ {x:ae} (h:0≤x.body.kind∧x.body.kind < 5):oK x=jJ x:=by
 unfold oK jO
 simp only [Sk.fR,Sk.da,Sk.cg,Sk.cQ]
 unfold jJ ic
 have hk:x.body.kind=0∨x.body.kind=1∨x.body.kind=2∨x.body.kind=3∨x.body.kind=4:=by omega
 rcases hk with k | k | k | k | k <;> rw [k] <;> rfl
theorem Fu (x_:ae):(jO x_).bO (fun _=>True):=by
 unfold jO
 exact sH
def G4 x_:=kk tok mixed Tryz.func67 [av x_.cells] (fun x=>lv cw x) false (jO x_) (oK x_) (u0 (Fu x_))
def Vd (n:Int) (out:ByteArray) (m i:Int):Prop:=m.natAbs≤n.natAbs∧0≤i∧(out.size:Int)=i+1∧((i=0∧m=n)∨(0 < i∧i+m.natAbs≤1+(n.natAbs / 10:Nat)))∧(i≠0→m=0→out.data.toList=Lib.decDigits n.natAbs++[59])∧((i=0∨m≠0)→Lib.decDigits n.natAbs++[59]=Lib.decDigits m.natAbs++out.data.toList)
theorem Wu:∀ d:Nat,d < 10→((⟨#[48,49,50,51,52,53,54,55,56,57]⟩:ByteArray).extract d (d+1)).data.toList=[UInt8.ofNat (48+d)]:=by
 intro d hd
 rw [Lib.extract_eq]
 have:d=0∨d=1∨d=2∨d=3∨d=4∨d=5∨d=6∨d=7∨d=8∨d=9:=by omega
 rcases this with rfl | rfl | rfl | rfl | rfl | rfl | rfl | rfl | rfl | rfl <;> rfl
def Zi (m:Int):Int:=bif decide ((m.tmod 10) < 0) then bI (0 - (m.tmod 10)) else m.tmod 10
theorem Wv (m:Int):Zi m=((m.natAbs % 10:Nat):Int):=by
 have h1:=Int.natAbs_tmod m 10
 have h2:(m.tmod 10).natAbs=m.natAbs % 10:=h1
 unfold Zi
 cases hd:decide ((m.tmod 10) < 0) with
 | true =>
  have hd:=of_decide_eq_true hd
  rw [cond_true,aD (by omega) (by omega)]
  omega
 | false =>
  have hd:=of_decide_eq_false hd
  rw [cond_false]
  omega
theorem Vd.start (n:Int):Vd n (⟨#[59]⟩:ByteArray) n 0:=⟨Nat.le_refl _,Int.le_refl _,rfl,.inl ⟨rfl,rfl⟩,fun h=>absurd rfl h,fun _=>rfl⟩
theorem qF (a b:ByteArray):(a++b).data.toList=a.data.toList++b.data.toList:=by simp
theorem Vd.step {n:Int} {out:ByteArray} {m i:Int} (hn:aK n) (h:Vd n out m i) (hc:i=0∨m≠0) {d:Int} (hd:d=Zi m):(0≤d∧d≤bI (d+1)∧bI (d+1)≤10)∧((((⟨#[48,49,50,51,52,53,54,55,56,57]⟩:ByteArray).extract d.toNat (bI (d+1)).toNat).size+out.size:Nat):Int)≤9223372036854775807∧Vd n (((⟨#[48,49,50,51,52,53,54,55,56,57]⟩:ByteArray).extract d.toNat (bI (d+1)).toNat)++out) (bI (m.tdiv 10)) (bI (i+1))∧(bI (m.tdiv 10)).natAbs+(1 - (bI (i+1)).toNat) < m.natAbs+(1 - i.toNat):=by
 obtain ⟨h1,h2,h3,h4,h5,h6⟩:=h
 rw [Wv] at hd
 have hm:m.natAbs≤9223372036854775808:=by omega
 have hdiv:(m.tdiv 10).natAbs=m.natAbs / 10:=Int.natAbs_tdiv m 10
 have hw1:bI (m.tdiv 10)=m.tdiv 10:=aD (by omega) (by omega)
 have hw2:bI (i+1)=i+1:=aD (by omega) (by omega)
 have hw3:bI (d+1)=d+1:=aD (by omega) (by omega)
 have hx:=Wu (m.natAbs % 10) (by omega)
 rw [hw1,hw2,hw3,show d.toNat=m.natAbs % 10 by omega,show (d+1).toNat=m.natAbs % 10+1 by omega]
 generalize (⟨#[48,49,50,51,52,53,54,55,56,57]⟩:ByteArray).extract (m.natAbs % 10) (m.natAbs % 10+1)=e at hx ⊢
 have he:e.size=1:=by rw [Lib.size_eq,hx]; rfl
 have hB:=h6 hc
 have key:(m.natAbs < 10→Lib.decDigits n.natAbs++[59]=e.data.toList++out.data.toList)∧(¬ m.natAbs < 10→Lib.decDigits n.natAbs++[59]=Lib.decDigits (m.natAbs / 10)++(e.data.toList++out.data.toList)):=by
  constructor
  ·intro cI
   rw [hB,Lib.decDigits,dif_pos cI,hx,Nat.mod_eq_of_lt cI]
  ·intro cI
   rw [hB,Lib.decDigits,dif_neg cI,hx,List.append_assoc]
 refine ⟨⟨by omega,by omega,by omega⟩,by rw [he]; omega,⟨by omega,by omega,?_,?_,fun _ h0=>?_,fun h0=>?_⟩,by omega⟩
 ·have:=congrArg List.length (qF e out)
  rw [List.length_append,← Lib.size_eq,← Lib.size_eq,← Lib.size_eq] at this
  omega
 ·right
  rcases h4 with ⟨a,b⟩ | ⟨a,b⟩
  ·subst b
   omega
  ·rcases hc with hc | hc <;> omega
 ·rw [qF,key.1 (by omega)]
 ·rw [qF,hdiv]
  exact key.2 (by rcases h0 with h0 | h0 <;> omega)
theorem Vd.done {n:Int} {out:ByteArray} {m i:Int} (h:Vd n out m i) (hc:¬ (i=0∨m≠0)):out.data.toList=Lib.decDigits n.natAbs++[59]:=h.2.2.2.2.1 (fun h=>hc (.inl h)) (Decidable.byContradiction fun h=>hc (.inr h))
theorem Un {n:Int} (h:n < 0) {out:ByteArray} (ho:out.data.toList=Lib.decDigits n.natAbs++[59]):(⟨#[45]⟩:ByteArray)++out=⟨(dC n).toArray⟩:=by
 refine b64 ?_
 rw [qF,ho,wF,if_pos h]
 rfl
theorem Uo {n:Int} (h:¬ n < 0) {out:ByteArray} (ho:out.data.toList=Lib.decDigits n.natAbs++[59]):out=⟨(dC n).toArray⟩:=by
 refine b64 ?_
 rw [ho,wF,if_neg h]
theorem P6 {α:Type} {c:Bool} {x y b:Int} (h:(bif c then (.inr x:α ⊕ Int) else .inr y)=.inr b):b=bif c then x else y:=by
 cases c <;> exact (Sum.inr.inj h).symm
theorem uv {n:Int} (h:aK n):(dC n).length≤21:=sI n h.1 h.2
theorem Fv:∀ (a:List Int),(∀ n∈a,aK n)→(a.flatMap dC).length≤21 * a.length
 | [],_=>by simp
 | n :: a,h=>by
  have h1:=uv (h n List.mem_cons_self)
  have h2:=Fv a fun n hn=>h n (List.mem_cons_of_mem _ hn)
  simp only [List.flatMap_cons,List.length_append,List.length_cons]
  omega
def Ww (l:List Int) (out:ByteArray) (k:Nat):Prop:=k≤l.length∧out.data.toList=dC l.length++(l.take k).flatMap dC
theorem Ww.size {l:List Int} {out:ByteArray} {k:Nat} (h:Ww l out k) (hl:l.length≤1000000) (hi:∀ n∈l,aK n):out.size≤21000021:=by
 have h1:=uv (n:=(l.length:Int)) ⟨by omega,by omega⟩
 have h2:=Fv (l.take k) fun n hn=>hi n (List.mem_of_mem_take hn)
 rw [Lib.size_eq,h.2,List.length_append]
 simp only [List.length_take] at h2
 omega
theorem zK {l:List Int} {i:Nat} (h:i < l.length):l.getD i default∈l:=by
 rw [show l.getD i default=l[i] by simp [List.getD,h]]
 exact List.getElem_mem h
theorem Ww.step {l:List Int} {out x:ByteArray} {k:Nat} (h:Ww l out k) (hk:k < l.length) (hx:x=⟨(dC (l.getD k default)).toArray⟩):Ww l (out++x) (k+1):=by
 refine ⟨hk,?_⟩
 rw [qF,h.2,List.take_succ_eq_append_getElem hk,List.flatMap_append,hx,show l.getD k default=l[k] by simp [List.getD,hk]]
 simp
theorem Ww.done {l:List Int} {out:ByteArray} {k:Nat} (h:Ww l out k) (hk:¬ k < l.length):out=fH l:=by
 have:=h.2
 rw [List.take_of_length_le (by omega)] at this
 exact b64 this
def nE (n:Int):Sk (ByteArray) :=
 .bind true (fun b1=>b1.data.toList=Lib.decDigits n.natAbs++[59])
 (.loop (default:Sum (ByteArray) (ByteArray)) (fun i2=>Vd n i2.1 i2.2.1 i2.2.2) (fun i2=>i2.2.1.natAbs+(1 - i2.2.2.toNat)) (((⟨#[59]⟩:ByteArray),n,0):ByteArray × Int × Int)
 (fun (i2:ByteArray × Int × Int)=>⟨[(3,sv i2.1),(4,iv i2.2.1),(5,iv i2.2.2)],[]⟩) fun i2 =>
 .br ((i2.2.2 == 0)||(i2.2.1 != 0))
 (.r 6 (.p ((10:Int)≠0)) fun _ =>
 .bind false (fun _=>True)
 (.br (decide ((i2.2.1.tmod 10) < 0))
 (.fin (.inr (bI (0 - (i2.2.1.tmod 10)))))
 (.fin (.inr (i2.2.1.tmod 10))))
 (fun (b3:Int)=>⟨[(6,iv b3)],[]⟩) fun b3 =>
 .r 9 (.ak (.p (0≤b3∧b3≤(bI (b3+1))∧(bI (b3+1))≤(((⟨#[48,49,50,51,52,53,54,55,56,57]⟩:ByteArray).size:Nat):Int))) (.p (((((⟨#[48,49,50,51,52,53,54,55,56,57]⟩:ByteArray).extract b3.toNat ((bI (b3+1)).toNat)).size+i2.1.size:Nat):Int)≤IntKind.i64.max))) fun _ =>
 .r 10 (.p ((10:Int)≠0)) fun _ =>
 .fin (.inr (((⟨#[48,49,50,51,52,53,54,55,56,57]⟩:ByteArray).extract b3.toNat ((bI (b3+1)).toNat))++i2.1,bI (i2.2.1.tdiv 10),bI (i2.2.2+1))))
 (.fin (.inl (.inr i2.1))))
 (fun (b1:ByteArray)=>⟨[(3,sv b1)],[]⟩) fun b1 =>
 .br (decide (n < 0))
 (.r 12 (.p ((((⟨#[45]⟩:ByteArray).size+b1.size:Nat):Int)≤IntKind.i64.max)) fun _ =>
 .fin ((⟨#[45]⟩:ByteArray)++b1))
 (.fin b1)
def P7 n:=(nE n).val
theorem MD (n:Int) (hP:aK n):(nE n).dj (fun (x:ByteArray)=>x=⟨(dC n).toArray⟩):=by
 unfold nE
 have hn:=hP
 refine ⟨⟨Vd.start n,fun i2 h=>⟨fun hc=>fun _ _ _=>⟨⟨fun _=>trivial,fun _=>trivial⟩,fun b3 e3 _=>fun _ _ _=>fun _ _ _=>(h.step hn (by simpa using hc) (P6 e3)).2.2⟩,fun hc=>h.done (by simpa using hc)⟩⟩,fun b1 _ h1=>⟨fun hd=>fun _ _ _=>Un (by simpa using hd) h1,fun hd=>Uo (by simpa using hd) h1⟩⟩
theorem JV (n:Int):(fun (x:ByteArray)=>(aK n)→(x=⟨(dC n).toArray⟩)) (P7 n):=fun hP=>have h:=Sk.cN _ (MD n hP); h
theorem OX (n:Int) (hn:aK n):(nE n).bO (fun _=>True):=by
 unfold nE
 have n10:(10:Int)≠0:=by decide
 refine ⟨⟨Vd.start n,fun i2 h=>⟨fun hc=>⟨n10,fun _ _ _=>⟨⟨fun _=>trivial,fun _=>trivial⟩,fun b3 e3 _=>?_⟩⟩,fun hc=>h.done (by simpa using hc)⟩⟩,fun b1 _ h1=>⟨fun hd=>⟨?_,fun _ _ _=>trivial⟩,fun hd=>trivial⟩⟩
 ·obtain ⟨g1,g2,g3⟩:=h.step hn (by simpa using hc) (P6 e3)
  exact ⟨⟨g1,g2⟩,fun _ _ _=>⟨n10,fun _ _ _=>g3⟩⟩
 ·have g:=uv hn
  have h1:b1.data.toList=Lib.decDigits n.natAbs++[59]:=h1
  rw [wF,List.length_append] at g
  have h2:b1.size≤22:=by
   rw [Lib.size_eq,h1,List.length_append]
   split at g
   ·simp only [List.length_cons,List.length_nil] at g ⊢
    omega
   ·simp only [List.length_cons,List.length_nil] at g ⊢
    omega
  show ((((⟨#[45]⟩:ByteArray).size+b1.size:Nat):Int))≤9223372036854775807
  rw [show (⟨#[45]⟩:ByteArray).size=1 from rfl]
  omega
def Ie n:=kk tok mixed Tryz.func99 [iv n] (fun x=>sv x) true (nE n) (P7 n) (OX n) (fun (x:ByteArray)=>(aK n)→(x=⟨(dC n).toArray⟩)) (JV n)
def lY (l:List Int):Sk (ByteArray) :=
 .r 1 ((Ie ((l.length:Nat):Int)).c) fun x1 =>
 .bind true (fun b2=>b2=fH l)
 (.loop (default:Sum (ByteArray) (ByteArray)) (fun i3=>Ww l i3.1 i3.2) (fun i3=>l.length - i3.2) ((x1,0):ByteArray × Nat)
 (fun (i3:ByteArray × Nat)=>⟨[(3,sv i3.1),(4,iv (i3.2:Int))],[]⟩) fun i3 =>
 .lt 0 0 i3.2 l.length
 (.r 5 (.ak (.p (cM (i3.2:Int) l.length)) (.sE ((Ie (l.getD i3.2 default)).c) fun x4=>.p (((i3.1.size+x4.size:Nat):Int)≤IntKind.i64.max))) fun x4 =>
 .nx 4 4 i3.2 (i3.1++x4,i3.2+1))
 (.fin (.inl (.inr i3.1))))
 (fun (b2:ByteArray)=>⟨[(3,sv b2)],[]⟩) fun b2 =>
 .fin b2
def Fw l:=(lY l).val
theorem JW (l:List Int) (hP:l.length≤1000000∧∀ n∈l,aK n):(lY l).dj (fun (x:ByteArray)=>x=fH l):=by
 unfold lY
 obtain ⟨hl,hi⟩:=hP
 have st:∀ {i n:Nat},decide ((i:Int) < (n:Int))=true→i < n:=fun h=>by have h:=of_decide_eq_true h; omega
 refine fun x1 _ k1=>⟨⟨⟨Nat.zero_le _,?_⟩,fun i3 h=>⟨fun hc=>fun x4 _ k4=>fun _ _ _=>⟨h.step (st hc) (k4 (hi _ (zK (st hc)))),by have:=st hc; show l.length - (i3.2+1) < l.length - i3.2; omega⟩,fun hc=>h.done (by simpa using hc)⟩⟩,fun b2 _ h2=>h2⟩
 rw [show x1=⟨(dC (l.length:Int)).toArray⟩ from k1 ⟨by omega,by omega⟩]
 simp
theorem xw (l:List Int):(fun (x:ByteArray)=>(l.length≤1000000∧∀ n∈l,aK n)→(x=fH l)) (Fw l):=fun hP=>have h:=Sk.cN _ (JW l hP); h
theorem ME (l:List Int) (hl:l.length≤1000000) (hi:∀ n∈l,aK n):(lY l).bO (fun _=>True):=by
 unfold lY
 have st:∀ {i n:Nat},decide ((i:Int) < (n:Int))=true→i < n:=fun h=>by have h:=of_decide_eq_true h; omega
 have hn:aK (l.length:Int):=⟨by omega,by omega⟩
 refine ⟨hn,fun x1 _ k1=>⟨⟨⟨Nat.zero_le _,?_⟩,fun i3 h _=>⟨fun hc=>⟨⟨⟨by omega,by have:=st hc; omega⟩,hi _ (zK (st hc)),fun x4 _ k4=>?_⟩,fun x4 _ k4=>⟨trivial,fun _ _ _=>⟨?_,h.step (st hc) (k4 (hi _ (zK (st hc)))),by have:=st hc; show l.length - (i3.2+1) < l.length - i3.2; omega⟩⟩⟩,fun hc=>h.done (by simpa using hc)⟩⟩,fun b2 _ h2=>trivial⟩⟩
 ·rw [show x1=⟨(dC (l.length:Int)).toArray⟩ from k1 hn]
  simp
 ·have h1:=Ww.size h hl hi
  have h4:=uv (hi _ (zK (st hc)))
  have e4:x4=⟨(dC (l.getD i3.2 default)).toArray⟩:=k4 (hi _ (zK (st hc)))
  have h5:x4.size≤21:=by rw [Lib.size_eq,e4]; simpa using h4
  show (((i3.1.size+x4.size:Nat)):Int)≤9223372036854775807
  omega
 ·have:=st hc
  rw [aD (by omega) (by omega)]
  omega
def OY l:=kk tok mixed Tryz.func66 [lv cw l] (fun x=>sv x) true (lY l) (Fw l) (u2 (ME l)) (fun (x:ByteArray)=>(l.length≤1000000∧∀ n∈l,aK n)→(x=fH l)) (xw l)
def rv (x_:ae):Sk (ByteArray) :=
 .r 1 ((jN x_).c) fun x1 =>
 .br (!x1)
 (.fin (⟨#[]⟩:ByteArray))
 (.r 3 (.dep ((G4 x_).c) fun x2=>(OY x2).c) fun p4 =>
 .fin p4.2)
def eY x_:=(rv x_).val
theorem sV {x:ae} (hx:x.dT):eY x=bg x:=by
 have e:eY x=bif !gq x then (⟨#[]⟩:ByteArray) else Fw (oK x):=rfl
 rw [e,nC]
 cases hr:au x with
 | false=>rw [yk hr]; rfl
 | true =>
  rw [uh hr,zJ (qE hr)]
  exact xw (jJ x) ⟨by have:=jK x; omega,jL hx⟩
theorem MF (x_:ae) (hx:x_.dT):(rv x_).bO (fun _=>True):=by
 unfold rv
 refine ⟨trivial,fun x1 e1 _=>⟨fun _=>trivial,fun hc=>⟨⟨trivial,fun x2 e2 _=>?_⟩,fun _ _ _=>trivial⟩⟩⟩
 have hr:au x_=true:=by
  rw [← nC,← show x1=gq x_ from e1]
  simpa using hc
 have e2:x2=jJ x_:=(show x2=oK x_ from e2).trans (zJ (qE hr))
 rw [e2]
 exact ⟨by have:=jK x_; omega,jL hx⟩
def uw x_:=kk tok mixed Tryz.func24 [av x_.cells] (fun x=>sv x) true (rv x_) (eY x_) (MF x_)
end
end
end Go.Proofs.YtihmmpaalpghbaaGreatDoor
