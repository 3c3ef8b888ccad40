/- Calls by contract. -/
import Derived.Test.YtgibnoahjhfmcaaGreatDoorLa
import Derived.Lib.ConvBytes
import Derived.Laws.BytesArg
set_option linter.unusedSimpArgs false
set_option linter.unusedVariables false
set_option linter.unusedSectionVars false
namespace Go.Av
open Go
variable [Globs]
def callable (P:Program) (f:FuncId):Bool :=
 match P.funcs[f]? with
 | some fn=>fn.name != "runtime.NumGoroutine"&&fn.body.isSome
 | none=>false
def Handed (lbs:List (Nat × Blk)) (μ:Mu) (g:Nat):Prop:=∃ κ b c,look lbs κ=some b∧μ κ=some (some (g,c))
def InjOn (lbs:List (Nat × Blk)) (μ:Mu):Prop:=∀ κ κ' b b' g c c',look lbs κ=some b→look lbs κ'=some b'→μ κ=some (some (g,c))→μ κ'=some (some (g,c'))→κ=κ'
structure Back (w:World) (S:Nat→Prop) (T:Nat→Prop) (res:AV) (lbs:List (Nat × Blk)) (v:Value) (S':Nat→Prop) (μ':Mu) (w':World):Prop where
 res:∀ ν,Rel w' S' μ' ν res v
 mem:∀ κ b,look lbs κ=some b→BlkOK w' S' μ' b (μ' κ)
 inj:InjOn lbs μ'
 own:∀ κ b g c,look lbs κ=some b→μ' κ=some (some (g,c))→w.heap.size≤g∨T g
 sub:∀ b,S b→S' b
 new:∀ b,S' b→S b∨w.heap.size≤b∨T b
 bound:∀ b,S' b→b < w'.heap.size
 kept:Kept w w' T
theorem Back.monoT {w w':World} {S T T' S':Nat→Prop} {res:AV} {lbs:List (Nat × Blk)} {v:Value} {μ':Mu} (h:Back w S T res lbs v S' μ' w') (hT:∀ b,T b→T' b):Back w S T' res lbs v S' μ' w' :=
 ⟨h.res,h.mem,h.inj,fun κ b g c h1 h2=>(h.own κ b g c h1 h2).imp id (hT g),h.sub,fun b hb=>(h.new b hb).imp id (Or.imp id (hT b)),h.bound,h.kept.mono' hT⟩
def FnA (P:Program) (f:FuncId) (args:List AV) (lbs:List (Nat × Blk)) (res:AV) (lbs':List (Nat × Blk)):Prop :=
 callable P f=true∧∀ (w:World) (S:Nat→Prop) (μ:Mu) (vs:Array Value),(∀ b,S b→b < w.heap.size)→GlobOK w S→(∀ ν,RelL w S μ ν args vs.toList)→(∀ κ b,look lbs κ=some b→BlkOK w S μ b (μ κ))→InjOn lbs μ →
  Calls P f vs w fun e w'=>∃ v S' μ',e=.returned v∧Back w S (Handed lbs μ) res lbs' v S' μ' w'
theorem callable_run {P:Program} {w:World} {f:FuncId} (h:callable P f=true) (args:Array Value):(callFunc f args).run P w=.ok (.enter f args) w:=by
 unfold callable at h
 cases hf:P.funcs[f]? with
 | none=>rw [hf] at h; cases h
 | some fn =>
  rw [hf] at h
  simp only [Bool.and_eq_true,bne_iff_ne,ne_eq] at h
  have h2:¬ fn.body=none:=by cases hb:fn.body <;> simp_all
  simp [callFunc,hf,h.1,h2]
section
variable {C : Cx} {A : M} {a : Act} {w : World} {S : Nat → Prop} {μ : Mu} {ν : Nat → Bool}
def flat:D→Bool
 | .v _=>true
 | .agg cs=>flatL cs
 | .sl _ _=>false
 | .mp _ _ _=>false
where flatL:List D→Bool
 | []=>true
 | .v _ :: r=>flatL r
 | _ :: _=>false
theorem flatL_getD:∀ (l:List D) (i:Nat),flat.flatL l=true→i < l.length→∃ x,l.getD i default=.v x
 | [],i,_,hi=>absurd hi (by simp)
 | .v x :: r,0,_,_=>⟨x,rfl⟩
 | .v x :: r,i+1,h,hi=>by simpa using flatL_getD r i (by simpa [flat.flatL] using h) (by simpa using hi)
 | .agg _ :: r,_,h,_=>by simp [flat.flatL] at h
 | .sl _ _ :: r,_,h,_=>by simp [flat.flatL] at h
 | .mp _ _ _ :: r,_,h,_=>by simp [flat.flatL] at h
theorem flat_rd {d:D} (h:flat d=true) {w':World} {S':Nat→Prop} {x:Value} (hr:Rd w S d x):Rd w' S' d x:=by
 cases hr with
 | v _ hs=>exact .v _ hs
 | agg cs vs hl hh =>
  refine .agg cs vs hl (fun i hi=>?_)
  obtain ⟨y,hy⟩:=flatL_getD cs i (by simpa [flat] using h) hi
  have:=hh i hi
  rw [hy] at this ⊢
  cases this with
  | v _ hs=>exact .v _ hs
 | nil=>simp [flat] at h
 | sl=>simp [flat] at h
 | mp=>simp [flat] at h
def flatA:AV→Bool
 | .d x=>flat x
 | .tup l=>flatAL l
 | _=>false
where flatAL:List AV→Bool
 | []=>true
 | .d x :: r=>flat x&&flatAL r
 | _ :: _=>false
theorem flatAL_getD:∀ (l:List AV) (i:Nat),flatA.flatAL l=true→i < l.length→∃ x,l.getD i default=.d x∧flat x=true
 | [],i,_,hi=>absurd hi (by simp)
 | .d x :: r,0,h,_=>⟨x,rfl,by simp only [flatA.flatAL,Bool.and_eq_true] at h; exact h.1⟩
 | .d x :: r,i+1,h,hi=>by
  simp only [flatA.flatAL,Bool.and_eq_true] at h
  simpa using flatAL_getD r i h.2 (by simpa using hi)
 | .any :: r,_,h,_=>by simp [flatA.flatAL] at h
 | .own _ _ :: r,_,h,_=>by simp [flatA.flatAL] at h
 | .ptr _ _ :: r,_,h,_=>by simp [flatA.flatAL] at h
 | .elt _ _ _ _ :: r,_,h,_=>by simp [flatA.flatAL] at h
 | .ref _ :: r,_,h,_=>by simp [flatA.flatAL] at h
 | .nns _ _ :: r,_,h,_=>by simp [flatA.flatAL] at h
 | .mpv _ :: r,_,h,_=>by simp [flatA.flatAL] at h
 | .pmp _ _ :: r,_,h,_=>by simp [flatA.flatAL] at h
 | .fn _ _ :: r,_,h,_=>by simp [flatA.flatAL] at h
 | .tup _ :: r,_,h,_=>by simp [flatA.flatAL] at h
 | .ag _ :: r,_,h,_=>by simp [flatA.flatAL] at h
 | .g _ _ :: r,_,h,_=>by simp [flatA.flatAL] at h
theorem flatA_rel {x:AV} (h:flatA x=true) {w':World} {S':Nat→Prop} {μ':Mu} {ν':Nat→Bool} {v:Value} (hr:Rel w S μ ν x v):Rel w' S' μ' ν' x v:=by
 cases hr with
 | d hd=>exact .d (flat_rd (by simpa [flatA] using h) hd)
 | tup hl hh =>
  refine .tup hl (fun i hi=>?_)
  obtain ⟨y,hy,hf⟩:=flatAL_getD _ i (by simpa [flatA] using h) hi
  have:=hh i hi
  rw [hy] at this ⊢
  exact .d (flat_rd hf (rel_d.1 this))
 | any=>simp [flatA] at h
 | ownNil=>simp [flatA] at h
 | own=>simp [flatA] at h
 | ptr=>simp [flatA] at h
 | elt=>simp [flatA] at h
 | ref=>simp [flatA] at h
 | nns=>simp [flatA] at h
 | mpv=>simp [flatA] at h
 | pmp=>simp [flatA] at h
 | fn=>simp [flatA] at h
 | ag=>simp [flatA] at h
 | g=>simp [flatA] at h
abbrev BR (α:Type):=Option (α × List (Nat × Blk) × Ob)
def bor1 (lb:List (Nat × Blk)):AV→BR D
 | .d x=>some (x,[],.tt)
 | .nns n f=>some (.sl n f,[],.tt)
 | .own κ n=>(match look lb κ with | some (.row e k m f)=>some (.sl n f,[(κ,.row e k m f)],.ne n m) | _=>none)
 | .mpv κ=>(match look lb κ with | some (.mp n f)=>some (.mp n (fun i=>(f i).1) (fun i=>(f i).2),[(κ,.mp n f)],.tt) | _=>none)
 | _=>none
def borL1 (lb:List (Nat × Blk)):List AV→BR (List D)
 | []=>some ([],[],.tt)
 | x :: r=>(match bor1 lb x,borL1 lb r with | some (y,ro,ob),some (l,ro',ob')=>some (y :: l,ro++ro',ob.and ob') | _,_=>none)
def borA1 (lb:List (Nat × Blk)):AV→BR AV
 | .ref cs=>some (.ref cs,[],.tt)
 | .ptr κ off=>(match look lb κ with
  | some (.box cs)=>(match borL1 lb cs with | some (ds,ro,ob)=>some (.ref (ds.drop off),(κ,.box cs) :: ro,ob) | none=>none)
  | _=>none)
 | .ag l=>(match borL1 lb l with | some (ds,ro,ob)=>some (.d (.agg ds),ro,ob) | none=>none)
 | .mpv κ=>(match look lb κ with | some (.mp n f)=>some (.pmp n f,[(κ,.mp n f)],.tt) | some (.mx _)=>some (.any,[],.tt) | some (.tx _)=>some (.any,[],.tt) | _=>none)
 | .pmp n f=>some (.pmp n f,[],.tt)
 | x=>(match bor1 lb x with | some (y,ro,ob)=>some (.d y,ro,ob) | none=>none)
def borAL1 (lb:List (Nat × Blk)):List AV→BR (List AV)
 | []=>some ([],[],.tt)
 | x :: r=>(match borA1 lb x,borAL1 lb r with | some (y,ro,ob),some (l,ro',ob')=>some (y :: l,ro++ro',ob.and ob') | _,_=>none)
def borA (lb:List (Nat × Blk)):AV→BR AV
 | .fn f caps=>(match borAL1 lb caps with | some (l,ro,ob)=>some (.fn f l,ro,ob) | none=>none)
 | x=>borA1 lb x
def borAL (lb:List (Nat × Blk)):List AV→BR (List AV)
 | []=>some ([],[],.tt)
 | x :: r=>(match borA lb x,borAL lb r with | some (y,ro,ob),some (l,ro',ob')=>some (y :: l,ro++ro',ob.and ob') | _,_=>none)
theorem bor1_rd (hs:Sim C A a w S μ ν) {S':Nat→Prop} (hS:∀ b,S b→S' b) (hO:∀ κ b g c,A.lb κ=some b→μ κ=some (some (g,c))→S' g) {lb:List (Nat × Blk)} {x:AV} {y:D} {ro:List (Nat × Blk)} {ob:Ob} (h:bor1 lb x=some (y,ro,ob)) (hro:∀ p,p∈ro→A.lb p.1=some p.2) (hob:ob.den) {v:Value} (hr:Rel w S μ ν x v):Rd w S' y v:=by
 unfold bor1 at h
 split at h
 ·simp only [Option.some.injEq,Prod.mk.injEq] at h
  obtain ⟨rfl,-,-⟩:=h
  exact (rel_d.1 hr).mono hS (fun _ _=>rfl)
 ·simp only [Option.some.injEq,Prod.mk.injEq] at h
  obtain ⟨rfl,-,-⟩:=h
  cases hr with
  | nns hd=>exact hd.mono hS (fun _ _=>rfl)
 ·rename_i κ n
  split at h
  ·rename_i e k m f hl
   simp only [Option.some.injEq,Prod.mk.injEq] at h
   obtain ⟨rfl,rfl,rfl⟩:=h
   simp only [Ob.den] at hob
   have hm:=hs.mem κ _ (hro (κ,.row e k m f) (by simp))
   cases hr with
   | @ownNil _ ad =>
    cases ad with
    | none=>exact .nil f
    | some ad=>exact .sl 0 f ad 0 0 (fun _ _=>undef) (Nat.le_refl _) (by simp [maxLen]) (.inl rfl) (fun i hi=>absurd hi (by omega)) (fun i j hi=>absurd hi (by omega)) (fun i j hi=>absurd hi (by omega))
   | @own _ _ g cap hμ =>
    rw [hμ] at hm
    have hlt:=hO κ _ g cap (hro (κ,.row e k m f) (by simp)) hμ
    obtain ⟨cur,hg,_,hsz,hn,hc,hrow⟩:=hm.at
    refine .sl n f ⟨g,0,none⟩ cap k (fun i j=>(cur[i * k+j]?).getD undef) (by omega) hc (.inr rfl) (fun i hi=>(hrow i (by omega)).1) (fun i j hi hj=>⟨hlt,?_⟩) (fun i j hi hj=>?_)
    ·obtain ⟨u,hu,_⟩:=(hrow i (by omega)).2 j hj
     rw [Nat.zero_add,cell_row w g _ cur e _ hg,hu]
     rfl
    ·obtain ⟨u,hu,hru⟩:=(hrow i (by omega)).2 j hj
     rw [hu]
     exact hru.mono hS (fun _ _=>rfl)
  ·cases h
 ·rename_i κ
  split at h
  ·rename_i n f hl
   simp only [Option.some.injEq,Prod.mk.injEq] at h
   obtain ⟨rfl,rfl,rfl⟩:=h
   have hm:=hs.mem κ _ (hro (κ,.mp n f) (by simp))
   cases hr with
   | @mpv _ g cap hμ =>
    rw [hμ] at hm
    have hlt:=hO κ _ g cap (hro (κ,.mp n f) (by simp)) hμ
    obtain ⟨cur,hg,_,hsz,hcell⟩:=hm.at
    refine .mp n _ _ g cur (fun i=>((cur[i]?).map (·.val)).getD undef) hlt hg hsz (fun i hi=>?_) (fun i hi=>?_)
    ·obtain ⟨e,q1,q2,q3,q4,q5⟩:=hcell i hi
     exact ⟨e,q1,q2,q3,q4,by rw [q1]; rfl⟩
    ·obtain ⟨e,q1,q2,q3,q4,q5⟩:=hcell i hi
     rw [q1]
     exact q5.mono hS (fun _ _=>rfl)
  ·cases h
 ·cases h
theorem borL1_rd (hs:Sim C A a w S μ ν) {S':Nat→Prop} (hS:∀ b,S b→S' b) (hO:∀ κ b g c,A.lb κ=some b→μ κ=some (some (g,c))→S' g) {lb:List (Nat × Blk)}:∀ {xs:List AV} {ys:List D} {ro:List (Nat × Blk)} {ob:Ob},borL1 lb xs=some (ys,ro,ob)→(∀ p,p∈ro→A.lb p.1=some p.2)→ob.den→∀ {vs:List Value},RelL w S μ ν xs vs →
  ys.length=xs.length∧∀ i,i < ys.length→Rd w S' (ys.getD i default) (vs.getD i undef)
 | [],ys,ro,ob,h,_,_,vs,_=>by
  simp only [borL1,Option.some.injEq,Prod.mk.injEq] at h
  obtain ⟨rfl,-,-⟩:=h
  exact ⟨rfl,fun i hi=>absurd hi (by simp)⟩
 | x :: r,ys,ro,ob,h,hro,hob,vs,hr=>by
  simp only [borL1] at h
  cases h1:bor1 lb x with
  | none=>rw [h1] at h; cases h
  | some p =>
   obtain ⟨y,ro1,ob1⟩:=p
   cases h2:borL1 lb r with
   | none=>rw [h1,h2] at h; cases h
   | some q =>
    obtain ⟨l,ro2,ob2⟩:=q
    rw [h1,h2] at h
    simp only [Option.some.injEq,Prod.mk.injEq] at h
    obtain ⟨rfl,rfl,rfl⟩:=h
    have hr0:=hr.2 0 (by simp)
    match vs,hr with
    | [],hr=>have:=hr.1; simp at this
    | v :: vs,hr =>
     have ht:RelL w S μ ν r vs:=⟨by simpa using hr.1,fun i hi=>by simpa using hr.2 (i+1) (by simpa using hi)⟩
     obtain ⟨i1,i2⟩:=borL1_rd hs hS hO h2 (fun p hp=>hro p (List.mem_append.2 (.inr hp))) (Ob.and_den hob).2 ht
     refine ⟨by simp [i1],fun i hi=>?_⟩
     cases i with
     | zero=>simpa using bor1_rd hs hS hO h1 (fun p hp=>hro p (List.mem_append.2 (.inl hp))) (Ob.and_den hob).1 (by simpa using hr.2 0 (by simp))
     | succ i=>simpa using i2 i (by simpa using hi)
theorem borA1_rel (hs:Sim C A a w S μ ν) {S':Nat→Prop} (hS:∀ b,S b→S' b) (hO:∀ κ b g c,A.lb κ=some b→μ κ=some (some (g,c))→S' g) {lb:List (Nat × Blk)} {x y:AV} {ro:List (Nat × Blk)} {ob:Ob} (h:borA1 lb x=some (y,ro,ob)) (hro:∀ p,p∈ro→A.lb p.1=some p.2) (hob:ob.den) {v:Value} (hr:Rel w S μ ν x v) (μ':Mu) (ν':Nat→Bool):Rel w S' μ' ν' y v:=by
 have other:(match bor1 lb x with | some (y,ro,ob)=>some (AV.d y,ro,ob) | none=>none)=some (y,ro,ob)→Rel w S' μ' ν' y v:=fun h=>by
  cases h1:bor1 lb x with
  | none=>rw [h1] at h; cases h
  | some p =>
   obtain ⟨y',ro1,ob1⟩:=p
   rw [h1] at h
   simp only [Option.some.injEq,Prod.mk.injEq] at h
   obtain ⟨rfl,rfl,rfl⟩:=h
   exact .d (bor1_rd hs hS hO h1 hro hob hr)
 cases x with
 | ref cs =>
  simp only [borA1,Option.some.injEq,Prod.mk.injEq] at h
  obtain ⟨rfl,-,-⟩:=h
  cases hr with
  | ref vals hcell h=>exact .ref vals (fun j hj=>⟨hS _ (hcell j hj).1,(hcell j hj).2⟩) (fun j hj=>(h j hj).mono hS (fun _ _=>rfl))
 | ptr κ off =>
  simp only [borA1] at h
  split at h
  ·rename_i cs hl
   split at h
   ·rename_i ds ro' ob' hb
    simp only [Option.some.injEq,Prod.mk.injEq] at h
    obtain ⟨rfl,rfl,rfl⟩:=h
    cases hr with
    | @ptr _ _ g cap hμ =>
     have hm:=hs.mem κ _ (hro (κ,.box cs) (by simp))
     rw [hμ] at hm
     have hlt:=hO κ _ g cap (hro (κ,.box cs) (by simp)) hμ
     obtain ⟨cur,e,hg,_,hsz,hrow⟩:=hm.at
     have hrl:RelL w S μ ν cs cur.toList:=⟨by simpa using hsz,fun i hi=>by
      obtain ⟨u,hu,hru⟩:=hrow i hi
      rw [show cur.toList.getD i undef=u from by simp [List.getD,hu]]
      exact hru ν⟩
     obtain ⟨i1,i2⟩:=borL1_rd hs hS hO hb (fun p hp=>hro p (List.mem_cons_of_mem _ hp)) hob hrl
     refine .ref (fun j=>cur.toList.getD (off+j) undef) (fun j hj=>⟨hlt,?_⟩) (fun j hj=>?_)
     ·simp only [List.length_drop] at hj
      rw [cell_row w g _ cur e _ hg]
      have:off+j < cur.size:=by omega
      simp [List.getD,this]
     ·simp only [List.length_drop] at hj
      rw [show (ds.drop off).getD j default=ds.getD (off+j) default from by simp [List.getD]]
      exact i2 (off+j) (by omega)
   ·cases h
  ·cases h
 | ag l =>
  simp only [borA1] at h
  split at h
  ·rename_i ds ro' ob' hb
   simp only [Option.some.injEq,Prod.mk.injEq] at h
   obtain ⟨rfl,rfl,rfl⟩:=h
   cases hr with
   | @ag _ vs hl hh =>
    obtain ⟨i1,i2⟩:=borL1_rd hs hS hO hb hro hob (vs:=vs.toList) ⟨by rw [Array.length_toList]; exact hl,fun i hi=>by rw [← getD_toList]; exact hh i hi⟩
    exact .d (.agg ds vs (by omega) (fun i hi=>by rw [getD_toList]; exact i2 i hi))
  ·cases h
 | any=>exact other h
 | d=>exact other h
 | own=>exact other h
 | elt=>exact other h
 | nns=>exact other h
 | pmp n f =>
  simp only [borA1,Option.some.injEq,Prod.mk.injEq] at h
  obtain ⟨rfl,-,-⟩:=h
  cases hr with
  | pmp h=>exact .pmp (h.mono hS (fun _ _=>rfl))
 | mpv κ =>
  simp only [borA1] at h
  split at h
  ·rename_i n f hl
   simp only [Option.some.injEq,Prod.mk.injEq] at h
   obtain ⟨rfl,rfl,rfl⟩:=h
   have hκ:=hro (κ,.mp n f) (by simp)
   cases hr with
   | @mpv _ g cap hμ =>
    have hm:=hs.mem κ _ hκ
    rw [hμ] at hm
    obtain ⟨cur,h1,_,h2,h3⟩:=hm.at
    refine .pmp ⟨hO κ _ g cap hκ hμ,cur,h1,h2,fun i hi=>?_⟩
    obtain ⟨e,q1,q2,q3,q4,q5⟩:=h3 i hi
    exact ⟨e,q1,q2,q3,q4,q5.mono hS (fun _ _=>rfl)⟩
  ·simp only [Option.some.injEq,Prod.mk.injEq] at h
   obtain ⟨rfl,-,-⟩:=h
   exact .any _
  ·simp only [Option.some.injEq,Prod.mk.injEq] at h
   obtain ⟨rfl,-,-⟩:=h
   exact .any _
  ·cases h
 | fn=>exact other h
 | tup=>exact other h
 | g=>exact other h
theorem borAL1_rel (hs:Sim C A a w S μ ν) {S':Nat→Prop} (hS:∀ b,S b→S' b) (hO:∀ κ b g c,A.lb κ=some b→μ κ=some (some (g,c))→S' g) {lb:List (Nat × Blk)} (μ':Mu) (ν':Nat→Bool):∀ {xs ys:List AV} {ro:List (Nat × Blk)} {ob:Ob},borAL1 lb xs=some (ys,ro,ob)→(∀ p,p∈ro→A.lb p.1=some p.2)→ob.den→∀ {vs:List Value},RelL w S μ ν xs vs →
  RelL w S' μ' ν' ys vs
 | [],ys,ro,ob,h,_,_,vs,hr=>by
  simp only [borAL1,Option.some.injEq,Prod.mk.injEq] at h
  obtain ⟨rfl,-,-⟩:=h
  exact ⟨hr.1,fun i hi=>absurd hi (by simp)⟩
 | x :: r,ys,ro,ob,h,hro,hob,vs,hr=>by
  simp only [borAL1] at h
  cases h1:borA1 lb x with
  | none=>rw [h1] at h; cases h
  | some p =>
   obtain ⟨y,ro1,ob1⟩:=p
   cases h2:borAL1 lb r with
   | none=>rw [h1,h2] at h; cases h
   | some q =>
    obtain ⟨l,ro2,ob2⟩:=q
    rw [h1,h2] at h
    simp only [Option.some.injEq,Prod.mk.injEq] at h
    obtain ⟨rfl,rfl,rfl⟩:=h
    match vs,hr with
    | [],hr=>have:=hr.1; simp at this
    | v :: vs,hr =>
     have ht:RelL w S μ ν r vs:=⟨by simpa using hr.1,fun i hi=>by simpa using hr.2 (i+1) (by simpa using hi)⟩
     have ih:=borAL1_rel hs hS hO μ' ν' h2 (fun p hp=>hro p (List.mem_append.2 (.inr hp))) (Ob.and_den hob).2 ht
     refine ⟨by simpa using ih.1,fun i hi=>?_⟩
     cases i with
     | zero=>simpa using borA1_rel hs hS hO h1 (fun p hp=>hro p (List.mem_append.2 (.inl hp))) (Ob.and_den hob).1 (by simpa using hr.2 0 (by simp)) μ' ν'
     | succ i=>simpa using ih.2 i (by simpa using hi)
theorem borA_rel (hs:Sim C A a w S μ ν) {S':Nat→Prop} (hS:∀ b,S b→S' b) (hO:∀ κ b g c,A.lb κ=some b→μ κ=some (some (g,c))→S' g) {lb:List (Nat × Blk)} {x y:AV} {ro:List (Nat × Blk)} {ob:Ob} (h:borA lb x=some (y,ro,ob)) (hro:∀ p,p∈ro→A.lb p.1=some p.2) (hob:ob.den) {v:Value} (hr:Rel w S μ ν x v) (μ':Mu) (ν':Nat→Bool):Rel w S' μ' ν' y v:=by
 cases x with
 | fn f caps =>
  simp only [borA] at h
  split at h
  ·rename_i l ro' ob' hb
   simp only [Option.some.injEq,Prod.mk.injEq] at h
   obtain ⟨rfl,rfl,rfl⟩:=h
   cases hr with
   | @fn _ _ vs hl hh =>
    obtain ⟨i1,i2⟩:=borAL1_rel hs hS hO μ' ν' hb hro hob (vs:=vs.toList) ⟨by simpa using hl,fun i hi=>by rw [← getD_toList]; exact hh i hi⟩
    exact .fn (by simpa using i1) (fun i hi=>by rw [getD_toList]; exact i2 i hi)
  ·cases h
 | any=>exact borA1_rel hs hS hO (lb:=lb) (by simpa only [borA] using h) hro hob hr μ' ν'
 | d=>exact borA1_rel hs hS hO (lb:=lb) (by simpa only [borA] using h) hro hob hr μ' ν'
 | own=>exact borA1_rel hs hS hO (lb:=lb) (by simpa only [borA] using h) hro hob hr μ' ν'
 | ptr=>exact borA1_rel hs hS hO (lb:=lb) (by simpa only [borA] using h) hro hob hr μ' ν'
 | elt=>exact borA1_rel hs hS hO (lb:=lb) (by simpa only [borA] using h) hro hob hr μ' ν'
 | ref=>exact borA1_rel hs hS hO (lb:=lb) (by simpa only [borA] using h) hro hob hr μ' ν'
 | nns=>exact borA1_rel hs hS hO (lb:=lb) (by simpa only [borA] using h) hro hob hr μ' ν'
 | mpv=>exact borA1_rel hs hS hO (lb:=lb) (by simpa only [borA] using h) hro hob hr μ' ν'
 | pmp=>exact borA1_rel hs hS hO (lb:=lb) (by simpa only [borA] using h) hro hob hr μ' ν'
 | tup=>exact borA1_rel hs hS hO (lb:=lb) (by simpa only [borA] using h) hro hob hr μ' ν'
 | ag=>exact borA1_rel hs hS hO (lb:=lb) (by simpa only [borA] using h) hro hob hr μ' ν'
 | g=>exact borA1_rel hs hS hO (lb:=lb) (by simpa only [borA] using h) hro hob hr μ' ν'
theorem borAL_rel (hs:Sim C A a w S μ ν) {S':Nat→Prop} (hS:∀ b,S b→S' b) (hO:∀ κ b g c,A.lb κ=some b→μ κ=some (some (g,c))→S' g) {lb:List (Nat × Blk)} (μ':Mu) (ν':Nat→Bool):∀ {xs ys:List AV} {ro:List (Nat × Blk)} {ob:Ob},borAL lb xs=some (ys,ro,ob)→(∀ p,p∈ro→A.lb p.1=some p.2)→ob.den→∀ {vs:List Value},RelL w S μ ν xs vs →
  RelL w S' μ' ν' ys vs
 | [],ys,ro,ob,h,_,_,vs,hr=>by
  simp only [borAL,Option.some.injEq,Prod.mk.injEq] at h
  obtain ⟨rfl,-,-⟩:=h
  exact ⟨hr.1,fun i hi=>absurd hi (by simp)⟩
 | x :: r,ys,ro,ob,h,hro,hob,vs,hr=>by
  simp only [borAL] at h
  cases h1:borA lb x with
  | none=>rw [h1] at h; cases h
  | some p =>
   obtain ⟨y,ro1,ob1⟩:=p
   cases h2:borAL lb r with
   | none=>rw [h1,h2] at h; cases h
   | some q =>
    obtain ⟨l,ro2,ob2⟩:=q
    rw [h1,h2] at h
    simp only [Option.some.injEq,Prod.mk.injEq] at h
    obtain ⟨rfl,rfl,rfl⟩:=h
    match vs,hr with
    | [],hr=>have:=hr.1; simp at this
    | v :: vs,hr =>
     have ht:RelL w S μ ν r vs:=⟨by simpa using hr.1,fun i hi=>by simpa using hr.2 (i+1) (by simpa using hi)⟩
     have ih:=borAL_rel hs hS hO μ' ν' h2 (fun p hp=>hro p (List.mem_append.2 (.inr hp))) (Ob.and_den hob).2 ht
     refine ⟨by simpa using ih.1,fun i hi=>?_⟩
     cases i with
     | zero=>simpa using borA_rel hs hS hO h1 (fun p hp=>hro p (List.mem_append.2 (.inl hp))) (Ob.and_den hob).1 (by simpa using hr.2 0 (by simp)) μ' ν'
     | succ i=>simpa using ih.2 i (by simpa using hi)
theorem run_callOp {P:Program} {o:Oper} {cf:Operand} {xs:Array Operand} {ts:Array TypeId} (ho:o.op=.call { callee:=.value cf,args:=xs,argTypes:=ts }) {f:FuncId} {cvs:Array Value} (hcf:a.eval cf=.func (.func f) #[] cvs) (hc:callable P f=true) :
  (execOp a.eval o).run P w=.ok (.enter f (xs.map a.eval++cvs)) w:=by
 simp only [execOp,ho,resolve,hcf,Deferred.ofValue,Sem.run_bind,Sem.run_pure,Result.andThen_ok,invoke,Array.empty_append]
 exact callable_run hc _
theorem core_call_flat {o:Oper} {cf:Operand} {xs:Array Operand} {ts:Array TypeId} {f:FuncId} {args caps args':List AV} {res:AV} {ro:List (Nat × Blk)} {ob:Ob} {lb:List (Nat × Blk)} {τ:Tr}
  (hs:Sim C A a w S μ ν) (hd:∀ t,o.dst=some t→t < C.nt) (ho:o.op=.call { callee:=.value cf,args:=xs,argTypes:=ts }) (hcf:Rel w S μ ν (.fn f caps) (a.eval cf)) (hargs:RelL w S μ ν args (xs.toList.map a.eval))
  (hb:borAL lb (args++caps)=some (args',ro,ob)) (hro:∀ p,p∈ro→A.lb p.1=some p.2) (hob:ob.den) (hfn:FnA C.P f args' [] res []) (hfl:flatA res=true)
  (h0:τ.v=res) (h1:τ.dst=o.dst) (h2:τ.mem=[]) (h3:τ.mem'=[]) :
  o.wp C.P a w (fun a' w'=>∃ S' μ',Sim C (τ.apply A) a' w' S' μ' ν) (fun _ _ _=>False):=by
 generalize hcv:a.eval cf=cv at hcf
 cases hcf with
 | @fn _ _ cvs hl hh =>
  unfold Oper.wp
  rw [run_callOp ho hcv hfn.1]
  have hall:RelL w S μ ν (args++caps) (xs.map a.eval++cvs).toList:=by
   rw [Array.toList_append,Array.toList_map]
   exact hargs.append ⟨by simpa using hl,fun i hi=>by rw [← getD_toList]; exact hh i hi⟩
  refine (hfn.2 w (fun b=>b < w.heap.size) (fun _=>none) (xs.map a.eval++cvs) (fun b hb=>hb) (hs.glob.mono hs.bound (fun _ _=>rfl)) (fun ν'=>borAL_rel hs hs.bound (fun κ b g c h1 h2=>by have:=hs.mem κ b h1; rw [h2] at this; exact this.at.lt) _ ν' hb hro hob hall) (fun κ b hk=>by simp [look] at hk) (fun κ κ' b b' g c c' hk=>by simp [look] at hk)).mono ?_
  rintro e w' ⟨v,S',μ',rfl,B⟩
  have hk:Kept w w' (fun _=>False):=⟨B.kept.os,B.kept.tape,B.kept.output,B.kept.size,fun b hb _=>B.kept.block b hb (fun ⟨κ,b',c,hx,_⟩=>by simp [look] at hx)⟩
  have h4:=hs.world (S':=S) (fun _ x=>x) (fun _ x=>.inl x) hk
  have h5:=h4.put (dst:=o.dst) (x:=res) (v:=v) hd (flatA_rel hfl (B.res ν))
  refine ⟨S,μ,?_⟩
  have e:τ.apply A=A.putO o.dst res:=by
   unfold Tr.apply M.putO M.put
   rw [h0,h1,h2,h3]
   cases ho:o.dst with
   | none=>simp [look]
   | some d =>
    simp only [look,List.map_nil,List.not_mem_nil,if_false,Option.some.injEq]
    congr 1
    funext t
    by_cases c:d=t
    ·simp [c]
    ·have:¬ t=d:=fun e=>c e.symm
     simp [c,this]
  rw [e]
  exact h5
end
section
variable {C : Cx} {A : M} {a : Act} {w : World} {S : Nat → Prop} {μ : Mu} {ν : Nat → Bool}
theorem AV.keysL_mem {k:Nat}:∀ (l:List AV) (i:Nat),i < l.length→k∈(l.getD i default).keys→k∈AV.keysL l
 | [],i,hi,_=>absurd hi (by simp)
 | a :: r,0,_,h=>by simp only [AV.keysL,List.mem_append]; exact .inl (by simpa using h)
 | a :: r,i+1,hi,h=>by simp only [AV.keysL,List.mem_append]; exact .inr (AV.keysL_mem r i (by simpa using hi) (by simpa using h))
theorem Rel.agree {μ':Mu} {x:AV} {v:Value} (h:Rel w S μ ν x v) (hk:∀ k,k∈x.keys→μ' k=μ k):Rel w S μ' ν x v:=by
 induction h with
 | any x=>exact .any x
 | d h=>exact .d h
 | @ownNil key _ h=>exact .ownNil (by rw [hk key (by simp [AV.keys])]; exact h)
 | @own key _ _ _ h=>exact .own (by rw [hk key (by simp [AV.keys])]; exact h)
 | @ptr key _ _ _ h=>exact .ptr (by rw [hk key (by simp [AV.keys])]; exact h)
 | @elt key _ _ _ _ _ h=>exact .elt (by rw [hk key (by simp [AV.keys])]; exact h)
 | ref vals hcell h=>exact .ref vals hcell h
 | nns h=>exact .nns h
 | @mpv key _ _ h=>exact .mpv (by rw [hk key (by simp [AV.keys])]; exact h)
 | pmp h=>exact .pmp h
 | @fn _ caps _ hl _ ih=>exact .fn hl (fun i hi=>ih i hi (fun k hk'=>hk k (by simp only [AV.keys]; exact AV.keysL_mem caps i hi hk')))
 | @tup l _ hl _ ih=>exact .tup hl (fun i hi=>ih i hi (fun k hk'=>hk k (by simp only [AV.keys]; exact AV.keysL_mem l i hi hk')))
 | @ag l _ hl _ ih=>exact .ag hl (fun i hi=>ih i hi (fun k hk'=>hk k (by simp only [AV.keys]; exact AV.keysL_mem l i hi hk')))
 | g _ h0 ih=>exact .g (fun hp=>ih hp (fun k hk'=>hk k (by simpa [AV.keys] using hk'))) h0
theorem BlkAt.agree {μ':Mu} {b:Blk} {g cap:Nat} (h:BlkAt w S μ b g cap) (hk:∀ k,k∈b.keys→μ' k=μ k):BlkAt w S μ' b g cap:=by
 cases b with
 | box cs =>
  obtain ⟨cur,e,h1,h0,h2,h6⟩:=h
  refine ⟨cur,e,h1,h0,h2,fun j hj=>?_⟩
  obtain ⟨x,hx,hr⟩:=h6 j hj
  exact ⟨x,hx,fun ν=>(hr ν).agree (fun k hk'=>hk k (AV.keysL_mem _ j hj hk'))⟩
 | row e k n f=>exact h
 | mp n f=>exact h
 | it mk n seen =>
  obtain ⟨mg,c,h0,h1⟩:=h
  exact ⟨mg,c,by rw [hk mk (by simp [Blk.keys])]; exact h0,h1⟩
 | mx=>exact h
 | tx=>exact h
 | rx=>exact h
 | ml=>exact h
theorem BlkOK.agree {μ':Mu} {b:Blk} {y:Option (Option (Nat × Nat))} (h:BlkOK w S μ b y) (hk:∀ k,k∈b.keys→μ' k=μ k):BlkOK w S μ' b y:=by
 cases y with
 | none=>cases b <;> exact h
 | some y =>
  cases y with
  | none=>cases b <;> exact h
  | some gc=>obtain ⟨g,c⟩:=gc; exact (h.at.agree hk).ok
theorem RelL.nu {ν':Nat→Bool} {l:List AV} {vs:List Value} (h:RelL w S μ ν l vs) (hn:noG.noGL l=true):RelL w S μ ν' l vs:=⟨h.1,fun i hi=>(h.2 i hi).nu (noGL_getD l i hn hi)⟩
theorem core_call {o:Oper} {cf:Operand} {xs:Array Operand} {ts:Array TypeId} {f:FuncId} {args caps:List AV} {res:AV} {lbs lbs':List (Nat × Blk)} {need:List (Nat × AV)} {ro:List (Nat × Blk)} {gs:List (Nat × Bool)}
  (hs:Sim C A a w S μ ν) (hd:∀ t,o.dst=some t→t < C.nt) (ho:o.op=.call { callee:=.value cf,args:=xs,argTypes:=ts }) (hcf:Rel w S μ ν (.fn f caps) (a.eval cf)) (hargs:RelL w S μ ν args (xs.toList.map a.eval)) (hn:noG.noGL (args++caps)=true)
  (hfn:FnA C.P f (args++caps) lbs res lbs') (hlb:∀ p,p∈lbs→A.lb p.1=some p.2) (hfr:∀ k,k∈lbs'.map (·.1)→Fresh A k) (hc1:∀ k,k∈res.keys→k∈lbs'.map (·.1)) (hc2:∀ p,p∈lbs'→∀ k,k∈p.2.keys→k∈lbs'.map (·.1)) :
  o.wp C.P a w (fun a' w'=>∃ S' μ',Sim C ((Tr.mk need o.dst res ro lbs lbs' gs).apply A) a' w' S' μ' ν) (fun _ _ _=>False):=by
 generalize hcv:a.eval cf=cv at hcf
 cases hcf with
 | @fn _ _ cvs hl hh =>
  unfold Oper.wp
  rw [run_callOp ho hcv hfn.1]
  have hall:RelL w S μ ν (args++caps) (xs.map a.eval++cvs).toList:=by
   rw [Array.toList_append,Array.toList_map]
   exact hargs.append ⟨by simpa using hl,fun i hi=>by rw [← getD_toList]; exact hh i hi⟩
  have hlk:∀ κ b,look lbs κ=some b→A.lb κ=some b:=fun κ b h=>hlb (κ,b) (look_mem h)
  refine (hfn.2 w S μ (xs.map a.eval++cvs) hs.bound hs.glob (fun ν'=>hall.nu hn) (fun κ b hk=>hs.mem κ b (hlk κ b hk)) (fun κ κ' b b' g c c' h1 h2 h3 h4=>hs.inj κ κ' b b' g c c' (hlk _ _ h1) (hlk _ _ h2) h3 h4)).mono ?_
  rintro e w' ⟨v,S',μ',rfl,B⟩
  have hT:∀ q,Handed lbs μ q→C.w0.heap.size≤q∨C.T0 q:=fun q ⟨κ,b,c,h1,h2⟩=>hs.own κ b q c (hlk κ b h1) h2
  have hTs:∀ q,Handed lbs μ q→¬ S q:=fun q ⟨κ,b,c,h1,h2⟩=>by
   have:=hs.mem κ b (hlk κ b h1)
   rw [h2] at this
   exact this.at.not
  have hw:∀ q,S q→w'.heap[q]? = w.heap[q]?:=fun q hq=>B.kept.block q (hs.bound q hq) (fun ht=>hTs q ht hq)
  let μ'':Mu:=fun k=>if k∈lbs'.map (·.1) then μ' k else μ k
  have ag:∀ k,k ∉ lbs'.map (·.1)→μ'' k=μ k:=fun k hk=>by simp only [μ'',hk,if_false]
  have ag':∀ k,k∈lbs'.map (·.1)→μ'' k=μ' k:=fun k hk=>by simp only [μ'',hk,if_true]
  have old:∀ x v,Rel w S μ ν x v→(∀ k,k∈lbs'.map (·.1)→k ∉ x.keys)→Rel w' S' μ'' ν x v:=fun x v hr hk =>
   (hr.mono B.sub hw (fun _ _ e=>e)).agree (fun k hkx=>ag k (fun hk'=>hk k hk' hkx))
  refine ⟨S',μ'',?_⟩
  have hlb2:∀ κ b,((Tr.mk need o.dst res ro lbs lbs' gs).apply A).lb κ=some b→(look lbs' κ=some b∧κ∈lbs'.map (·.1))∨(κ ∉ lbs'.map (·.1)∧κ ∉ lbs.map (·.1)∧A.lb κ=some b):=by
   intro κ b hb
   simp only [Tr.apply] at hb
   cases hl':look lbs' κ with
   | some b' =>
    rw [hl'] at hb
    simp only [Option.some.injEq] at hb
    subst hb
    exact .inl ⟨rfl,look_keys hl'⟩
   | none =>
    rw [hl'] at hb
    simp only at hb
    have hnk:κ ∉ lbs'.map (·.1):=fun hk=>by
     obtain ⟨p,hp,e⟩:=List.mem_map.1 hk
     have:∀ (l:List (Nat × Blk)),p∈l→look l κ≠none:=by
      intro l
      induction l with
      | nil=>intro h; cases h
      | cons q r ih =>
       intro h hn
       obtain ⟨q1,q2⟩:=q
       simp only [look] at hn
       cases hq:Nat.beq q1 κ with
       | true=>rw [hq] at hn; cases hn
       | false =>
        rw [hq] at hn
        rcases List.mem_cons.1 h with h' | h'
        ·subst h'
         simp only at e
         rw [e,Nat.beq_refl] at hq
         cases hq
        ·exact ih h' (by simpa using hn)
     exact this lbs' hp hl'
    split at hb
    ·cases hb
    ·rename_i hnm
     exact .inr ⟨hnk,hnm,hb⟩
  have hgT:∀ κ b g c,κ ∉ lbs.map (·.1)→A.lb κ=some b→μ κ=some (some (g,c))→¬ Handed lbs μ g∧g < w.heap.size∧¬ S g:=by
   intro κ b g c hnm hb hμ
   have hm:=hs.mem κ b hb
   rw [hμ] at hm
   refine ⟨fun ⟨κ2,b2,c2,h1,h2⟩=>?_,hm.at.lt,hm.at.not⟩
   have:=hs.inj κ κ2 b b2 g c c2 hb (hlk _ _ h1) hμ h2
   rw [this] at hnm
   exact hnm (look_keys h1)
  refine ⟨?_,?_,fun t=>?_,fun κ b hb=>?_,fun κ1 κ2 b1 b2 g c c' h1 h2 h3 h4=>?_,fun κ b g c hb hμ=>?_,fun b hb=>B.sub b (hs.stable b hb),fun b hb=>?_,B.bound,?_⟩
  ·simp only [Act.put]; split <;> simp [hs.tmps]
  ·simp only [Act.put]; split <;> exact hs.defers
  ·simp only [Tr.apply]
   by_cases c:o.dst=some t
   ·simp only [c,if_true,Act.put]
    rw [getD_set_self _ _ _ (by rw [hs.tmps]; exact hd t c)]
    exact (B.res ν).agree (fun k hk=>ag' k (hc1 k hk))
   ·simp only [c,if_false]
    have e:(a.put o.dst v).tmps.getD t undef=a.tmps.getD t undef:=by
     cases hdst:o.dst with
     | none=>rfl
     | some d =>
      simp only [Act.put]
      exact getD_set_other _ _ _ _ (fun e=>c (by rw [hdst,e]))
    rw [e]
    exact old _ _ (hs.slots t) (fun k hk=>(hfr k hk).sl t)
  ·rcases hlb2 κ b hb with ⟨h1,h2⟩ | ⟨h1,h2,h3⟩
   ·rw [ag' κ h2]
    exact (B.mem κ b h1).agree (fun k hk=>ag' k (hc2 (κ,b) (look_mem h1) k hk))
   ·rw [ag κ h1]
    have hm:=hs.mem κ b h3
    refine (hm.mono B.sub hw (fun _ _ e=>e) (fun g c e=>?_)).agree (fun k hk=>ag k (fun hk'=>(hfr k hk').bl κ b h3 hk))
    obtain ⟨q1,q2,q3⟩:=hgT κ b g c h2 h3 e
    refine ⟨B.kept.block g q2 q1,fun hs'=>?_⟩
    rcases B.new g hs' with h | h | h
    ·exact q3 h
    ·omega
    ·exact q1 h
  ·rcases hlb2 κ1 b1 h1 with ⟨x1,x2⟩ | ⟨x1,x2,x3⟩
   ·rw [ag' κ1 x2] at h3
    rcases hlb2 κ2 b2 h2 with ⟨y1,y2⟩ | ⟨y1,y2,y3⟩
    ·rw [ag' κ2 y2] at h4
     exact B.inj κ1 κ2 b1 b2 g c c' x1 y1 h3 h4
    ·rw [ag κ2 y1] at h4
     obtain ⟨q1,q2,q3⟩:=hgT κ2 b2 g c' y2 y3 h4
     rcases B.own κ1 b1 g c x1 h3 with h | h
     ·omega
     ·exact absurd h q1
   ·rw [ag κ1 x1] at h3
    obtain ⟨q1,q2,q3⟩:=hgT κ1 b1 g c x2 x3 h3
    rcases hlb2 κ2 b2 h2 with ⟨y1,y2⟩ | ⟨y1,y2,y3⟩
    ·rw [ag' κ2 y2] at h4
     rcases B.own κ2 b2 g c' y1 h4 with h | h
     ·omega
     ·exact absurd h q1
    ·rw [ag κ2 y1] at h4
     exact hs.inj κ1 κ2 b1 b2 g c c' x3 y3 h3 h4
  ·rcases hlb2 κ b hb with ⟨h1,h2⟩ | ⟨h1,h2,h3⟩
   ·rw [ag' κ h2] at hμ
    rcases B.own κ b g c h1 hμ with h | h
    ·exact .inl (Nat.le_trans hs.kept.size h)
    ·exact hT g h
   ·rw [ag κ h1] at hμ
    exact hs.own κ b g c h3 hμ
  ·rcases B.new b hb with h | h | h
   ·exact hs.fresh b h
   ·exact .inr (.inl (Nat.le_trans hs.kept.size h))
   ·rcases hT b h with h' | h'
    ·exact .inr (.inl h')
    ·exact .inr (.inr h')
  ·refine hs.kept.trans B.kept (fun b hb h=>?_)
   rcases hT b h with h' | h'
   ·omega
   ·exact h'
def FnB (P:Program) (f:FuncId) (args:List AV) (lbs:List (Nat × Blk)) (res:AV) (lbs':List (Nat × Blk)) (anc:List (Nat × Nat)):Prop :=
 callable P f=true∧∀ (w:World) (S:Nat→Prop) (μ:Mu) (vs:Array Value),(∀ b,S b→b < w.heap.size)→GlobOK w S→(∀ ν,RelL w S μ ν args vs.toList)→(∀ κ b,look lbs κ=some b→BlkOK w S μ b (μ κ))→InjOn lbs μ →
  Calls P f vs w fun e w'=>∃ v S' μ',e=.returned v∧Back w S (Handed lbs μ) res lbs' v S' μ' w'∧∀ p,p∈anc→∀ ν,Rel w' S' μ' ν (.ptr p.2 0) (vs.toList.getD p.1 undef)
theorem core_call_bx {anc:List (Nat × Nat)} {o:Oper} {cf:Operand} {xs:Array Operand} {ts:Array TypeId} {f:FuncId} {args caps:List AV} {res:AV} {lbs lbs':List (Nat × Blk)} {need:List (Nat × AV)} {ro:List (Nat × Blk)} {gs:List (Nat × Bool)}
  (hs:Sim C A a w S μ ν) (hd:∀ t,o.dst=some t→t < C.nt) (ho:o.op=.call { callee:=.value cf,args:=xs,argTypes:=ts }) (hcf:Rel w S μ ν (.fn f caps) (a.eval cf)) (hargs:RelL w S μ ν args (xs.toList.map a.eval)) (hn:noG.noGL (args++caps)=true)
  (hfn:FnB C.P f (args++caps) lbs res lbs' anc) (hanc:∀ p,p∈anc→p.1 < (args++caps).length∧(args++caps).getD p.1 default=.ptr p.2 0∧(∃ cs,look lbs p.2=some (.box cs))∧∃ cs,look lbs' p.2=some (.box cs)) (hlb:∀ p,p∈lbs→A.lb p.1=some p.2) (hfr:∀ k,k∈lbs'.map (·.1)→k ∉ anc.map (·.2)→Fresh A k) (hc1:∀ k,k∈res.keys→k∈lbs'.map (·.1)∧k ∉ anc.map (·.2)) (hc2:∀ p,p∈lbs'→∀ k,k∈p.2.keys→k∈lbs'.map (·.1)∧k ∉ anc.map (·.2)) :
  o.wp C.P a w (fun a' w'=>∃ S' μ',Sim C ((Tr.mk need o.dst res ro lbs lbs' gs).apply A) a' w' S' μ' ν) (fun _ _ _=>False):=by
 generalize hcv:a.eval cf=cv at hcf
 cases hcf with
 | @fn _ _ cvs hl hh =>
  unfold Oper.wp
  rw [run_callOp ho hcv hfn.1]
  have hall:RelL w S μ ν (args++caps) (xs.map a.eval++cvs).toList:=by
   rw [Array.toList_append,Array.toList_map]
   exact hargs.append ⟨by simpa using hl,fun i hi=>by rw [← getD_toList]; exact hh i hi⟩
  have hlk:∀ κ b,look lbs κ=some b→A.lb κ=some b:=fun κ b h=>hlb (κ,b) (look_mem h)
  refine (hfn.2 w S μ (xs.map a.eval++cvs) hs.bound hs.glob (fun ν'=>hall.nu hn) (fun κ b hk=>hs.mem κ b (hlk κ b hk)) (fun κ κ' b b' g c c' h1 h2 h3 h4=>hs.inj κ κ' b b' g c c' (hlk _ _ h1) (hlk _ _ h2) h3 h4)).mono ?_
  rintro e w' ⟨v,S',μ',rfl,B,ha⟩
  have hadr:∀ κ,κ∈anc.map (·.2)→κ∈lbs'.map (·.1)∧(∃ cs,look lbs' κ=some (.box cs))∧∃ g c c',μ κ=some (some (g,c))∧μ' κ=some (some (g,c')):=by
   intro κ hκ
   obtain ⟨p,hp,rfl⟩:=List.mem_map.1 hκ
   obtain ⟨h1,h2,-,cs,h4⟩:=hanc p hp
   have h5:=hall.2 p.1 h1
   rw [h2] at h5
   have h6:=ha p hp ν
   generalize (xs.map a.eval++cvs).toList.getD p.1 undef=u at h5 h6
   refine ⟨look_keys h4,⟨cs,h4⟩,?_⟩
   cases h5 with
   | @ptr _ _ g c hμ =>
    cases h6 with
    | @ptr _ _ _ c' hμ'=>exact ⟨g,c,c',hμ,hμ'⟩
  have hT:∀ q,Handed lbs μ q→C.w0.heap.size≤q∨C.T0 q:=fun q ⟨κ,b,c,h1,h2⟩=>hs.own κ b q c (hlk κ b h1) h2
  have hTs:∀ q,Handed lbs μ q→¬ S q:=fun q ⟨κ,b,c,h1,h2⟩=>by
   have:=hs.mem κ b (hlk κ b h1)
   rw [h2] at this
   exact this.at.not
  have hw:∀ q,S q→w'.heap[q]? = w.heap[q]?:=fun q hq=>B.kept.block q (hs.bound q hq) (fun ht=>hTs q ht hq)
  let μ'':Mu:=fun k=>if k∈anc.map (·.2) then μ k else if k∈lbs'.map (·.1) then μ' k else μ k
  have ag:∀ k,(k∈lbs'.map (·.1)→k∈anc.map (·.2))→μ'' k=μ k:=fun k hk=>by
   simp only [μ'']
   by_cases h1:k∈anc.map (·.2)
   ·rw [if_pos h1]
   ·rw [if_neg h1,if_neg (fun h=>h1 (hk h))]
  have ag':∀ k,k∈lbs'.map (·.1)→k ∉ anc.map (·.2)→μ'' k=μ' k:=fun k hk hn=>by simp only [μ'']; rw [if_neg hn,if_pos hk]
  have tr:∀ k g c,k∈lbs'.map (·.1)→μ'' k=some (some (g,c))→∃ c',μ' k=some (some (g,c')):=fun k g c hk h=>by
   by_cases h1:k∈anc.map (·.2)
   ·obtain ⟨-,-,g',c1,c2,e1,e2⟩:=hadr k h1
    rw [ag k (fun _=>h1),e1] at h
    simp only [Option.some.injEq,Prod.mk.injEq] at h
    obtain ⟨rfl,rfl⟩:=h
    exact ⟨c2,e2⟩
   ·rw [ag' k hk h1] at h
    exact ⟨c,h⟩
  have old:∀ x v,Rel w S μ ν x v→(∀ k,k∈lbs'.map (·.1)→k ∉ anc.map (·.2)→k ∉ x.keys)→Rel w' S' μ'' ν x v:=fun x v hr hk =>
   (hr.mono B.sub hw (fun _ _ e=>e)).agree (fun k hkx=>ag k (fun hk'=>Classical.byContradiction (fun hn=>hk k hk' hn hkx)))
  refine ⟨S',μ'',?_⟩
  have hlb2:∀ κ b,((Tr.mk need o.dst res ro lbs lbs' gs).apply A).lb κ=some b→(look lbs' κ=some b∧κ∈lbs'.map (·.1))∨(κ ∉ lbs'.map (·.1)∧κ ∉ lbs.map (·.1)∧A.lb κ=some b):=by
   intro κ b hb
   simp only [Tr.apply] at hb
   cases hl':look lbs' κ with
   | some b' =>
    rw [hl'] at hb
    simp only [Option.some.injEq] at hb
    subst hb
    exact .inl ⟨rfl,look_keys hl'⟩
   | none =>
    rw [hl'] at hb
    simp only at hb
    have hnk:κ ∉ lbs'.map (·.1):=fun hk=>by
     obtain ⟨p,hp,e⟩:=List.mem_map.1 hk
     have:∀ (l:List (Nat × Blk)),p∈l→look l κ≠none:=by
      intro l
      induction l with
      | nil=>intro h; cases h
      | cons q r ih =>
       intro h hn
       obtain ⟨q1,q2⟩:=q
       simp only [look] at hn
       cases hq:Nat.beq q1 κ with
       | true=>rw [hq] at hn; cases hn
       | false =>
        rw [hq] at hn
        rcases List.mem_cons.1 h with h' | h'
        ·subst h'
         simp only at e
         rw [e,Nat.beq_refl] at hq
         cases hq
        ·exact ih h' (by simpa using hn)
     exact this lbs' hp hl'
    split at hb
    ·cases hb
    ·rename_i hnm
     exact .inr ⟨hnk,hnm,hb⟩
  have hgT:∀ κ b g c,κ ∉ lbs.map (·.1)→A.lb κ=some b→μ κ=some (some (g,c))→¬ Handed lbs μ g∧g < w.heap.size∧¬ S g:=by
   intro κ b g c hnm hb hμ
   have hm:=hs.mem κ b hb
   rw [hμ] at hm
   refine ⟨fun ⟨κ2,b2,c2,h1,h2⟩=>?_,hm.at.lt,hm.at.not⟩
   have:=hs.inj κ κ2 b b2 g c c2 hb (hlk _ _ h1) hμ h2
   rw [this] at hnm
   exact hnm (look_keys h1)
  refine ⟨?_,?_,fun t=>?_,fun κ b hb=>?_,fun κ1 κ2 b1 b2 g c c' h1 h2 h3 h4=>?_,fun κ b g c hb hμ=>?_,fun b hb=>B.sub b (hs.stable b hb),fun b hb=>?_,B.bound,?_⟩
  ·simp only [Act.put]; split <;> simp [hs.tmps]
  ·simp only [Act.put]; split <;> exact hs.defers
  ·simp only [Tr.apply]
   by_cases c:o.dst=some t
   ·simp only [c,if_true,Act.put]
    rw [getD_set_self _ _ _ (by rw [hs.tmps]; exact hd t c)]
    exact (B.res ν).agree (fun k hk=>ag' k (hc1 k hk).1 (hc1 k hk).2)
   ·simp only [c,if_false]
    have e:(a.put o.dst v).tmps.getD t undef=a.tmps.getD t undef:=by
     cases hdst:o.dst with
     | none=>rfl
     | some d =>
      simp only [Act.put]
      exact getD_set_other _ _ _ _ (fun e=>c (by rw [hdst,e]))
    rw [e]
    exact old _ _ (hs.slots t) (fun k hk hn=>(hfr k hk hn).sl t)
  ·rcases hlb2 κ b hb with ⟨h1,h2⟩ | ⟨h1,h2,h3⟩
   ·have hm:=B.mem κ b h1
    have hk2:∀ k,k∈b.keys→μ'' k=μ' k:=fun k hk=>ag' k (hc2 (κ,b) (look_mem h1) k hk).1 (hc2 (κ,b) (look_mem h1) k hk).2
    by_cases hn:κ∈anc.map (·.2)
    ·obtain ⟨-,⟨cs,e0⟩,g',c1,c2,e1,e2⟩:=hadr κ hn
     rw [h1] at e0
     simp only [Option.some.injEq] at e0
     subst e0
     rw [ag κ (fun _=>hn),e1]
     rw [e2] at hm
     have h3:BlkAt w' S' μ' (.box cs) g' c1:=hm.at
     exact BlkAt.ok (b:=.box cs) (h3.agree hk2)
    ·rw [ag' κ h2 hn]
     exact hm.agree hk2
   ·rw [ag κ (fun h=>absurd h h1)]
    have hm:=hs.mem κ b h3
    refine (hm.mono B.sub hw (fun _ _ e=>e) (fun g c e=>?_)).agree (fun k hk=>ag k (fun hk'=>Classical.byContradiction (fun hn=>(hfr k hk' hn).bl κ b h3 hk)))
    obtain ⟨q1,q2,q3⟩:=hgT κ b g c h2 h3 e
    refine ⟨B.kept.block g q2 q1,fun hs'=>?_⟩
    rcases B.new g hs' with h | h | h
    ·exact q3 h
    ·omega
    ·exact q1 h
  ·rcases hlb2 κ1 b1 h1 with ⟨x1,x2⟩ | ⟨x1,x2,x3⟩
   ·obtain ⟨d1,h3⟩:=tr κ1 g c x2 h3
    rcases hlb2 κ2 b2 h2 with ⟨y1,y2⟩ | ⟨y1,y2,y3⟩
    ·obtain ⟨d2,h4⟩:=tr κ2 g c' y2 h4
     exact B.inj κ1 κ2 b1 b2 g d1 d2 x1 y1 h3 h4
    ·rw [ag κ2 (fun h=>absurd h y1)] at h4
     obtain ⟨q1,q2,q3⟩:=hgT κ2 b2 g c' y2 y3 h4
     rcases B.own κ1 b1 g d1 x1 h3 with h | h
     ·omega
     ·exact absurd h q1
   ·rw [ag κ1 (fun h=>absurd h x1)] at h3
    obtain ⟨q1,q2,q3⟩:=hgT κ1 b1 g c x2 x3 h3
    rcases hlb2 κ2 b2 h2 with ⟨y1,y2⟩ | ⟨y1,y2,y3⟩
    ·obtain ⟨d2,h4⟩:=tr κ2 g c' y2 h4
     rcases B.own κ2 b2 g d2 y1 h4 with h | h
     ·omega
     ·exact absurd h q1
    ·rw [ag κ2 (fun h=>absurd h y1)] at h4
     exact hs.inj κ1 κ2 b1 b2 g c c' x3 y3 h3 h4
  ·rcases hlb2 κ b hb with ⟨h1,h2⟩ | ⟨h1,h2,h3⟩
   ·obtain ⟨d1,hμ⟩:=tr κ g c h2 hμ
    rcases B.own κ b g d1 h1 hμ with h | h
    ·exact .inl (Nat.le_trans hs.kept.size h)
    ·exact hT g h
   ·rw [ag κ (fun h=>absurd h h1)] at hμ
    exact hs.own κ b g c h3 hμ
  ·rcases B.new b hb with h | h | h
   ·exact hs.fresh b h
   ·exact .inr (.inl (Nat.le_trans hs.kept.size h))
   ·rcases hT b h with h' | h'
    ·exact .inr (.inl h')
    ·exact .inr (.inr h')
  ·refine hs.kept.trans B.kept (fun b hb h=>?_)
   rcases hT b h with h' | h'
   ·omega
   ·exact h'
def FnS (P:Program) (f:FuncId) (args:List AV) (κ:Nat) (b b':Blk):Prop :=
 callable P f=true∧∀ (w:World) (S:Nat→Prop) (μ:Mu) (vs:Array Value),(∀ b,S b→b < w.heap.size)→GlobOK w S→(∀ ν,RelL w S μ ν args vs.toList)→BlkOK w S μ b (μ κ) →
  Calls P f vs w fun e w'=>(∃ v,e=.returned v)∧BlkOK w' S μ b' (μ κ)∧Kept w w' (fun q=>∃ c,μ κ=some (some (q,c)))
theorem core_call_same {o:Oper} {cf:Operand} {xs:Array Operand} {ts:Array TypeId} {f:FuncId} {args caps:List AV} {κ:Nat} {b b':Blk} {need:List (Nat × AV)} {ro:List (Nat × Blk)} {gs:List (Nat × Bool)}
  (hs:Sim C A a w S μ ν) (hd:∀ t,o.dst=some t→t < C.nt) (ho:o.op=.call { callee:=.value cf,args:=xs,argTypes:=ts }) (hcf:Rel w S μ ν (.fn f caps) (a.eval cf)) (hargs:RelL w S μ ν args (xs.toList.map a.eval)) (hn:noG.noGL (args++caps)=true)
  (hfn:FnS C.P f (args++caps) κ b b') (hκ:A.lb κ=some b) :
  o.wp C.P a w (fun a' w'=>∃ S' μ',Sim C ((Tr.mk need o.dst .any ro [(κ,b)] [(κ,b')] gs).apply A) a' w' S' μ' ν) (fun _ _ _=>False):=by
 generalize hcv:a.eval cf=cv at hcf
 cases hcf with
 | @fn _ _ cvs hl hh =>
  unfold Oper.wp
  rw [run_callOp ho hcv hfn.1]
  have hall:RelL w S μ ν (args++caps) (xs.map a.eval++cvs).toList:=by
   rw [Array.toList_append,Array.toList_map]
   exact hargs.append ⟨by simpa using hl,fun i hi=>by rw [← getD_toList]; exact hh i hi⟩
  refine (hfn.2 w S μ (xs.map a.eval++cvs) hs.bound hs.glob (fun ν'=>hall.nu hn) (hs.mem κ b hκ)).mono ?_
  rintro e w' ⟨⟨v,rfl⟩,hb',hk⟩
  have hg:∀ q,(∃ c,μ κ=some (some (q,c)))→¬ S q:=fun q ⟨c,hc⟩=>by
   have:=hs.mem κ b hκ
   rw [hc] at this
   exact this.at.not
  have hw:∀ q,S q→w'.heap[q]? = w.heap[q]?:=fun q hq=>hk.block q (hs.bound q hq) (fun h=>hg q h hq)
  have h1:Sim C (A.set κ (some b')) a w' S μ ν:=by
   refine ⟨hs.tmps,hs.defers,fun t=>(hs.slots t).mono (fun _ x=>x) hw (fun _ _ e=>e),fun κ' bk hbk=>?_,fun κ1 κ2 b1 b2 g c c' h1 h2 h3 h4=>?_,fun κ' bk g c h1 h2=>?_,hs.stable,hs.fresh,fun q hq=>Nat.lt_of_lt_of_le (hs.bound q hq) hk.size,?_⟩
   ·simp only [M.set] at hbk
    by_cases e:κ'=κ
    ·subst e
     simp only [if_true,Option.some.injEq] at hbk
     subst hbk
     exact hb'
    ·simp only [e,if_false] at hbk
     have hm:=hs.mem κ' bk hbk
     refine hm.mono (fun _ x=>x) hw (fun _ _ e=>e) (fun g c hgc=>?_)
     rw [hgc] at hm
     exact ⟨hk.block g hm.at.lt (fun ⟨c',hc'⟩=>e (hs.inj κ' κ bk b g c c' hbk hκ hgc hc')),hm.at.not⟩
   ·have get:∀ k bk,(A.set κ (some b')).lb k=some bk→∃ bk',A.lb k=some bk':=fun k bk h=>by
     simp only [M.set] at h
     by_cases e:k=κ
     ·subst e; exact ⟨b,hκ⟩
     ·simp only [e,if_false] at h; exact ⟨bk,h⟩
    obtain ⟨b1',q1⟩:=get _ _ h1
    obtain ⟨b2',q2⟩:=get _ _ h2
    exact hs.inj κ1 κ2 b1' b2' g c c' q1 q2 h3 h4
   ·simp only [M.set] at h1
    by_cases e:κ'=κ
    ·subst e; exact hs.own κ' b g c hκ h2
    ·simp only [e,if_false] at h1; exact hs.own κ' bk g c h1 h2
   ·exact hs.kept.trans hk (fun q hq ⟨c,hc⟩=>by
     rcases hs.own κ b q c hκ hc with h | h
     ·omega
     ·exact h)
  refine ⟨S,μ,?_⟩
  have e:(Tr.mk need o.dst .any ro [(κ,b)] [(κ,b')] gs).apply A=(A.set κ (some b')).putO o.dst .any:=by
   cases hdst:o.dst with
   | none=>exact apply_write _
   | some d =>
    have:=apply_write (A:=A) (κ:=κ) (b:=b) (b':=b') (need:=need) (ro:=ro) (gs:=gs) .any
    unfold Tr.apply at this ⊢
    simp only [M.putO,M.put,M.set,M.mk.injEq,Option.some.injEq] at this ⊢
    refine ⟨?_,this.2⟩
    funext t
    by_cases c:t=d
    ·simp [c]
    ·have:¬ d=t:=fun e=>c e.symm
     simp [c,this]
  rw [e]
  exact h1.put hd (.any _)
end
def zerosA (n k:Nat) (z:List D):List AV:=(List.range n).map fun q=>.d (z.getD (q % k) default)
section
variable {C : Cx} {A : M} {a : Act} {w : World} {S : Nat → Prop} {μ : Mu} {ν : Nat → Bool}
def unN (ρ:Operand→Option AV) (x:Operand):Option AV:=match ρ x with
 | some (.nns n f)=>some (.d (.sl n f))
 | y=>y
theorem unN_ok {ρ:Operand→Option AV} (h:∀ x y,ρ x=some y→Rel w S μ ν y (a.eval x)):∀ x y,unN ρ x=some y→Rel w S μ ν y (a.eval x):=by
 intro x y hy
 unfold unN at hy
 split at hy
 ·rename_i n f hx
  have h1:=h x _ hx
  obtain rfl:=Option.some.inj hy
  generalize a.eval x=v at h1
  cases h1 with
  | nns hd=>exact .d hd
 ·exact h x y hy
def buildCells (T:List (Nat × TI)) (ρ:Operand→Option AV) (t len:Nat) (ps:List (Nat × Operand)):Option (Nat × Nat × List D) :=
 match look T t,valsOf ρ ps with
 | some { kind:=.slice e,.. },some vs=>(match look T e with
  | some i=>bif Nat.ble (len * i.size) 16777216&&Nat.ble 1 i.size then (match fillA (fun q=>some (q * i.size,i.size)) (zerosA (len * i.size) i.size i.zero) vs with
   | some cs=>(match pureL cs with | some ds=>bif Nat.beq ds.length (len * i.size) then some (e,i.size,ds) else none | none=>none)
   | none=>none) else none
  | none=>none)
 | _,_=>none
theorem buildCells_run {P:Program} {T:List (Nat × TI)} (hT:TOk P T) {ρ:Operand→Option AV} (hρ:∀ x y,ρ x=some y→Rel w S μ ν y (a.eval x)) {t len:Nat} {ps:Array (Nat × Operand)} {e k:Nat} {ds:List D} (h:buildCells T ρ t len ps.toList=some (e,k,ds)) :
  ∃ cells:Array Value,(Instr.buildSlice t len (ps.map fun (i,x)=>(i,a.eval x))).run P w=.ok (.slice (some ⟨w.heap.size,0,none⟩) len len) (w.alloc (.cells cells e))∧cells.size=len * k∧RowCells w S k len (rowF k len ds) cells.toList∧ds.length=len * k∧len≤maxLen:=by
 unfold buildCells at h
 split at h
 ·rename_i e' _ _ _ _ vs hl hv
  split at h
  ·rename_i i hi
   cases hb:(Nat.ble (len * i.size) 16777216&&Nat.ble 1 i.size) with
   | false=>rw [hb] at h; cases h
   | true =>
    rw [hb] at h
    simp only [Bool.and_eq_true] at hb
    have hle:=Nat.le_of_ble_eq_true hb.1
    have hpos:=Nat.le_of_ble_eq_true hb.2
    simp only [cond_true] at h
    split at h
    ·rename_i cs hcs
     split at h
     ·rename_i ds' hp
      cases hb2:Nat.beq ds'.length (len * i.size) with
      | false=>rw [hb2] at h; cases h
      | true =>
       rw [hb2] at h
       have hdl:=Nat.eq_of_beq_eq_true hb2
       simp only [cond_true,Option.some.injEq,Prod.mk.injEq] at h
       obtain ⟨rfl,rfl,rfl⟩:=h
       have ecs:=pureL_spec hp
       subst ecs
       obtain ⟨ti,z,F⟩:=tiOK_facts (hT t _ hl)
       have hu:=kind_slice F.kind
       obtain ⟨tj,zj,G⟩:=tiOK_facts (hT e' _ hi)
       obtain ⟨q1,q2⟩:=zeroOK_rd (w:=w) (S:=S) G.zok
       have hzs:zj.cells.size=i.size:=by rw [← G.zlen,← q1]; simp
       have hz:RelL w S μ ν (zerosA (len * i.size) i.size i.zero) ((Array.range (len * i.size)).map (zj.cells[· % zj.cells.size]!)).toList:=by
        refine ⟨by simp [zerosA],fun q hq=>?_⟩
        have hq':q < len * i.size:=by simpa [zerosA] using hq
        have hm:q % i.size < i.size:=Nat.mod_lt _ hpos
        have e1:(zerosA (len * i.size) i.size i.zero).getD q default=.d (i.zero.getD (q % i.size) default):=by simp [zerosA,List.getD,hq']
        have e2:((Array.range (len * i.size)).map (zj.cells[· % zj.cells.size]!)).toList.getD q undef=zj.cells.toList.getD (q % i.size) undef:=by
         have h1:q % i.size < zj.cells.size:=by omega
         simp only [List.getD,Array.getElem?_toList,Array.getElem?_map,Array.getElem?_range,hq',if_true,Option.map_some,Option.getD_some,hzs]
         rw [getElem!_pos zj.cells _ h1,Array.getElem?_eq_getElem h1]
         rfl
        rw [e1,e2]
        exact .d (q2 _ (by rw [G.zlen]; exact hm))
       obtain ⟨v1,v2⟩:=valsOf_rel hρ ps.toList vs hv
       obtain ⟨cur',hf,hr⟩:=fillA_run (fun q=>some (q * i.size,i.size)) vs (ps.toList.map fun p=>(p.1,a.eval p.2)) _ _ ((Array.range (len * i.size)).map (zj.cells[· % zj.cells.size]!)) hz v1 v2 hcs
       have hcl:cur'.size=len * i.size:=by have:=hr.1; simp at this; omega
       refine ⟨cur',?_,hcl,⟨by simpa using hcl,fun q hq=>⟨(rowF_get hdl hq).1,fun j hj=>?_⟩⟩,hdl,?_⟩
       ·have hps:(ps.map fun (i,x)=>(i,a.eval x)).toList=ps.toList.map fun p=>(p.1,a.eval p.2):=by simp
        have hn:¬ len * i.size > 2 ^ 24:=by omega
        simp only [Instr.buildSlice,Sem.run_bind,run_underlying hu,Result.andThen_ok,sizeOf,typeInfo,run_program,G.info,Sem.run_pure,G.size,Sem.run_ite,hn,if_false,hps]
        by_cases h0:len * i.size=0
        ·rw [h0] at hcl hf
         simp only [h0,if_true]
         have:∀ (g g':Nat→Value),(Array.range 0).map g=(Array.range 0).map g':=fun g g'=>by simp
         rw [this _ (zj.cells[· % zj.cells.size]!),hf]
         simp [newRow]
        ·simp only [h0,if_false,zeroValue,typeInfo,Sem.run_bind,run_program,Result.andThen_ok,G.info,Sem.run_pure,G.zero]
         rw [hf]
         simp [newRow]
       ·rw [(rowF_get hdl hq).2 j hj]
        have hlt:q * i.size+j < ds'.length:=by
         rw [hdl]
         calc q * i.size+j < q * i.size+i.size:=by omega
          _=(q+1) * i.size:=by rw [Nat.add_mul,Nat.one_mul]
          _≤len * i.size:=Nat.mul_le_mul_right _ hq
        have:=hr.2 (q * i.size+j) (by simpa using hlt)
        rw [getD_mapd _ _ hlt] at this
        exact rel_d.1 this
       ·have:len * 1≤len * i.size:=Nat.mul_le_mul_left len hpos
        simp only [maxLen]
        omega
     ·cases h
    ·cases h
  ·cases h
 ·cases h
theorem core_buildSlice {T:List (Nat × TI)} (hT:TOk C.P T) {o:Oper} {dst t len:Nat} {ps:Array (Nat × Operand)} {e k:Nat} {ds:List D} {ρ:Operand→Option AV} {need:List (Nat × AV)} {ro:List (Nat × Blk)} {gs:List (Nat × Bool)}
  (hs:Sim C A a w S μ ν) (hd:o.dst=some dst) (hdt:dst < C.nt) (ho:o.op=.buildSlice t len ps) (hρ:∀ x y,ρ x=some y→Rel w S μ ν y (a.eval x)) (h:buildCells T ρ t len ps.toList=some (e,k,ds)) (hf:Fresh A dst) :
  o.wp C.P a w (fun a' w'=>∃ S' μ',Sim C ((Tr.mk need (some dst) (.own dst len) ro [] [(dst,.row e k len (rowF k len ds))] gs).apply A) a' w' S' μ' ν) (fun _ _ _=>False):=by
 obtain ⟨cells,hrun,hsz,hrow,_,hml⟩:=buildCells_run hT hρ h
 unfold Oper.wp execOp
 simp only [ho,Sem.run_bind,hrun,Result.andThen_ok,Sem.run_pure]
 have hns:¬ S w.heap.size:=fun h=>by have:=hs.bound _ h; omega
 have hw:∀ q,S q→(w.alloc (.cells cells e)).heap[q]? = w.heap[q]?:=fun q hq=>heap_alloc_old w _ (hs.bound q hq)
 have h1:=hs.alloc hf (b:=.row e k len (rowF k len ds)) (cur:=cells) (e:=e) (cap:=len) (by simp [Blk.keys]) (rowAt_mk (heap_alloc_new w _) hns hsz (Nat.le_refl _) hml (by rw [← hsz,← Array.length_toList,List.take_length]) (hrow.mono (fun _ x=>x) hw))
 have h2:=h1.put (dst:=some dst) (x:=.own dst len) (v:=.slice (some ⟨w.heap.size,0,none⟩) len len) (fun t ht=>by cases ht; exact hdt) (.own (by simp [muSet]))
 rw [apply_new]
 exact ⟨S,_,by rw [hd]; exact h2⟩
theorem core_make {T:List (Nat × TI)} (hT:TOk C.P T) {o:Oper} {dst t e:Nat} {l c:Operand} {it i:TI} {kl kc:IntKind} {n:Int} {need:List (Nat × AV)} {ro:List (Nat × Blk)} {gs:List (Nat × Bool)}
  (hs:Sim C A a w S μ ν) (hd:o.dst=some dst) (hdt:dst < C.nt) (ho:o.op=.makeSlice t l c) (ht:look T t=some it) (hk:it.kind=.slice e) (he:look T e=some i) (hl:a.eval l=.int kl n) (hc:a.eval c=.int kc n)
  (h0:0≤n) (hm:n.toNat≤maxLen) (hb:n.toNat * i.bytes≤140737488355328) (hf:Fresh A dst) :
  o.wp C.P a w (fun a' w'=>∃ S' μ',Sim C ((Tr.mk need (some dst) (.own dst n.toNat) ro [] [(dst,.row e i.size n.toNat fun _=>i.zero)] gs).apply A) a' w' S' μ' ν) (fun _ _ _=>False):=by
 obtain ⟨tj,z,F⟩:=tiOK_facts (hT _ _ ht)
 obtain ⟨ej,ez,G⟩:=tiOK_facts (hT _ _ he)
 have hkk:=F.kind
 rw [hk] at hkk
 have hu:=kind_slice hkk
 have hml:n≤9223372036854775807:=by have:=hm; simp only [maxLen] at this; omega
 have hbb:(ej.bytes:Int) * n≤281474976710656:=by
  rw [G.bytes]
  have h1:((i.bytes * n.toNat:Nat):Int)≤281474976710656:=by rw [Nat.mul_comm]; omega
  rw [Int.natCast_mul,Int.toNat_of_nonneg h0] at h1
  exact h1
 have hrun:=run_make (P:=C.P) w t e ej ez hu G.info G.zero kl kc n n h0 (Int.le_refl _) hbb hml
 rw [G.size] at hrun
 unfold Oper.wp execOp
 simp only [ho,hl,hc,Sem.run_bind,hrun,Result.andThen_ok,Sem.run_pure]
 have hns:¬ S w.heap.size:=fun h=>by have:=hs.bound _ h; omega
 have hw:∀ q,S q→(w.alloc (.cells (madeCells ez.cells (n.toNat * i.size)) e)).heap[q]? = w.heap[q]?:=fun q hq=>heap_alloc_old w _ (hs.bound q hq)
 obtain ⟨q1,q2⟩:=zeroOK_rd (w:=w) (S:=S) G.zok
 have hzl:ez.cells.size=i.size:=by have:=q1; simp only [Array.length_toList] at this; rw [this,G.zlen]
 have hrow:RowCells w S i.size n.toNat (fun _=>i.zero) (madeCells ez.cells (n.toNat * i.size)).toList:=by
  refine ⟨by simp [size_madeCells],fun q hq=>⟨G.zlen,fun j hj=>?_⟩⟩
  have hlt:q * i.size+j < n.toNat * i.size:=by
   calc q * i.size+j < q * i.size+i.size:=by omega
    _=(q+1) * i.size:=by rw [Nat.add_mul,Nat.one_mul]
    _≤n.toNat * i.size:=Nat.mul_le_mul_right _ hq
  have e1:(madeCells ez.cells (n.toNat * i.size)).toList.getD (q * i.size+j) undef=ez.cells.toList.getD j undef:=by
   have hj':j < ez.cells.size:=by omega
   have hmod:(q * i.size+j) % ez.cells.size=j:=by rw [hzl,Nat.mul_comm,Nat.mul_add_mod,Nat.mod_eq_of_lt hj]
   simp [madeCells,List.getD,hlt,hmod,hj']
  rw [e1]
  exact q2 j (by rw [G.zlen]; exact hj)
 have h1:=hs.alloc hf (b:=.row e i.size n.toNat fun _=>i.zero) (cur:=madeCells ez.cells (n.toNat * i.size)) (e:=e) (cap:=n.toNat) (by simp [Blk.keys]) (rowAt_mk (heap_alloc_new w _) hns (size_madeCells _ _) (Nat.le_refl _) hm (List.take_of_length_le (by simp [size_madeCells])) (hrow.mono (fun _ x=>x) hw))
 have h2:=h1.put (dst:=some dst) (x:=.own dst n.toNat) (v:=.slice (some ⟨w.heap.size,0,none⟩) n.toNat n.toNat) (fun t ht=>by cases ht; exact hdt) (.own (by simp [muSet]))
 rw [apply_new]
 exact ⟨S,_,by rw [hd]; exact h2⟩
def byteV:List D→UInt8
 | [.v (.int _ k)]=>UInt8.ofNat k.toNat
 | _=>0
def bytQ (ds:List D):Prop:=∃ k,ds=[.v (.int .u8 k)]
def strB (n:Nat) (f:Nat→List D):ByteArray:=⟨((List.range n).map fun i=>byteV (f i)).toArray⟩
def ifcV:List D→Option (List Value)
 | []=>some []
 | .v x :: r=>(match ifcV r with | some l=>bif scal0 x then some (x :: l) else none | none=>none)
 | _ :: _=>none
theorem ifcV_spec:∀ {cs:List D} {l:List Value},ifcV cs=some l→cs=l.map .v∧l.all scal0=true
 | [],l,h=>by simp only [ifcV,Option.some.injEq] at h; subst h; exact ⟨rfl,rfl⟩
 | .v x :: r,l,h=>by
  simp only [ifcV] at h
  split at h
  ·rename_i l' hl
   cases hx:scal0 x with
   | false=>rw [hx] at h; cases h
   | true =>
    rw [hx] at h
    simp only [cond_true,Option.some.injEq] at h
    subst h
    obtain ⟨h1,h2⟩:=ifcV_spec hl
    exact ⟨by rw [h1]; rfl,by simp [hx]; simpa using h2⟩
  ·cases h
 | .agg _ :: _,_,h=>by cases h
 | .sl _ _ :: _,_,h=>by cases h
 | .mp _ _ _ :: _,_,h=>by cases h
theorem core_buildPure {T:List (Nat × TI)} (hT:TOk C.P T) {o:Oper} {t len:Nat} {ps:Array (Nat × Operand)} {e k:Nat} {ds:List D} {ρ:Operand→Option AV} {τ:Tr}
  (hs:Sim C A a w S μ ν) (hd:∀ t,o.dst=some t→t < C.nt) (ho:o.op=.buildSlice t len ps) (hρ:∀ x y,ρ x=some y→Rel w S μ ν y (a.eval x)) (h:buildCells T ρ t len ps.toList=some (e,k,ds))
  (h0:τ.v=.d (.sl len (rowF k len ds))) (h1:τ.dst=o.dst) (h2:τ.mem=[]) (h3:τ.mem'=[]) :
  o.wp C.P a w (fun a' w'=>∃ S' μ',Sim C (τ.apply A) a' w' S' μ' ν) (fun _ _ _=>False):=by
 obtain ⟨cells,hrun,hsz,hrow,_,hml⟩:=buildCells_run hT hρ h
 unfold Oper.wp execOp
 simp only [ho,Sem.run_bind,hrun,Result.andThen_ok,Sem.run_pure]
 let S':Nat→Prop:=fun q=>S q∨q=w.heap.size
 have h4:=hs.world (S':=S') (w':=w.alloc (.cells cells e)) (fun _ x=>.inl x) (fun q hq=>hq.elim .inl (fun e=>.inr ⟨by omega,by rw [e]; simp⟩)) (kept_alloc w _ _)
 have hrd:Rd (w.alloc (.cells cells e)) S' (.sl len (rowF k len ds)) (.slice (some ⟨w.heap.size,0,none⟩) len len):=by
  refine .sl len _ ⟨w.heap.size,0,none⟩ len k (fun i j=>cells.toList.getD (i * k+j) undef) (Nat.le_refl _) hml (.inr rfl) (fun i hi=>(hrow.2 i hi).1) (fun i j hi hj=>⟨.inr rfl,?_⟩) (fun i j hi hj=>?_)
  ·have hlt:i * k+j < cells.size:=by
    rw [hsz]
    calc i * k+j < i * k+k:=by omega
     _=(i+1) * k:=by rw [Nat.add_mul,Nat.one_mul]
     _≤len * k:=Nat.mul_le_mul_right k hi
   rw [cell_row _ _ _ cells e (0,0) (heap_alloc_new w _)]
   simp [List.getD,hlt]
  ·exact ((hrow.2 i hi).2 j hj).mono (fun _ x=>.inl x) (fun q hq=>heap_alloc_old w _ (hs.bound q hq))
 have h5:=h4.put (dst:=o.dst) (x:=.d (.sl len (rowF k len ds))) (v:=.slice (some ⟨w.heap.size,0,none⟩) len len) hd (.d hrd)
 refine ⟨S',μ,?_⟩
 have e:τ.apply A=A.putO o.dst (.d (.sl len (rowF k len ds))):=by
  unfold Tr.apply M.putO M.put
  rw [h0,h1,h2,h3]
  cases ho:o.dst with
  | none=>simp [look]
  | some d =>
   simp only [look,List.map_nil,List.not_mem_nil,if_false,Option.some.injEq]
   congr 1
   funext t
   by_cases c:d=t
   ·simp [c]
   ·have:¬ t=d:=fun e=>c e.symm
    simp [c,this]
 rw [e]
 exact h5
def evBytes (T:List (Nat × TI)) (ρ:Operand→Option AV):Op→Option (AV × Ob)
 | .convert src d x=>(match ρ x,look T src,look T d with
  | some (.d (.v (.string s))),some _,some { kind:=.slice e,.. }=>(match look T e with
   | some { kind:=.int .u8,.. }=>some (.d (.sl s.size fun i=>[.v (.int .u8 (s.data.toList.getD i 0).toNat)]),.pr (s.size≤maxLen))
   | _=>none)
  | some (.d (.sl n f)),some { kind:=.slice e,.. },some { kind:=.str,.. }=>(match look T e with
   | some { kind:=.int .u8,.. }=>some (.d (.v (.string (strB n f))),.pr (∀ i,i < n→bytQ (f i)))
   | _=>none)
  | _,_,_=>none)
 | .makeInterface t x=>(match ρ x,look T t with
  | some (.d (.agg cs)),some { kind:=.struct _,.. }=>(match ifcV cs with
   | some l=>some (.d (.v (.iface t (.agg l.toArray))),.tt)
   | none=>none)
  | _,_=>none)
 | _=>none
theorem evBytes_wp {T:List (Nat × TI)} (hT:TOk C.P T) (hs:Sim C A a w S μ ν) {o:Oper} {ρ:Operand→Option AV} (hρ:∀ x y,ρ x=some y→Rel w S μ ν y (a.eval x)) (hd:∀ t,o.dst=some t→t < C.nt) {v:AV} {ob:Ob} (h:evBytes T ρ o.op=some (v,ob)) (hob:ob.den) (need:List (Nat × AV)) (ro:List (Nat × Blk)) (gs:List (Nat × Bool)) :
  o.wp C.P a w (fun a' w'=>∃ S' μ',Sim C ((Tr.mk need o.dst v ro [] [] gs).apply A) a' w' S' μ' ν) (fun _ _ _=>False):=by
 unfold evBytes at h
 split at h
 ·rename_i src d x ho
  split at h
  ·rename_i s ti e _ _ _ _ hx hsrc hdst
   split at h
   ·rename_i _ _ _ _ he
    simp only [Option.some.injEq,Prod.mk.injEq] at h
    obtain ⟨rfl,rfl⟩:=h
    have hob:s.size≤maxLen:=hob
    have hv:=rel_scalar rfl (hρ _ _ hx)
    obtain ⟨ds,hds⟩:∃ q,C.P.underlying src=some q:=by
     obtain ⟨tj,zj,G⟩:=tiOK_facts (hT _ _ hsrc)
     have:=G.kind
     cases hu:C.P.underlying src with
     | some q=>exact ⟨q,rfl⟩
     | none=>cases hk:ti.kind <;> rw [hk] at this <;> simp [kindOK,hu] at this
    obtain ⟨t1,z1,F1⟩:=tiOK_facts (hT _ _ hdst)
    obtain ⟨t2,z2,F2⟩:=tiOK_facts (hT _ _ he)
    have hrun:=Lib.run_convert_string_bytes (P:=C.P) w src d e s hds (kind_slice F1.kind) (kind_int F2.kind)
    unfold Oper.wp execOp
    simp only [ho,hv,Sem.run_bind,hrun,Result.andThen_ok,Sem.run_pure]
    let S':Nat→Prop:=fun q=>S q∨q=w.heap.size
    have hkept:Kept w (Lib.bytesWorld w e s) (fun _=>False):=⟨rfl,rfl,rfl,by rw [Lib.bytesWorld_size]; omega,fun b hb _=>Lib.bytesWorld_at_old w e s b hb⟩
    have h4:=hs.world (S':=S') (fun _ x=>.inl x) (fun q hq=>hq.elim .inl (fun e'=>.inr ⟨by omega,by rw [e',Lib.bytesWorld_size]; omega⟩)) hkept
    have hrd:Rd (Lib.bytesWorld w e s) S' (.sl s.size fun i=>[.v (.int .u8 (s.data.toList.getD i 0).toNat)]) (.slice (some ⟨w.heap.size,0,none⟩) s.size (grownCap w s.size 0 e)):=by
     refine .sl s.size _ ⟨w.heap.size,0,none⟩ _ 1 (fun i _=>.int .u8 (s.data.toList.getD i 0).toNat) (grownCap_ge w s.size 0 e) (grownCap_le_maxLen w s.size 0 e hob) (.inr rfl) (fun i hi=>rfl) (fun i j hi hj=>⟨.inr rfl,?_⟩) (fun i j hi hj=>?_)
     ·obtain rfl:j=0:=by omega
      simp only [Nat.mul_one,Nat.add_zero,Nat.zero_add]
      exact Lib.bytesWorld_cell w e s i hi
     ·obtain rfl:j=0:=by omega
      exact .v _ rfl
    have h5:=h4.put (dst:=o.dst) hd (.d hrd)
    refine ⟨S',μ,?_⟩
    have e:(Tr.mk need o.dst (.d (.sl s.size fun i=>[.v (.int .u8 (s.data.toList.getD i 0).toNat)])) ro [] [] gs).apply A=A.putO o.dst (.d (.sl s.size fun i=>[.v (.int .u8 (s.data.toList.getD i 0).toNat)])):=by
     unfold Tr.apply M.putO M.put
     cases ho:o.dst with
     | none=>simp [look]
     | some d =>
      simp only [look,List.map_nil,List.not_mem_nil,if_false,Option.some.injEq]
      congr 1
      funext t
      by_cases c:d=t
      ·simp [c]
      ·have:¬ t=d:=fun e=>c e.symm
       simp [c,this]
    rw [e]
    exact h5
   ·cases h
  ·rename_i n f e s1 b1 z1 q1 s0 b0 z0 q0 hx hsrc hdst
   split at h
   ·rename_i _ _ _ _ he
    simp only [Option.some.injEq,Prod.mk.injEq] at h
    obtain ⟨rfl,rfl⟩:=h
    have hob:∀ i,i < n→bytQ (f i):=hob
    have hv:=rel_d.1 (hρ _ _ hx)
    obtain ⟨t1,z1',F1⟩:=tiOK_facts (hT _ _ hsrc)
    obtain ⟨t2,z2',F2⟩:=tiOK_facts (hT _ _ he)
    obtain ⟨t3,z3',F3⟩:=tiOK_facts (hT _ _ hdst)
    have hs1:=kind_slice F1.kind
    have hs2:=kind_int F2.kind
    have hs3:=kind_str F3.kind
    have hrun:(convert src d (a.eval x)).run C.P w=.ok (.string (strB n f)) w:=by
     generalize a.eval x=v at hv
     cases hv with
     | nil=>exact run_convert_bytes_nil w src e hs1 hs2 _ _ d hs3
     | sl _ _ ad cap k vals hc hm hsp hk hcell hh =>
      by_cases h0:n=0
      ·subst h0
       rw [run_convert_bytes_string w src d e _ 0 cap hs1 hs2 hs3,run_bytesToString w _ 0 cap [] (by simpa using run_loadCells_list (P:=C.P) w ad [] (fun j v h=>by simp at h))]
       rfl
      ·have hsp:=hsp.resolve_left h0
       have hk1:k=1:=by
        obtain ⟨q,hq⟩:=hob 0 (by omega)
        rw [← hk 0 (by omega),hq]
        rfl
       subst hk1
       obtain ⟨blk,off,spot⟩:=ad
       have hsp:spot=none:=hsp
       subst hsp
       have hb:∀ i,i < n→∃ q:Int,f i=[.v (.int .u8 q)]:=hob
       have hcell':∀ i,i < n→∃ q:Int,f i=[.v (.int .u8 q)]∧w.cell? ⟨blk,off+i,none⟩=some (.int .u8 q):=fun i hi=>by
        obtain ⟨q,hq⟩:=hb i hi
        refine ⟨q,hq,?_⟩
        have h1:=(hcell i 0 hi (by omega)).2
        have h2:=hh i 0 hi (by omega)
        rw [hq] at h2
        have h2:Rd w S (.v (.int .u8 q)) (vals i 0):=h2
        generalize vals i 0=y at h1 h2
        cases h2
        simpa using h1
       let xs:List Int:=(List.range n).map fun i=>match f i with | [.v (.int _ k)]=>k | _=>0
       have hx1:xs.length=n:=by simp [xs]
       have hx2:∀ i,i < n→∃ q:Int,f i=[.v (.int .u8 q)]∧xs.getD i 0=q:=fun i hi=>by
        obtain ⟨q,hq⟩:=hb i hi
        refine ⟨q,hq,?_⟩
        simp [xs,List.getD,hi,hq]
       have:=run_convert_bytes_arg (P:=C.P) w src e hs1 hs2 blk off n cap xs hx1 (fun i hi=>by
        obtain ⟨q,hq,hc⟩:=hcell' i hi
        obtain ⟨q',hq',hc'⟩:=hx2 i hi
        rw [hq] at hq'
        simp only [List.cons.injEq,D.v.injEq,Value.int.injEq,true_and,and_true] at hq'
        rw [hc',← hq',hc]) d hs3
       rw [this]
       congr 2
       unfold strOfNums strB
       congr 2
       simp only [xs,List.map_map]
       apply List.map_congr_left
       intro i hi
       obtain ⟨q,hq⟩:=hb i (List.mem_range.1 hi)
       simp [hq,byteV]
    unfold Oper.wp execOp
    simp only [ho,Sem.run_bind,hrun,Result.andThen_ok,Sem.run_pure]
    have h5:=hs.put (dst:=o.dst) hd (.d (.v (.string (strB n f)) rfl))
    refine ⟨S,μ,?_⟩
    have e:(Tr.mk need o.dst (.d (.v (.string (strB n f)))) ro [] [] gs).apply A=A.putO o.dst (.d (.v (.string (strB n f)))):=by
     unfold Tr.apply M.putO M.put
     cases ho:o.dst with
     | none=>simp [look]
     | some d =>
      simp only [look,List.map_nil,List.not_mem_nil,if_false,Option.some.injEq]
      congr 1
      funext t
      by_cases c:d=t
      ·simp [c]
      ·have:¬ t=d:=fun e=>c e.symm
       simp [c,this]
    rw [e]
    exact h5
   ·cases h
  ·cases h
 ·rename_i ti x ho
  split at h
  ·rename_i cs fs s0 b0 z0 q0 hx hti
   split at h
   ·rename_i l hl
    simp only [Option.some.injEq,Prod.mk.injEq] at h
    obtain ⟨rfl,rfl⟩:=h
    obtain ⟨h1,h2⟩:=ifcV_spec hl
    subst h1
    have hv:a.eval x=.agg l.toArray:=by
     have:=rel_d.1 (hρ _ _ hx)
     generalize a.eval x=v at this
     cases this with
     | agg _ vs hlen hh =>
      congr 1
      apply Array.ext
      ·simpa using hlen
      ·intro i hi1 hi2
       have h3:=hh i (by simpa using hi2)
       have hi3:i < l.length:=by simpa using hi2
       rw [show (l.map D.v).getD i default=.v (l[i]) by simp [List.getD,hi3]] at h3
       have h4:=rel_scalar (μ:=μ) (ν:=ν) rfl (.d h3)
       have e1:vs.getD i undef=vs[i]:=by simp [Array.getD,hi1]
       rw [← e1,h4]
       simp
    obtain ⟨t1,z1,F1⟩:=tiOK_facts (hT _ _ hti)
    have hrun:(Instr.makeInterface ti (a.eval x)).run C.P w=.ok (.iface ti (.agg l.toArray)) w:=by
     rw [hv]
     have hk:=F1.kind
     simp only [kindOK] at hk
     split at hk
     ·rename_i gs hu
      simp [Instr.makeInterface,run_underlying hu]
     ·cases hk
    have hsc:scalar (.iface ti (.agg l.toArray))=true:=by simpa [scalar] using h2
    unfold Oper.wp execOp
    simp only [ho,Sem.run_bind,hrun,Result.andThen_ok,Sem.run_pure]
    have h5:=hs.put (dst:=o.dst) hd (.d (.v (.iface ti (.agg l.toArray)) hsc))
    refine ⟨S,μ,?_⟩
    have e:(Tr.mk need o.dst (.d (.v (.iface ti (.agg l.toArray)))) ro [] [] gs).apply A=A.putO o.dst (.d (.v (.iface ti (.agg l.toArray)))):=by
     unfold Tr.apply M.putO M.put
     cases ho:o.dst with
     | none=>simp [look]
     | some d =>
      simp only [look,List.map_nil,List.not_mem_nil,if_false,Option.some.injEq]
      congr 1
      funext t
      by_cases c:d=t
      ·simp [c]
      ·have:¬ t=d:=fun e=>c e.symm
       simp [c,this]
    rw [e]
    exact h5
   ·cases h
  ·cases h
 ·cases h
end
section
variable {C : Cx} {A : M} {a : Act} {w : World} {S : Nat → Prop} {μ : Mu} {ν : Nat → Bool}
theorem kind_map {P:Program} {t k e:Nat} (h:kindOK P t (.map k e)=true):P.underlying t=some (.map k e):=by
 simp only [kindOK] at h
 split at h
 ·rename_i x; simp only [Bool.and_eq_true,beq_iff_eq] at h; obtain ⟨rfl,rfl⟩:=h; exact x
 ·cases h
theorem Sim.writeW (h:Sim C A a w S μ ν) {κ g cap:Nat} {b b':Blk} {w':World} (hκ:A.lb κ=some b) (hμ:μ κ=some (some (g,cap))) (hk:Kept w w' (fun q=>q=g)) (hb:BlkAt w' S μ b' g cap):Sim C (A.set κ (some b')) a w' S μ ν:=by
 have hno:=h.mem κ b hκ
 rw [hμ] at hno
 have hns:=hno.at.not
 have hw:∀ q,S q→w'.heap[q]? = w.heap[q]?:=fun q hq=>hk.block q (h.bound q hq) (fun e=>hns (e ▸ hq))
 refine ⟨h.tmps,h.defers,fun t=>(h.slots t).mono (fun _ x=>x) hw (fun _ _ x=>x),fun κ' b'' hb''=>?_,fun κ1 κ2 b1 b2 g' c c' h1 h2 h3 h4=>?_,fun κ' b'' g' c h1 h2=>?_,h.stable,h.fresh,fun q hq=>Nat.lt_of_lt_of_le (h.bound q hq) hk.size,?_⟩
 ·simp only [M.set] at hb''
  by_cases c:κ'=κ
  ·simp only [c,if_true,Option.some.injEq] at hb''
   subst hb''
   rw [c,hμ]
   exact hb.ok
  ·simp only [c,if_false] at hb''
   have hm:=h.mem κ' b'' hb''
   refine hm.mono (fun _ x=>x) hw (fun _ _ x=>x) (fun g' cc e=>?_)
   have hmm:=hm
   rw [e] at hmm
   exact ⟨hk.block g' hmm.at.lt (fun eg=>c (h.inj κ' κ b'' b g' cc cap hb'' hκ e (by rw [eg]; exact hμ))),hmm.at.not⟩
 ·have q1:∃ x,A.lb κ1=some x:=by
   simp only [M.set] at h1
   by_cases c:κ1=κ
   ·rw [c]; exact ⟨b,hκ⟩
   ·simp only [c,if_false] at h1; exact ⟨_,h1⟩
  have q2:∃ x,A.lb κ2=some x:=by
   simp only [M.set] at h2
   by_cases c:κ2=κ
   ·rw [c]; exact ⟨b,hκ⟩
   ·simp only [c,if_false] at h2; exact ⟨_,h2⟩
  obtain ⟨x1,q1⟩:=q1
  obtain ⟨x2,q2⟩:=q2
  exact h.inj κ1 κ2 x1 x2 g' c c' q1 q2 h3 h4
 ·have q1:∃ x,A.lb κ'=some x:=by
   simp only [M.set] at h1
   by_cases c:κ'=κ
   ·rw [c]; exact ⟨b,hκ⟩
   ·simp only [c,if_false] at h1; exact ⟨_,h1⟩
  obtain ⟨x1,q1⟩:=q1
  exact h.own κ' x1 g' c q1 h2
 ·refine h.kept.trans hk (fun q hq e=>?_)
  subst e
  rcases h.own κ b q cap hκ hμ with h1 | h1
  ·omega
  ·exact h1
def World.setO (w:World) (r:Nat) (o:Obj):World:={ w with heap:=w.heap.setIfInBounds r o }
def notRow:Obj→Bool
 | .cells _ _ _=>false
 | _=>true
theorem run_getO {P:Program} {r:Nat} {o:Obj} (h:w.heap[r]? = some o) (hn:notRow o=true:=by rfl):(getObj r).run P w=.ok o w:=by
 cases o <;> first | (simp [notRow] at hn; done) | simp [getObj,Sem.run,h]
theorem run_setO {P:Program} {r:Nat} {x:Obj} (o:Obj) (h:w.heap[r]? = some x) (hn:notRow x=true:=by rfl):(setObj r o).run P w=.ok () (World.setO w r o):=by
 cases x <;> first | (simp [notRow] at hn; done) | simp [setObj,Sem.run,h,World.setO]
theorem setO_kept (r:Nat) (o:Obj):Kept w (World.setO w r o) (fun q=>q=r):=⟨rfl,rfl,rfl,by simp [World.setO],fun q _ hq=>by
 have:¬ r=q:=fun e=>hq e.symm
 simp [World.setO,Array.getElem?_setIfInBounds,this]⟩
theorem setO_at {r:Nat} {x:Obj} (o:Obj) (h:w.heap[r]? = some x):(World.setO w r o).heap[r]? = some o:=by
 have hr:=(Array.getElem?_eq_some_iff.1 h).1
 simp [World.setO,hr]
def keyNeB:Value→Value→Bool
 | .int k a,.int k' b=>decide (k=k')&&!(a == b)
 | _,_=>false
theorem findNow_ne {kk:IntKind} {kv:Value}:∀ (es:List MapEntry) (i:Nat),(∀ e,e∈es→keyNeB kv e.key=true)→(∃ k n,kv=.int k n)→Instr.findNow (.int kk) kv es i=some none
 | [],_,_,_=>rfl
 | e :: es,i,h,hv=>by
  have h1:=h e (by simp)
  obtain ⟨k,n,rfl⟩:=hv
  have ih:=findNow_ne (kk:=kk) es (i+1) (fun x hx=>h x (by simp [hx])) ⟨k,n,rfl⟩
  cases hk:e.key with
  | int k' m =>
   rw [hk] at h1
   simp only [keyNeB,Bool.and_eq_true,decide_eq_true_eq,Bool.not_eq_true'] at h1
   obtain ⟨rfl,h2⟩:=h1
   simp only [Instr.findNow,Instr.sameNow,hk,if_true,h2]
   exact ih
  | _=>rw [hk] at h1; simp [keyNeB] at h1
structure R where
 v:AV
 ro:List (Nat × Blk)
 mem:List (Nat × Blk)
 mem':List (Nat × Blk)
 ob:Ob
theorem run_checkKey_int {P:Program} {b:Bool} {kt:TypeId} {ik kk:IntKind} {n:Int} (huk:P.underlying kt=some (.int ik)) (q:Nat):(Instr.checkKey b (q+1) kt (.int kk n)).run P w=.ok () w:=by
 rw [Instr.checkKey]
 simp [run_underlying huk]
theorem run_insert {P:Program} {t kt et:TypeId} {ik kk:IntKind} {n0:Int} {g clock:Nat} {cur:Array MapEntry} {x:Value} (hu:P.underlying t=some (.map kt et)) (huk:P.underlying kt=some (.int ik)) (hg:w.heap[g]? = some (.map cur clock)) (hf:Instr.findNow (.int ik) (.int kk n0) cur.toList 0=some none) :
  (Instr.mapUpdate t (.map (some g)) (.int kk n0) x).run P w=.ok () (World.setO w g (.map (cur.push { key:=.int kk n0,val:=x,born:=clock }) (clock+1))):=by
 unfold Instr.mapUpdate
 simp only [Sem.run_bind,run_underlying hu,Result.andThen_ok,run_getO hg,run_checkKey_int huk 9999,Instr.findKey,run_underlying huk,hf,Sem.run_pure,run_setO _ hg]
def evMore (T:List (Nat × TI)) (lb:List (Nat × Blk)) (ρ:Operand→Option AV) (dst:Option Nat) (quiet:Bool):Op→Option R
 | .makeMap _ none=>(match quiet,dst with
  | false,some d=>some ⟨.mpv d,[],[],[(d,.mp 0 fun _=>(.bool false,default))],.tt⟩
  | _,_=>none)
 | .insert t m k x=>(match quiet,dst,ρ m,ρ k,ρ x,look T t with
  | false,none,some (.mpv κ),some (.d (.v (.int kk a))),some (.d xd),some { kind:=.map kt _,.. }=>(match look lb κ,look T kt with
   | some (.mp n f),some { kind:=.int _,.. }=>some ⟨.any,[],[(κ,.mp n f)],[(κ,.mp (n+1) fun q=>if q < n then f q else (.int kk a,xd))],.be ((List.range n).all fun i=>keyNeB (.int kk a) (f i).1) true⟩
   | _,_=>none)
  | _,_,_,_,_,_=>none)
 | .range t m=>(match quiet,dst,ρ m,look T t with
  | false,some d,some (.mpv κ),some { kind:=.map _ _,.. }=>(match look lb κ with
   | some (.mp n f)=>bif Nat.beq d κ then none else some ⟨.ptr d 0,[(κ,.mp n f)],[],[(d,.it κ n [])],.tt⟩
   | _=>none)
  | _,_,_,_=>none)
 | .entry it=>(match ρ it with
  | some (.ptr κi 0)=>(match look lb κi with
   | some (.it κ n (i :: s))=>(match look lb κ with
    | some (.mp n' f)=>some ⟨.tup [.d (keyD (f i).1),.d (f i).2],[(κi,.it κ n (i :: s)),(κ,.mp n' f)],[],[],(Ob.ne n n').and (.pr (i < n))⟩
    | _=>none)
   | _=>none)
  | _=>none)
 | .slice t x none (some h) none=>(match quiet,dst,ρ x,ρ h,look T t with
  | false,some d,some (.own κ n),some (.d (.v (.int _ hh))),some { kind:=.slice e,.. }=>(match look lb κ,look T e with
   | some (.row e' k n' f),some i=>bif Nat.beq d κ||!Nat.beq e e'||!Nat.beq k i.size then none else some ⟨.own d hh.toNat,[],[(κ,.row e' k n' f)],[(d,.row e' k hh.toNat f)],(Ob.ne n n').and (.pr (0≤hh∧hh≤n))⟩
   | _,_=>none)
  | false,some _,some (.d (.v (.slice none 0 0))),some (.d (.v (.int _ hh))),some { kind:=.slice e,.. }=>(match look T e with
   | some _=>some ⟨.d (.v (.slice none 0 0)),[],[],[],.pr (0≤hh∧hh≤0)⟩
   | none=>none)
  | _,_,_,_,_=>none)
 | .call { callee:=.builtin .cap,args:=xs,argTypes:=ts }=>(match argsOf ρ xs.toList,ts.toList with
  | some [.d (.v (.slice none 0 0))],[t]=>(match look T t with
   | some { kind:=.slice _,.. }=>some ⟨.d (.v (.int .i64 0)),[],[],[],.tt⟩
   | _=>none)
  | _,_=>none)
 | .call { callee:=.builtin .append,args:=xs,argTypes:=ts }=>(match quiet,dst,argsOf ρ xs.toList,ts.toList with
  | false,some d,some [.d (.v (.slice none 0 0)),.d (.v (.int .i64 n))],[t,t']=>(match look T t,look T t' with
   | some { kind:=.slice e,.. },some { kind:=.int .i64,.. }=>(match look T e with
    | some i=>some ⟨.own d n.toNat,[],[],[(d,.row e i.size n.toNat fun _=>i.zero)],.pr (0≤n∧n.toNat≤maxLen∧n.toNat * i.bytes≤140737488355328)⟩
    | none=>none)
   | _,_=>none)
  | _,_,_,_=>none)
 | .makeSlice t (.const (.int _ z)) (.tmp c)=>(match quiet,dst,look T t,ρ (.tmp c) with
  | false,some d,some { kind:=.slice e,.. },some (.d (.v (.int _ m)))=>(match look T e with
   | some i=>bif decide (z=0) then some ⟨.own d 0,[],[],[(d,.row e i.size 0 fun _=>i.zero)],.pr (0≤m∧m.toNat≤maxLen∧m.toNat * i.bytes≤140737488355328)⟩ else none
   | none=>none)
  | _,_,_,_=>none)
 | _=>none
theorem core_new {o:Oper} {d:Nat} {v:AV} {x:Value} {b:Blk} {w1:World} {need:List (Nat × AV)} {ro:List (Nat × Blk)} {gs:List (Nat × Bool)} (hs:Sim C A a w S μ ν) (hdst:o.dst=some d) (hdt:d < C.nt) (hf:Fresh A d) (hk:d ∉ b.keys)
  (hrun:(execOp a.eval o).run C.P w=.ok (.value x) w1) (hk1:Kept w w1 (fun q=>q=w.heap.size)) (hb:∀ c,BlkAt w1 S μ b w.heap.size c) (hv:∀ μ',μ' d=some (some (w.heap.size,0))→Rel w1 S μ' ν v x) :
  o.wp C.P a w (fun a' w'=>∃ S' μ',Sim C ((Tr.mk need (some d) v ro [] [(d,b)] gs).apply A) a' w' S' μ' ν) (fun _ _ _=>False):=by
 unfold Oper.wp
 rw [hrun]
 have hns:¬ S w.heap.size:=fun h=>by have:=hs.bound _ h; omega
 have h1:=hs.adopt hf (blk:=b) (b:=w.heap.size) (cap:=0) hk hk1 hns (fun κ' b' g' c q1 q2 e'=>by
  have:=hs.mem κ' b' q1
  rw [q2] at this
  have:=this.at.lt
  omega) (.inl hs.kept.size) (hb 0)
 have h2:=h1.put (dst:=some d) (x:=v) (v:=x) (fun t ht=>by cases ht; exact hdt) (hv _ (by simp [muSet]))
 rw [apply_new]
 exact ⟨S,_,by rw [hdst]; exact h2⟩
theorem evMore_sound {T:List (Nat × TI)} (hT:TOk C.P T) (hs:Sim C A a w S μ ν) {lb:List (Nat × Blk)} {o:Oper} {ρ:Operand→Option AV} (hρ:∀ x y,ρ x=some y→Rel w S μ ν y (a.eval x)) (hd:∀ t,o.dst=some t→t < C.nt) {quiet:Bool} {r:R}
  (h:evMore T lb ρ o.dst quiet o.op=some r) (hro:∀ p,p∈r.ro→A.lb p.1=some p.2) (hmem:∀ p,p∈r.mem→A.lb p.1=some p.2) (hob:r.ob.den) (hfr:∀ κ,κ∈(r.mem'.map (·.1)).filter (fun k=>!(r.mem.map (·.1)).contains k)→Fresh A κ) (need:List (Nat × AV)) (gs:List (Nat × Bool)) :
  o.wp C.P a w (fun a' w'=>∃ S' μ',Sim C ((Tr.mk need o.dst r.v r.ro r.mem r.mem' gs).apply A) a' w' S' μ' ν) (fun _ _ _=>False):=by
 unfold evMore at h
 split at h
 all_goals rename_i ho
 ·-- makeMap
  split at h
  ·rename_i d hdst
   simp only [Option.some.injEq] at h
   subst h
   rw [hdst]
   have hns:¬ S w.heap.size:=fun h=>by have:=hs.bound _ h; omega
   refine core_new hs hdst (hd d hdst) (hfr d (by simp)) (by simp [Blk.keys]) (x:=.map (some w.heap.size)) (w1:=w.alloc (.map #[] 0)) ?_ (kept_alloc w _ _) (fun c=>⟨#[],heap_alloc_new w _,hns,rfl,fun i hi=>absurd hi (by omega)⟩) (fun μ' hμ=>.mpv hμ)
   simp [execOp,ho,Instr.makeMap]
  ·cases h
 ·-- insert
  rename_i t m k x
  split at h
  ·rename_i κ kk n0 xd kt _ _ _ _ _ hdst hm hk hx ht
   split at h
   ·rename_i n f ik _ _ _ _ hl hkt
    simp only [Option.some.injEq] at h
    subst h
    rw [hdst]
    have hκ:=hmem (κ,.mp n f) (by simp)
    have hme:=hs.mem κ _ hκ
    have hv:=hρ _ _ hm
    generalize hmv:a.eval m=mv at hv
    cases hv with
    | @mpv _ g cap hμ =>
     rw [hμ] at hme
     obtain ⟨cur,hg,hns,hsz,hcell⟩:=hme.at
     obtain ⟨ti,z,F⟩:=tiOK_facts (hT _ _ ht)
     obtain ⟨tj,zj,G⟩:=tiOK_facts (hT _ _ hkt)
     have hu:=kind_map F.kind
     have huk:=kind_int G.kind
     have hkv:=rel_int (hρ _ _ hk)
     have hob:(List.range n).all (fun i=>keyNeB (.int kk n0) (f i).1)=true:=hob
     simp only [List.all_eq_true,List.mem_range] at hob
     have hfind:Instr.findNow (.int ik) (.int kk n0) cur.toList 0=some none:=findNow_ne _ 0 (fun e he=>by
      obtain ⟨q,hq,rfl⟩:=List.getElem_of_mem he
      have hqn:q < n:=by simpa [hsz] using hq
      obtain ⟨e,h1,h2,_⟩:=hcell q hqn
      have:cur.toList[q]=e:=by
       have:=Array.getElem?_eq_some_iff.1 h1
       simpa using this.2
      rw [this,h2]
      exact hob q hqn) ⟨kk,n0,rfl⟩
     have hrun:(execOp a.eval o).run C.P w=.ok .skip (World.setO w g (.map (cur.push { key:=.int kk n0,val:=a.eval x,born:=n }) (n+1))):=by
      have h1:=run_insert (x:=a.eval x) hu huk hg hfind
      unfold execOp
      rw [ho]
      simp only [hmv,hkv,Sem.run_bind,h1,Result.andThen_ok,Sem.run_pure]
     unfold Oper.wp
     rw [hrun]
     refine ⟨S,μ,?_⟩
     rw [apply_write,hdst]
     refine hs.writeW hκ hμ (setO_kept g _) ⟨_,setO_at _ hg,hns,by simp [hsz],fun i hi=>?_⟩
     have hw:∀ q,S q→(World.setO w g (.map (cur.push { key:=.int kk n0,val:=a.eval x,born:=n }) (n+1))).heap[q]? = w.heap[q]?:=fun q hq=>(setO_kept g _).block q (hs.bound q hq) (fun e=>hns (e ▸ hq))
     by_cases c:i < n
     ·obtain ⟨e,h1,h2,h3,h4,h5⟩:=hcell i c
      refine ⟨e,?_,by simp only [c,if_true]; exact h2,h3,h4,by simp only [c,if_true]; exact h5.mono (fun _ x=>x) hw⟩
      rw [Array.getElem?_push,if_neg (by omega)]
      exact h1
     ·obtain rfl:i=n:=by omega
      refine ⟨_,by rw [Array.getElem?_push,if_pos hsz.symm],by simp only [c,if_false],rfl,rfl,?_⟩
      simp only [c,if_false]
      exact (rel_d.1 (hρ _ _ hx)).mono (fun _ x=>x) hw
   ·cases h
  ·cases h
 ·-- range
  rename_i t m
  split at h
  ·rename_i d κ _ _ _ _ _ _ hdst hm ht
   split at h
   ·rename_i n f hl
    rw [Bool.cond_eq_ite] at h
    split at h
    ·cases h
    ·rename_i hne
     simp only [Option.some.injEq] at h
     subst h
     rw [hdst]
     have hκ:=hro (κ,.mp n f) (by simp)
     have hme:=hs.mem κ _ hκ
     have hv:=hρ _ _ hm
     generalize hmv:a.eval m=mv at hv
     cases hv with
     | @mpv _ g cap hμ =>
      rw [hμ] at hme
      obtain ⟨cur,hg,hns0,hsz,hcell⟩:=hme.at
      obtain ⟨ti,z,F⟩:=tiOK_facts (hT _ _ ht)
      have hu:=kind_map F.kind
      have hns:¬ S w.heap.size:=fun h=>by have:=hs.bound _ h; omega
      have hdk:d≠κ:=fun e=>by rw [e,Nat.beq_refl] at hne; exact hne rfl
      refine core_new hs hdst (hd d hdst) (hfr d (by simp)) (by simp [Blk.keys,hdk]) (x:=.pointer (some ⟨w.heap.size,0,none⟩)) (w1:=w.alloc (.mapIter (some g) n #[] n)) ?_ (kept_alloc w _ _) (fun c=>⟨g,cap,hμ,heap_alloc_new w _,hns⟩) (fun μ' hμ'=>.ptr hμ')
      simp [execOp,ho,hmv,Instr.range,run_underlying hu,run_getO hg]
   ·cases h
  ·cases h
 ·-- entry
  rename_i it
  split at h
  ·rename_i κi hit
   split at h
   ·rename_i κ n i s hli
    split at h
    ·rename_i n' f hl
     simp only [Option.some.injEq] at h
     subst h
     have hob:((Ob.ne n n').and (.pr (i < n))).den:=hob
     obtain ⟨o1,o2⟩:=Ob.and_den hob
     have o1:n=n':=o1
     subst o1
     have o2:i < n:=o2
     have hκi:=hro (κi,.it κ n (i :: s)) (by simp)
     have hκ:=hro (κ,.mp n f) (by simp)
     have hv:=hρ _ _ hit
     generalize hiv:a.eval it=iv at hv
     cases hv with
     | @ptr _ _ gi ci hμi =>
      have hmi:=hs.mem κi _ hκi
      rw [hμi] at hmi
      obtain ⟨mg,c,hμ,hgi,hnsi⟩:=hmi.at
      have hme:=hs.mem κ _ hκ
      rw [hμ] at hme
      obtain ⟨cur,hg,hns,hsz,hcell⟩:=hme.at
      obtain ⟨e,h1,h2,h3,h4,h5⟩:=hcell i o2
      have hfind:cur.find? (fun x=>x.born == i)=some e:=by
       rw [Array.find?_eq_some_iff_getElem]
       have hi:i < cur.size:=by omega
       refine ⟨by simp [h4],i,hi,(Array.getElem?_eq_some_iff.1 h1).2,fun j hj=>?_⟩
       obtain ⟨e',q1,_,_,q4,_⟩:=hcell j (by omega)
       have:cur[j]=e':=(Array.getElem?_eq_some_iff.1 q1).2
       rw [this,q4]
       simp
       omega
      refine core_value (τ:=Tr.mk need o.dst (.tup [.d (keyD (f i).1),.d (f i).2]) [(κi,.it κ n (i :: s)),(κ,.mp n f)] [] [] gs) hs hd (x:=.tuple #[e.key,e.val]) ?_ (.tup rfl (fun q hq=>?_)) rfl rfl rfl
      ·simp [execOp,ho,hiv,Instr.entry,run_getO hgi,run_getO hg,hfind]
      ·match q with
       | 0=>simpa [h2] using Rel.d (μ:=μ) (ν:=ν) (keyD_rd (w:=w) (S:=S) h3)
       | 1=>simpa using Rel.d (μ:=μ) (ν:=ν) h5
       | q+2=>simp at hq; omega
    ·cases h
   ·cases h
  ·cases h
 ·-- slice
  rename_i t x hh0
  split at h
  ·rename_i d κ n kk hh e _ _ _ _ hdst hx hhi ht
   split at h
   ·rename_i e' k n' f i hl hie
    rw [Bool.cond_eq_ite] at h
    split at h
    ·cases h
    ·rename_i hne
     simp only [Bool.or_eq_true,Bool.not_eq_true',not_or,Bool.not_eq_false] at hne
     simp only [Option.some.injEq] at h
     subst h
     rw [hdst]
     have hob:((Ob.ne n n').and (.pr (0≤hh∧hh≤n))).den:=hob
     obtain ⟨o1,o2,o3⟩:=Ob.and_den hob
     have o1:n=n':=o1
     subst o1
     have hdk:d≠κ:=fun e=>hne.1.1 (by rw [e,Nat.beq_refl])
     have hκ:=hmem (κ,.row e' k n f) (by simp)
     have hme:=hs.mem κ _ hκ
     obtain ⟨ti,z,F⟩:=tiOK_facts (hT _ _ ht)
     have hu:=kind_slice F.kind
     obtain ⟨te,ze,G⟩:=tiOK_facts (hT _ _ hie)
     have hszr:(sizeOf e).run C.P w=.ok i.size w:=by simp [sizeOf,typeInfo,G.info,G.size]
     have hhv:=rel_int (hρ _ _ hhi)
     have hf:Fresh A d:=hfr d (by simp [hdk])
     have hv:=hρ _ _ hx
     generalize hxv:a.eval x=xv at hv
     have hdrop:=hs.drop κ
     have hfd:=hf.drop κ
     have q1:∀ (k:IntKind) (i:Int) (y:Nat) (c:BoundsCode),0≤i→i≤y→(Instr.sliceBound (.int k i) y c).run C.P w=.ok i.toNat w:=fun k i y c h0 h1=>run_sliceBound w k i y c h0 h1
     cases hv with
     | @ownNil _ ad hμ =>
      have hh0':hh=0:=by omega
      subst hh0'
      unfold Oper.wp
      have hrun:(execOp a.eval o).run C.P w=.ok (.value (.slice ad 0 0)) w:=by
       simp (disch:=omega) [execOp,ho,hxv,hhv,Instr.sliceAt,run_underlying hu,Instr.slice,Instr.sliceBounds,q1,hszr]
      rw [hrun]
      have h1:=hdrop.adoptNil hfd e' k f
      have h2:=h1.put (dst:=some d) (x:=.own d 0) (v:=.slice ad 0 0) (fun t ht=>by cases ht; exact hd d hdst) (.ownNil (by simp [muSet]))
      rw [apply_cons hdk]
      exact ⟨S,_,by rw [hdst]; exact h2⟩
     | @own _ _ g cap hμ =>
      rw [hμ] at hme
      have hns:=hme.at.not
      obtain ⟨cur,hg,_,h3,h4,h5,h6⟩:=hme.at
      unfold Oper.wp
      have hcap:hh.toNat≤cap:=by omega
      have hrun:(execOp a.eval o).run C.P w=.ok (.value (.slice (some ⟨g,0,none⟩) hh.toNat cap)) w:=by
       simp (disch:=omega) [execOp,ho,hxv,hhv,Instr.sliceAt,run_underlying hu,Instr.slice,Instr.sliceBounds,q1,hszr,addr_add]
      rw [hrun]
      have h1:=hdrop.adopt hfd (blk:=.row e' k hh.toNat f) (b:=g) (cap:=cap) (w':=w) (by simp [Blk.keys]) (Kept.refl _ _) hns (fun κ' b' g' c q1 q2 e'=>by
       simp only [M.set] at q1
       by_cases cc:κ'=κ
       ·simp [cc] at q1
       ·simp only [cc,if_false] at q1
        subst e'
        exact cc (hs.inj κ' κ b' _ g' c cap q1 hκ q2 hμ)) (hs.own κ _ g cap hκ hμ) ⟨cur,hg,hns,h3,hcap,h5,fun q hq=>h6 q (by omega)⟩
      have h2:=h1.put (dst:=some d) (x:=.own d hh.toNat) (v:=.slice (some ⟨g,0,none⟩) hh.toNat cap) (fun t ht=>by cases ht; exact hd d hdst) (.own (by simp [muSet]))
      rw [apply_cons hdk]
      exact ⟨S,_,by rw [hdst]; exact h2⟩
   ·cases h
  ·rename_i d kk hh e _ _ _ _ hdst hx hhi ht
   split at h
   ·rename_i i hie
    simp only [Option.some.injEq] at h
    subst h
    have hob:0≤hh∧hh≤0:=hob
    obtain rfl:hh=0:=by omega
    obtain ⟨ti,z,F⟩:=tiOK_facts (hT _ _ ht)
    have hu:=kind_slice F.kind
    obtain ⟨te,ze,G⟩:=tiOK_facts (hT _ _ hie)
    have hszr:(sizeOf e).run C.P w=.ok i.size w:=by simp [sizeOf,typeInfo,G.info,G.size]
    have hhv:=rel_int (hρ _ _ hhi)
    have hxv:=rel_scalar rfl (hρ _ _ hx)
    have q1:∀ (k:IntKind) (i:Int) (y:Nat) (c:BoundsCode),0≤i→i≤y→(Instr.sliceBound (.int k i) y c).run C.P w=.ok i.toNat w:=fun k i y c h0 h1=>run_sliceBound w k i y c h0 h1
    refine core_value (τ:=Tr.mk need o.dst (.d (.v (.slice none 0 0))) [] [] [] gs) hs hd (x:=.slice none 0 0) ?_ (rel_v rfl) rfl rfl rfl
    simp (disch:=omega) [execOp,ho,hxv,hhv,Instr.sliceAt,run_underlying hu,Instr.slice,Instr.sliceBounds,q1,hszr]
   ·cases h
  ·cases h
 ·-- cap
  rename_i xs ts
  split at h
  ·rename_i t hxs hts
   split at h
   ·rename_i _ _ _ _ _ ht
    simp only [Option.some.injEq] at h
    subst h
    obtain ⟨ti,z,F⟩:=tiOK_facts (hT _ _ ht)
    have hu:=kind_slice F.kind
    have hargs:=argsOf_rel hρ xs.toList _ hxs
    have hx0:xs.map a.eval = #[.slice none 0 0]:=by
     have hl:(xs.map a.eval).toList.length=1:=by simpa using hargs.1
     have h0:=hargs.2 0 (by simp)
     have h0:=rel_scalar rfl h0
     apply Array.ext'
     rw [Array.toList_map] at hl ⊢
     match hq:xs.toList.map a.eval,hl with
     | [y],_=>rw [hq] at h0; simpa using h0
    have hts':ts = #[t]:=by cases ts; simpa using hts
    refine core_value (τ:=Tr.mk need o.dst (.d (.v (.int .i64 0))) [] [] [] gs) hs hd (x:=.int .i64 0) ?_ (rel_v rfl) rfl rfl rfl
    simp [execOp,ho,resolve,invoke,builtin,hx0,hts',Builtin.cap_,run_underlying hu,goInt]
   ·cases h
  ·cases h
 ·-- append of zeros
  rename_i xs ts
  split at h
  ·rename_i d n t t' hdst hxs hts
   split at h
   ·rename_i e _ _ _ _ _ _ _ _ ht ht'
    split at h
    ·rename_i i hie
     simp only [Option.some.injEq] at h
     subst h
     have hob:0≤n∧n.toNat≤maxLen∧n.toNat * i.bytes≤140737488355328:=hob
     obtain ⟨o1,o2,o3⟩:=hob
     rw [hdst]
     obtain ⟨ti,z,F⟩:=tiOK_facts (hT _ _ ht)
     have hu:=kind_slice F.kind
     obtain ⟨ti',z',F'⟩:=tiOK_facts (hT _ _ ht')
     have hu':=kind_int F'.kind
     obtain ⟨te,ze,G⟩:=tiOK_facts (hT _ _ hie)
     have hargs:=argsOf_rel hρ xs.toList _ hxs
     have hx0:xs.map a.eval = #[.slice none 0 0,.int .i64 n]:=by
      have hl:(xs.map a.eval).toList.length=2:=by simpa using hargs.1
      have h0:=rel_scalar rfl (hargs.2 0 (by simp))
      have h1:=rel_scalar rfl (hargs.2 1 (by simp))
      apply Array.ext'
      rw [Array.toList_map] at hl ⊢
      match hq:xs.toList.map a.eval,hl with
      | [y,y'],_=>rw [hq] at h0 h1; simp only [List.getD_cons_zero,List.getD_cons_succ] at h0 h1; rw [h0,h1]
     have hts':ts = #[t,t']:=by cases ts; simpa using hts
     have hml:n≤9223372036854775807:=by have:=o2; simp only [maxLen] at this; omega
     have hwr:IntKind.i64.wrap n=n:=IntWalk.i64_in n ⟨by omega,hml⟩
     obtain ⟨q1,q2⟩:=zeroOK_rd (w:=w) (S:=S) G.zok
     have hzl:ze.cells.size=i.size:=by have:=q1; simp only [Array.length_toList] at this; rw [this,G.zlen]
     have hf:Fresh A d:=hfr d (by simp)
     by_cases h0:n=0
     ·subst h0
      have hrun:(execOp a.eval o).run C.P w=.ok (.value (.slice none 0 0)) w:=by
       simp [execOp,ho,resolve,invoke,builtin,hx0,hts',Builtin.append_,run_underlying hu,run_underlying hu',sizeOf,typeInfo,G.info,asInt,asIntOf,hwr]
      unfold Oper.wp
      rw [hrun]
      have h1:=hs.adoptNil hf e i.size (fun _=>i.zero)
      have h2:=h1.put (dst:=some d) (x:=.own d 0) (v:=.slice none 0 0) (fun t ht=>by cases ht; exact hd d hdst) (.ownNil (by simp [muSet]))
      rw [apply_new]
      exact ⟨S,_,by rw [hdst]; exact h2⟩
     ·have hn1:0 < n.toNat:=by omega
      have hge:=grownCap_ge w n.toNat 0 e
      have hcm:grownCap w n.toNat 0 e≤maxLen:=grownCap_le_maxLen w n.toNat 0 e o2
      have h48:¬ (281474976710656 < Builtin.nextslicecap n.toNat 0 * te.bytes):=by rw [nextslicecap_zero hn1,G.bytes]; omega
      have h48':¬ (281474976710656 < n * (te.bytes:Int)):=by
       rw [G.bytes]
       have h1:((n.toNat * i.bytes:Nat):Int)≤140737488355328:=by omega
       rw [Int.natCast_mul,Int.toNat_of_nonneg o1] at h1
       omega
      have hrun:∃ cells:Array Value,(execOp a.eval o).run C.P w=.ok (.value (.slice (some ⟨w.heap.size,0,none⟩) n.toNat (grownCap w n.toNat 0 e))) (w.drew.alloc (.cells cells e))∧cells=Builtin.zeroCells ze.cells n.toNat++Builtin.zeroCells ze.cells (grownCap w n.toNat 0 e - n.toNat):=by
       refine ⟨_,?_,rfl⟩
       have hn0:¬ n.toNat=0:=by omega
       have hneg:¬ n < 0:=by omega
       have hle:¬ n≤0:=by omega
       have h63:¬ (9223372036854775807 < n):=by omega
       have hmx:max n 0=n:=by omega
       by_cases hsz:i.size=0
       ·have hz0:ze.cells.size=0:=by omega
        have hze:Builtin.zeroCells ze.cells n.toNat = #[]:=by simp [Builtin.zeroCells,hz0]
        rw [hze]
        simp [execOp,ho,resolve,invoke,builtin,hx0,hts',Builtin.append_,run_underlying hu,run_underlying hu',sizeOf,typeInfo,G.info,asInt,asIntOf,hwr,hneg,hle,h48,h48',h63,hmx,Question.forced,Builtin.firstCells,newRow,grownCap,zeroValue,G.zero,G.size,hsz]
       ·simp [execOp,ho,resolve,invoke,builtin,hx0,hts',Builtin.append_,run_underlying hu,run_underlying hu',sizeOf,typeInfo,G.info,asInt,asIntOf,hwr,hneg,hle,h48,h48',h63,hmx,Question.forced,Builtin.firstCells,newRow,grownCap,zeroValue,G.zero,G.size]
        intro hc
        rcases Nat.mul_eq_zero.1 hc with hc | hc
        ·exact absurd hc hn0
        ·exact absurd hc hsz
      obtain ⟨cells,hrun,hcells⟩:=hrun
      have hcap:cells.size=grownCap w n.toNat 0 e * i.size:=by
       rw [hcells]
       simp only [Array.size_append,size_zeroCells,hzl,← Nat.add_mul]
       congr 1
       omega
      unfold Oper.wp
      rw [hrun]
      have hns:¬ S w.heap.size:=fun h=>by have:=hs.bound _ h; omega
      have hw:∀ q,S q→(w.drew.alloc (.cells cells e)).heap[q]? = w.heap[q]?:=fun q hq=>heap_alloc_old w.drew _ (hs.bound q hq)
      have h1:=hs.adopt hf (blk:=.row e i.size n.toNat fun _=>i.zero) (b:=w.heap.size) (cap:=grownCap w n.toNat 0 e) (w':=w.drew.alloc (.cells cells e)) (by simp [Blk.keys]) ⟨rfl,rfl,rfl,by simp,fun k hk _=>heap_alloc_old w.drew _ hk⟩ hns (fun κ' b' g' c q1 q2 e'=>by
       have:=hs.mem κ' b' q1
       rw [q2] at this
       have:=this.at.lt
       omega) (.inl hs.kept.size) ⟨cells,heap_alloc_new w.drew _,hns,hcap,hge,hcm,fun q hq=>⟨G.zlen,fun j hj=>?_⟩⟩
      ·have h2:=h1.put (dst:=some d) (x:=.own d n.toNat) (v:=.slice (some ⟨w.heap.size,0,none⟩) n.toNat (grownCap w n.toNat 0 e)) (fun t ht=>by cases ht; exact hd d hdst) (.own (by simp [muSet]))
       rw [apply_new]
       exact ⟨S,_,by rw [hdst]; exact h2⟩
      ·have hlt:q * i.size+j < n.toNat * i.size:=by
        calc q * i.size+j < q * i.size+i.size:=by omega
         _=(q+1) * i.size:=by rw [Nat.add_mul,Nat.one_mul]
         _≤n.toNat * i.size:=Nat.mul_le_mul_right _ hq
       have hj':j < ze.cells.size:=by omega
       have hmod:(q * i.size+j) % ze.cells.size=j:=by rw [hzl,Nat.mul_comm,Nat.mul_add_mod,Nat.mod_eq_of_lt hj]
       refine ⟨ze.cells[j],?_,?_⟩
       ·rw [hcells,Array.getElem?_append_left (by rw [size_zeroCells,hzl]; exact hlt)]
        have hlt':q * i.size+j < n.toNat * ze.cells.size:=by rw [hzl]; exact hlt
        simp only [Builtin.zeroCells,Array.getElem?_map,Array.getElem?_range,hlt',if_true,Option.map_some,hmod]
        rw [getElem!_pos ze.cells j hj']
       ·have:=(q2 j (by rw [G.zlen]; exact hj)).mono (S':=S) (w':=w.drew.alloc (.cells cells e)) (fun _ x=>x) hw
        rw [show ze.cells.toList.getD j undef=ze.cells[j] from by simp [List.getD,hj']] at this
        exact this
    ·cases h
   ·cases h
  ·cases h
 ·-- make,with a capacity
  rename_i t kz z c
  split at h
  ·rename_i d e _ _ _ _ km m hdst ht hc
   split at h
   ·rename_i i hi
    rw [Bool.cond_eq_ite] at h
    split at h
    ·rename_i hz
     have hz:z=0:=by simpa using hz
     subst hz
     simp only [Option.some.injEq] at h
     subst h
     rw [hdst]
     obtain ⟨o1,o2,o3⟩:0≤m∧m.toNat≤maxLen∧m.toNat * i.bytes≤140737488355328:=hob
     obtain ⟨tj,z,F⟩:=tiOK_facts (hT _ _ ht)
     obtain ⟨ej,ez,G⟩:=tiOK_facts (hT _ _ hi)
     have hu:=kind_slice F.kind
     have hml:m≤9223372036854775807:=by simp only [maxLen] at o2; omega
     have hbb:(ej.bytes:Int) * m≤281474976710656:=by
      rw [G.bytes]
      have h1:((i.bytes * m.toNat:Nat):Int)≤281474976710656:=by rw [Nat.mul_comm]; omega
      rw [Int.natCast_mul,Int.toNat_of_nonneg o1] at h1
      exact h1
     have hrun:=run_make (P:=C.P) w t e ej ez hu G.info G.zero kz km 0 m (Int.le_refl _) o1 hbb hml
     rw [G.size] at hrun
     have hns:¬ S w.heap.size:=fun h=>by have:=hs.bound _ h; omega
     have hf:Fresh A d:=hfr d (by simp)
     have h1:=hs.alloc hf (b:=.row e i.size 0 fun _=>i.zero) (cur:=madeCells ez.cells (m.toNat * i.size)) (e:=e) (cap:=m.toNat) (by simp [Blk.keys]) ⟨_,heap_alloc_new w _,hns,size_madeCells _ _,Nat.zero_le _,o2,fun q hq=>absurd hq (by omega)⟩
     have h2:=h1.put (dst:=some d) (x:=.own d 0) (v:=.slice (some ⟨w.heap.size,0,none⟩) 0 m.toNat) (fun t ht=>by cases ht; exact hd d hdst) (.own (by simp [muSet]))
     unfold Oper.wp execOp
     have hcv:=rel_int (hρ _ _ hc)
     have hzv:a.eval (.const (.int kz 0))=.int kz 0:=rfl
     simp only [ho,hzv,hcv,Sem.run_bind,hrun,Result.andThen_ok,Sem.run_pure]
     rw [apply_new]
     exact ⟨S,_,by rw [hdst]; exact h2⟩
    ·cases h
   ·cases h
  ·cases h
 ·cases h
theorem evMore_ro {T:List (Nat × TI)} {lb:List (Nat × Blk)} {ρ:Operand→Option AV} {dst:Option Nat} {quiet:Bool} {op:Op} {r:R} (h:evMore T lb ρ dst quiet op=some r) :
  (∀ p,p∈r.ro→look lb p.1=some p.2)∧(∀ p,p∈r.mem→look lb p.1=some p.2)∧(quiet=true→r.mem=[]∧r.mem'=[]):=by
 unfold evMore at h
 have nil:∀ {p:Nat × Blk},p∈([]:List (Nat × Blk))→look lb p.1=some p.2:=fun h=>by cases h
 have one:∀ {κ:Nat} {b:Blk},look lb κ=some b→∀ p,p∈[(κ,b)]→look lb p.1=some p.2:=fun h p hp=>by simp only [List.mem_singleton] at hp; subst hp; exact h
 split at h
 ·split at h
  ·simp only [Option.some.injEq] at h; subst h; exact ⟨fun _=>nil,fun _=>nil,fun hq=>by cases hq⟩
  ·cases h
 ·split at h
  ·split at h
   ·rename_i hl _; simp only [Option.some.injEq] at h; subst h; exact ⟨fun _=>nil,one hl,fun hq=>by cases hq⟩
   ·cases h
  ·cases h
 ·split at h
  ·split at h
   ·rename_i hl
    rw [Bool.cond_eq_ite] at h
    split at h
    ·cases h
    ·simp only [Option.some.injEq] at h; subst h; exact ⟨one hl,fun _=>nil,fun hq=>by cases hq⟩
   ·cases h
  ·cases h
 ·split at h
  ·split at h
   ·rename_i hli
    split at h
    ·rename_i hl
     simp only [Option.some.injEq] at h; subst h
     exact ⟨fun p hp=>by
      simp only [List.mem_cons,List.not_mem_nil,or_false] at hp
      rcases hp with rfl | rfl
      ·exact hli
      ·exact hl,fun _=>nil,fun _=>⟨rfl,rfl⟩⟩
    ·cases h
   ·cases h
  ·cases h
 ·split at h
  ·split at h
   ·rename_i hl _
    rw [Bool.cond_eq_ite] at h
    split at h
    ·cases h
    ·simp only [Option.some.injEq] at h; subst h; exact ⟨fun _=>nil,one hl,fun hq=>by cases hq⟩
   ·cases h
  ·split at h
   ·simp only [Option.some.injEq] at h; subst h; exact ⟨fun _=>nil,fun _=>nil,fun hq=>by cases hq⟩
   ·cases h
  ·cases h
 ·split at h
  ·split at h
   ·simp only [Option.some.injEq] at h; subst h; exact ⟨fun _=>nil,fun _=>nil,fun _=>⟨rfl,rfl⟩⟩
   ·cases h
  ·cases h
 ·split at h
  ·split at h
   ·split at h
    ·simp only [Option.some.injEq] at h; subst h; exact ⟨fun _=>nil,fun _=>nil,fun hq=>by cases hq⟩
    ·cases h
   ·cases h
  ·cases h
 ·split at h
  ·split at h
   ·rw [Bool.cond_eq_ite] at h
    split at h
    ·simp only [Option.some.injEq] at h; subst h; exact ⟨fun _=>nil,fun _=>nil,fun hq=>by cases hq⟩
    ·cases h
   ·cases h
  ·cases h
 ·cases h
end
def eqVs:List Value→List Value→Bool
 | .int _ a :: r,.int _ b :: s=>(a == b)&&eqVs r s
 | [],[]=>true
 | _,_=>false
def keyEqB:Value→Value→Bool
 | .int k a,.int k' b=>decide (k=k')&&(a == b)
 | .agg a,.agg b=>eqVs a.toList b.toList
 | _,_=>false
def mpIdx (k:Value):Nat→(Nat→Value × D)→Option Nat
 | 0,_=>none
 | n+1,f=>bif keyEqB k (f 0).1 then some 0 else (mpIdx k n fun i=>f (i+1)).map (· + 1)
def mpHas (k:Value) (n:Nat) (f:Nat→Value × D):Bool:=(mpIdx k n f).isSome
def mpGet (k:Value) (n:Nat) (f:Nat→Value × D) (z:D):D:=match mpIdx k n f with | some p=>(f p).2 | none=>z
def mpN (k:Value) (n:Nat) (f:Nat→Value × D):Nat:=match mpIdx k n f with | some _=>n | none=>n+1
def mpF (k:Value) (x:D) (n:Nat) (f:Nat→Value × D):Nat→Value × D:=match mpIdx k n f with
 | some p=>fun q=>if q=p then ((f q).1,x) else f q
 | none=>fun q=>if q < n then f q else (k,x)
def zeroD (P:Program) (t:Nat):Option D:=match P.info? t with
 | some j=>(match j.zero with | some (.int k n)=>some (.v (.int k n)) | some (.bool b)=>some (.v (.bool b)) | some (.string s)=>some (.v (.string s)) | _=>none)
 | none=>none
def evMap (P:Program) (T:List (Nat × TI)) (lb:List (Nat × Blk)) (ρ:Operand→Option AV) (dst:Option Nat) (quiet:Bool):Op→Option R
 | .mapUpdate t m k x=>(match quiet,dst,ρ m,ρ k,ρ x,look T t with
  | false,none,some (.mpv κ),some (.d (.v (.int kk a))),some (.d xd),some { kind:=.map kt _,.. }=>(match look lb κ,look T kt with
   | some (.mp n f),some { kind:=.int _,.. }=>some ⟨.any,[],[(κ,.mp n f)],[(κ,.mp (mpN (.int kk a) n f) (mpF (.int kk a) xd n f))],.pr (∀ i,i < n→∃ b,(f i).1=.int kk b)⟩
   | _,_=>none)
  | _,_,_,_,_,_=>none)
 | .lookup t m k ok=>(match ρ m,ρ k,look T t with
  | some (.mpv κ),some (.d (.v (.int kk a))),some { kind:=.map kt et,.. }=>(match look lb κ,look T kt,zeroD P et with
   | some (.mp n f),some { kind:=.int _,.. },some z=>some ⟨bif ok then .tup [.d (mpGet (.int kk a) n f z),.d (.v (.bool (mpHas (.int kk a) n f)))] else .d (mpGet (.int kk a) n f z),[(κ,.mp n f)],[],[],.pr (∀ i,i < n→∃ b,(f i).1=.int kk b)⟩
   | _,_,_=>none)
  | some (.pmp n f),some (.d (.v (.int kk a))),some { kind:=.map kt et,.. }=>(match look T kt,zeroD P et with
   | some { kind:=.int _,.. },some z=>some ⟨bif ok then .tup [.d (mpGet (.int kk a) n f z),.d (.v (.bool (mpHas (.int kk a) n f)))] else .d (mpGet (.int kk a) n f z),[],[],[],.pr (∀ i,i < n→∃ b,(f i).1=.int kk b)⟩
   | _,_=>none)
  | some (.d (.mp n k0 f0)),some (.d (.v (.int kk a))),some { kind:=.map kt et,.. }=>(match look T kt,zeroD P et with
   | some { kind:=.int _,.. },some z=>some ⟨bif ok then .tup [.d (mpGet (.int kk a) n (fun i=>(k0 i,f0 i)) z),.d (.v (.bool (mpHas (.int kk a) n fun i=>(k0 i,f0 i))))] else .d (mpGet (.int kk a) n (fun i=>(k0 i,f0 i)) z),[],[],[],.pr (∀ i,i < n→∃ b,k0 i=.int kk b)⟩
   | _,_=>none)
  | _,_,_=>none)
 | _=>none
theorem mpIdx_spec {k:Value}:∀ {n:Nat} {f:Nat→Value × D},(∀ p,mpIdx k n f=some p→p < n∧keyEqB k (f p).1=true)∧(mpIdx k n f=none→∀ i,i < n→keyEqB k (f i).1=false)
 | 0,f=>⟨fun p h=>(by cases h),fun _ i hi=>absurd hi (by omega)⟩
 | n+1,f=>by
  have ih:=mpIdx_spec (k:=k) (n:=n) (f:=fun i=>f (i+1))
  simp only [mpIdx]
  cases hk:keyEqB k (f 0).1 with
  | true=>exact ⟨fun p h=>by simp only [cond_true,Option.some.injEq] at h; subst h; exact ⟨by omega,hk⟩,fun h=>(by cases h)⟩
  | false =>
   simp only [cond_false]
   refine ⟨fun p h=>?_,fun h i hi=>?_⟩
   ·cases hq:mpIdx k n (fun i=>f (i+1)) with
    | none=>rw [hq] at h; cases h
    | some q =>
     rw [hq] at h
     simp only [Option.map_some,Option.some.injEq] at h
     subst h
     obtain ⟨h1,h2⟩:=ih.1 q hq
     exact ⟨by omega,h2⟩
   ·have hq:mpIdx k n (fun i=>f (i+1))=none:=by
     cases hq:mpIdx k n (fun i=>f (i+1)) with
     | none=>rfl
     | some q=>rw [hq] at h; cases h
    cases i with
    | zero=>exact hk
    | succ i=>exact ih.2 hq i (by omega)
theorem findNow_idx {ik kk:IntKind} {a:Int}:∀ (es:List MapEntry) (f:Nat→Value × D) (j:Nat),(∀ (i:Nat) (h:i < es.length),(es[i]'h).key=(f i).1∧∃ b,(f i).1=.int kk b) →
  Instr.findNow (.int ik) (.int kk a) es j=some (match mpIdx (.int kk a) es.length f with | some p=>(es[p]?).map (fun e=>(p+j,e.val)) | none=>none)
 | [],_,_,_=>rfl
 | e :: es,f,j,h=>by
  obtain ⟨h1,b,h2⟩:=h 0 (by simp)
  have h1:e.key=(f 0).1:=h1
  have ih:=findNow_idx (ik:=ik) (kk:=kk) (a:=a) es (fun i=>f (i+1)) (j+1) (fun i hi=>h (i+1) (by simpa using hi))
  simp only [Instr.findNow,Instr.sameNow,h1,h2,if_true,List.length_cons,mpIdx,keyEqB,decide_true,Bool.true_and]
  cases hab:(a == b) with
  | true=>simp
  | false =>
   simp only [ih,cond_false]
   cases hq:mpIdx (.int kk a) es.length (fun i=>f (i+1)) with
   | none=>simp
   | some q =>
    simp only [Option.map_some,List.getElem?_cons_succ]
    congr 2
    funext e
    simp; omega
section
variable {C : Cx} {A : M} {a : Act} {w : World} {S : Nat → Prop} {μ : Mu} {ν : Nat → Bool}
theorem keyStays {P:Program} {k:IntKind} {n:Int}:(Instr.keyThatStays (.int k n) (.int k n)).run P w=.ok (.int k n) w:=by
 simp [Instr.keyThatStays,Instr.sameBits]
theorem lookup_rel {ok:Bool} {x:D} {b:Bool} {v:Value} (hv:Rel w S μ ν (.d x) v):Rel w S μ ν (bif ok then .tup [.d x,.d (.v (.bool b))] else .d x) (bif ok then .tuple #[v,.bool b] else v):=by
 cases ok with
 | false=>exact hv
 | true =>
  refine .tup rfl (fun q hq=>?_)
  match q with
  | 0=>simpa using hv
  | 1=>simpa using rel_v (w:=w) (S:=S) (μ:=μ) (ν:=ν) (x:=.bool b) rfl
  | q+2=>simp at hq; omega
theorem lookup_run {T:List (Nat × TI)} (hT:TOk C.P T) {t kt et:Nat} {ik kk:IntKind} {n0:Int} {kv:Value} {z:D} {n g:Nat} {f:Nat→Value × D} {cur:Array MapEntry} {ok:Bool} {s1 b1 s2 b2:Nat} {z1 z2:List D} {q1 q2:Bool}
  (hkv:kv=.int kk n0) (ht:look T t=some { kind:=.map kt et,size:=s1,bytes:=b1,zero:=z1,eq:=q1 }) (hkt:look T kt=some { kind:=.int ik,size:=s2,bytes:=b2,zero:=z2,eq:=q2 }) (hz:zeroD C.P et=some z) (hob:(Ob.pr (∀ i,i < n→∃ b,(f i).1=.int kk b)).den)
  (hg:w.heap[g]? = some (.map cur n)) (hsz:cur.size=n) (hcell:∀ i,i < n→∃ e,cur[i]? = some e∧e.key=(f i).1∧keyK e.key=true∧e.born=i∧Rd w S (f i).2 e.val) :
  ∃ v,(Instr.lookup t (.map (some g)) kv ok).run C.P w=.ok (bif ok then .tuple #[v,.bool (mpHas (.int kk n0) n f)] else v) w∧Rel w S μ ν (.d (mpGet (.int kk n0) n f z)) v:=by
 subst hkv
 obtain ⟨ti,z0,F⟩:=tiOK_facts (hT _ _ ht)
 obtain ⟨tj,zj,G⟩:=tiOK_facts (hT _ _ hkt)
 have hu:=kind_map F.kind
 have huk:=kind_int G.kind
 have hob:∀ i,i < n→∃ b,(f i).1=.int kk b:=hob
 have hent:∀ (i:Nat) (h:i < cur.toList.length),(cur.toList[i]'h).key=(f i).1∧∃ b,(f i).1=.int kk b:=fun i hi=>by
  have hin:i < n:=by simpa [hsz] using hi
  obtain ⟨e,h1,h2,_⟩:=hcell i hin
  have:cur.toList[i]=e:=by simpa using (Array.getElem?_eq_some_iff.1 h1).2
  rw [this]
  exact ⟨h2,hob i hin⟩
 have hfind:=findNow_idx (ik:=ik) (a:=n0) cur.toList f 0 hent
 have hcl:cur.toList.length=n:=by simpa using hsz
 rw [hcl] at hfind
 have hck:=fun q=>run_checkKey_int (w:=w) (P:=C.P) (b:=cur.isEmpty) (kk:=kk) (n:=n0) huk q
 obtain ⟨zv,hzv,hzr⟩:∃ zv,(zeroValue et).run C.P w=.ok zv w∧Rel w S μ ν (.d z) zv:=by
  unfold zeroD at hz
  split at hz
  ·rename_i j hj
   split at hz
   ·rename_i k' n' hjz
    simp only [Option.some.injEq] at hz
    subst hz
    exact ⟨.int k' n',by simp only [zeroValue,typeInfo,Sem.run_bind,run_program,Result.andThen_ok,hj,Sem.run_pure,hjz],rel_v rfl⟩
   ·rename_i b hjz
    simp only [Option.some.injEq] at hz
    subst hz
    exact ⟨.bool b,by simp only [zeroValue,typeInfo,Sem.run_bind,run_program,Result.andThen_ok,hj,Sem.run_pure,hjz],rel_v rfl⟩
   ·rename_i s hjz
    simp only [Option.some.injEq] at hz
    subst hz
    exact ⟨.string s,by simp only [zeroValue,typeInfo,Sem.run_bind,run_program,Result.andThen_ok,hj,Sem.run_pure,hjz],rel_v rfl⟩
   ·cases hz
  ·cases hz
 cases hix:mpIdx (.int kk n0) n f with
 | some p =>
  obtain ⟨hp,hpk⟩:=mpIdx_spec.1 p hix
  obtain ⟨e,h1,h2,h3,h4,h5⟩:=hcell p hp
  have h1l:cur.toList[p]? = some e:=by simpa using h1
  rw [hix] at hfind
  simp only [h1l,Option.map_some,Nat.add_zero] at hfind
  refine ⟨e.val,?_,by simp only [mpGet,hix]; exact .d h5⟩
  unfold Instr.lookup
  simp only [Sem.run_bind,run_underlying hu,Result.andThen_ok,run_getO hg,Sem.run_pure,hck 9999,Instr.findKey,run_underlying huk,hfind,mpHas,hix,Option.isSome_some]
  cases ok <;> rfl
 | none =>
  rw [hix] at hfind
  simp only at hfind
  refine ⟨zv,?_,by simp only [mpGet,hix]; exact hzr⟩
  unfold Instr.lookup
  simp only [Sem.run_bind,run_underlying hu,Result.andThen_ok,run_getO hg,Sem.run_pure,hck 9999,Instr.findKey,run_underlying huk,hfind,hzv,mpHas,hix,Option.isSome_none]
  cases ok <;> rfl
theorem evMap_sound {T:List (Nat × TI)} (hT:TOk C.P T) (hs:Sim C A a w S μ ν) {lb:List (Nat × Blk)} {o:Oper} {ρ:Operand→Option AV} (hρ:∀ x y,ρ x=some y→Rel w S μ ν y (a.eval x)) (hd:∀ t,o.dst=some t→t < C.nt) {quiet:Bool} {r:R}
  (h:evMap C.P T lb ρ o.dst quiet o.op=some r) (hro:∀ p,p∈r.ro→A.lb p.1=some p.2) (hmem:∀ p,p∈r.mem→A.lb p.1=some p.2) (hob:r.ob.den) (need:List (Nat × AV)) (gs:List (Nat × Bool)) :
  o.wp C.P a w (fun a' w'=>∃ S' μ',Sim C ((Tr.mk need o.dst r.v r.ro r.mem r.mem' gs).apply A) a' w' S' μ' ν) (fun _ _ _=>False):=by
 unfold evMap at h
 split at h
 all_goals rename_i ho
 ·-- an entry is laid
  rename_i t m k x
  split at h
  ·rename_i κ kk n0 xd kt _ _ _ _ _ hdst hm hk hx ht
   split at h
   ·rename_i n f ik _ _ _ _ hl hkt
    simp only [Option.some.injEq] at h
    subst h
    rw [hdst]
    have hκ:=hmem (κ,.mp n f) (by simp)
    have hme:=hs.mem κ _ hκ
    have hv:=hρ _ _ hm
    generalize hmv:a.eval m=mv at hv
    cases hv with
    | @mpv _ g cap hμ =>
     rw [hμ] at hme
     obtain ⟨cur,hg,hns,hsz,hcell⟩:=hme.at
     obtain ⟨ti,z,F⟩:=tiOK_facts (hT _ _ ht)
     obtain ⟨tj,zj,G⟩:=tiOK_facts (hT _ _ hkt)
     have hu:=kind_map F.kind
     have huk:=kind_int G.kind
     have hkv:=rel_int (hρ _ _ hk)
     have hob:∀ i,i < n→∃ b,(f i).1=.int kk b:=hob
     have hent:∀ (i:Nat) (h:i < cur.toList.length),(cur.toList[i]'h).key=(f i).1∧∃ b,(f i).1=.int kk b:=fun i hi=>by
      have hin:i < n:=by simpa [hsz] using hi
      obtain ⟨e,h1,h2,_⟩:=hcell i hin
      have:cur.toList[i]=e:=by simpa using (Array.getElem?_eq_some_iff.1 h1).2
      rw [this]
      exact ⟨h2,hob i hin⟩
     have hfind:=findNow_idx (ik:=ik) (a:=n0) cur.toList f 0 hent
     have hcl:cur.toList.length=n:=by simpa using hsz
     rw [hcl] at hfind
     have hw:∀ o':Obj,∀ q,S q→(World.setO w g o').heap[q]? = w.heap[q]?:=fun o' q hq=>(setO_kept g _).block q (hs.bound q hq) (fun e=>hns (e ▸ hq))
     have hck:=fun q=>run_checkKey_int (w:=w) (P:=C.P) (b:=false) (kk:=kk) (n:=n0) huk q
     cases hix:mpIdx (.int kk n0) n f with
     | some p =>
      obtain ⟨hp,hpk⟩:=mpIdx_spec.1 p hix
      obtain ⟨e,h1,h2,h3,h4,h5⟩:=hcell p hp
      have hkey:e.key=.int kk n0:=by
       obtain ⟨b,hb⟩:=hob p hp
       rw [hb] at hpk h2
       simp only [keyEqB,decide_true,Bool.true_and,beq_iff_eq] at hpk
       rw [h2,hpk]
      have h1l:cur.toList[p]? = some e:=by simpa using h1
      rw [hix] at hfind
      simp only [h1l,Option.map_some,Nat.add_zero] at hfind
      have hrun:(execOp a.eval o).run C.P w=.ok .skip (World.setO w g (.map (cur.modify p fun e=>{ e with key:=.int kk n0,val:=a.eval x }) n)):=by
       unfold execOp
       rw [ho]
       simp only [hmv,hkv,Sem.run_bind]
       unfold Instr.mapUpdate
       simp only [Sem.run_bind,run_underlying hu,Result.andThen_ok,run_getO hg,hck 9999,Instr.findKey,run_underlying huk,hfind,Sem.run_pure,h1,Option.map_some,Option.getD_some,hkey,keyStays,run_setO _ hg]
      unfold Oper.wp
      rw [hrun]
      refine ⟨S,μ,?_⟩
      rw [apply_write,hdst]
      have eN:mpN (.int kk n0) n f=n:=by simp [mpN,hix]
      rw [eN]
      refine hs.writeW hκ hμ (setO_kept g _) ⟨_,setO_at _ hg,hns,by simp [hsz],fun i hi=>?_⟩
      obtain ⟨e',q1,q2,q3,q4,q5⟩:=hcell i hi
      have hi':i < cur.size:=by omega
      by_cases c:i=p
      ·subst c
       rw [h1] at q1
       cases q1
       refine ⟨{ e with key:=.int kk n0,val:=a.eval x },?_,?_,rfl,q4,?_⟩
       ·simp [Array.getElem?_modify,h1]
       ·simp only [mpF,hix,if_true]
        rw [← q2,hkey]
       ·simp only [mpF,hix,if_true]
        exact (rel_d.1 (hρ _ _ hx)).mono (fun _ x=>x) (hw _)
      ·refine ⟨e',?_,?_,q3,q4,?_⟩
       ·have c':¬ p=i:=fun e=>c e.symm
        simp [Array.getElem?_modify,c',q1]
       ·simp only [mpF,hix,c,if_false]; exact q2
       ·simp only [mpF,hix,c,if_false]; exact q5.mono (fun _ x=>x) (hw _)
     | none =>
      rw [hix] at hfind
      simp only at hfind
      have hrun:(execOp a.eval o).run C.P w=.ok .skip (World.setO w g (.map (cur.push { key:=.int kk n0,val:=a.eval x,born:=n }) (n+1))):=by
       have h1:=run_insert (x:=a.eval x) hu huk hg hfind
       unfold execOp
       rw [ho]
       simp only [hmv,hkv,Sem.run_bind,h1,Result.andThen_ok,Sem.run_pure]
      unfold Oper.wp
      rw [hrun]
      refine ⟨S,μ,?_⟩
      rw [apply_write,hdst]
      have eN:mpN (.int kk n0) n f=n+1:=by simp [mpN,hix]
      rw [eN]
      refine hs.writeW hκ hμ (setO_kept g _) ⟨_,setO_at _ hg,hns,by simp [hsz],fun i hi=>?_⟩
      by_cases c:i < n
      ·obtain ⟨e,h1,h2,h3,h4,h5⟩:=hcell i c
       refine ⟨e,?_,by simp only [mpF,hix,c,if_true]; exact h2,h3,h4,by simp only [mpF,hix,c,if_true]; exact h5.mono (fun _ x=>x) (hw _)⟩
       rw [Array.getElem?_push,if_neg (by omega)]
       exact h1
      ·obtain rfl:i=n:=by omega
       refine ⟨_,by rw [Array.getElem?_push,if_pos hsz.symm],by simp only [mpF,hix,c,if_false],rfl,rfl,?_⟩
       simp only [mpF,hix,c,if_false]
       exact (rel_d.1 (hρ _ _ hx)).mono (fun _ x=>x) (hw _)
   ·cases h
  ·cases h
 ·-- an entry is looked up
  rename_i t m k ok
  split at h
  ·rename_i κ kk n0 kt et _ _ _ _ hm hk ht
   split at h
   ·rename_i n f ik _ _ _ _ z hl hkt hz
    simp only [Option.some.injEq] at h
    subst h
    have hκ:=hro (κ,.mp n f) (by simp)
    have hme:=hs.mem κ _ hκ
    have hv:=hρ _ _ hm
    generalize hmv:a.eval m=mv at hv
    cases hv with
    | @mpv _ g cap hμ =>
     rw [hμ] at hme
     obtain ⟨cur,hg,hns,hsz,hcell⟩:=hme.at
     obtain ⟨v,hrv,hv⟩:=lookup_run (ok:=ok) hT (rel_int (hρ _ _ hk)) ht hkt hz hob hg hsz hcell
     refine core_value (τ:=Tr.mk need o.dst (bif ok then .tup [.d (mpGet (.int kk n0) n f z),.d (.v (.bool (mpHas (.int kk n0) n f)))] else .d (mpGet (.int kk n0) n f z)) [(κ,.mp n f)] [] [] gs) hs hd (x:=bif ok then .tuple #[v,.bool (mpHas (.int kk n0) n f)] else v) ?_ (lookup_rel hv) rfl rfl rfl
     simp only [execOp,ho,hmv,Sem.run_bind,hrv,Result.andThen_ok,Sem.run_pure]
   ·cases h
  ·rename_i n f kk n0 kt et _ _ _ _ hm hk ht
   split at h
   ·rename_i ik _ _ _ _ z hkt hz
    simp only [Option.some.injEq] at h
    subst h
    have hv:=hρ _ _ hm
    generalize hmv:a.eval m=mv at hv
    cases hv with
    | @pmp _ _ g hp =>
     obtain ⟨hns,cur,hg,hsz,hcell⟩:=hp
     obtain ⟨v,hrv,hv⟩:=lookup_run (ok:=ok) hT (rel_int (hρ _ _ hk)) ht hkt hz hob hg hsz hcell
     refine core_value (τ:=Tr.mk need o.dst (bif ok then .tup [.d (mpGet (.int kk n0) n f z),.d (.v (.bool (mpHas (.int kk n0) n f)))] else .d (mpGet (.int kk n0) n f z)) [] [] [] gs) hs hd (x:=bif ok then .tuple #[v,.bool (mpHas (.int kk n0) n f)] else v) ?_ (lookup_rel hv) rfl rfl rfl
     simp only [execOp,ho,hmv,Sem.run_bind,hrv,Result.andThen_ok,Sem.run_pure]
   ·cases h
  ·rename_i n k0 f0 kk n0 kt et _ _ _ _ hm hk ht
   split at h
   ·rename_i ik _ _ _ _ z hkt hz
    simp only [Option.some.injEq] at h
    subst h
    obtain ⟨g,hmv,hns,cur,hg,hsz,hcell⟩:=(rel_d.1 (hρ _ _ hm)).pmap
    obtain ⟨v,hrv,hv⟩:=lookup_run (ok:=ok) (f:=fun i=>(k0 i,f0 i)) hT (rel_int (hρ _ _ hk)) ht hkt hz hob hg hsz hcell
    refine core_value (τ:=Tr.mk need o.dst (bif ok then .tup [.d (mpGet (.int kk n0) n (fun i=>(k0 i,f0 i)) z),.d (.v (.bool (mpHas (.int kk n0) n fun i=>(k0 i,f0 i))))] else .d (mpGet (.int kk n0) n (fun i=>(k0 i,f0 i)) z)) [] [] [] gs) hs hd (x:=bif ok then .tuple #[v,.bool (mpHas (.int kk n0) n fun i=>(k0 i,f0 i))] else v) ?_ (lookup_rel hv) rfl rfl rfl
    simp only [execOp,ho,hmv,Sem.run_bind,hrv,Result.andThen_ok,Sem.run_pure]
   ·cases h
  ·cases h
 ·cases h
theorem evMap_ro {P:Program} {T:List (Nat × TI)} {lb:List (Nat × Blk)} {ρ:Operand→Option AV} {dst:Option Nat} {quiet:Bool} {op:Op} {r:R} (h:evMap P T lb ρ dst quiet op=some r) :
  (∀ p,p∈r.ro→look lb p.1=some p.2)∧(∀ p,p∈r.mem→look lb p.1=some p.2)∧(quiet=true→r.mem=[]∧r.mem'=[])∧∀ k,k∈r.mem'.map (·.1)→k∈r.mem.map (·.1):=by
 unfold evMap at h
 have nil:∀ {p:Nat × Blk},p∈([]:List (Nat × Blk))→look lb p.1=some p.2:=fun h=>by cases h
 have one:∀ {κ:Nat} {b:Blk},look lb κ=some b→∀ p,p∈[(κ,b)]→look lb p.1=some p.2:=fun h p hp=>by simp only [List.mem_singleton] at hp; subst hp; exact h
 split at h
 ·split at h
  ·split at h
   ·rename_i hl _; simp only [Option.some.injEq] at h; subst h; exact ⟨fun _=>nil,one hl,fun hq=>(by cases hq),fun k hk=>by simpa using hk⟩
   ·cases h
  ·cases h
 ·split at h
  ·split at h
   ·rename_i hl _ _; simp only [Option.some.injEq] at h; subst h; exact ⟨one hl,fun _=>nil,fun _=>⟨rfl,rfl⟩,fun k hk=>(by cases hk)⟩
   ·cases h
  ·split at h
   ·simp only [Option.some.injEq] at h; subst h; exact ⟨fun _=>nil,fun _=>nil,fun _=>⟨rfl,rfl⟩,fun k hk=>(by cases hk)⟩
   ·cases h
  ·split at h
   ·simp only [Option.some.injEq] at h; subst h; exact ⟨fun _=>nil,fun _=>nil,fun _=>⟨rfl,rfl⟩,fun k hk=>(by cases hk)⟩
   ·cases h
  ·cases h
 ·cases h
end
def keyV (cs:List D):Value:=.agg (cs.map dval).toArray
theorem keyEq_v:∀ {a b:List D},allI a=true→allI b=true→eqVs (a.map dval) (b.map dval)=eqCs a b
 | [],[],_,_=>rfl
 | [],.v (.int .i64 _) :: _,_,_=>rfl
 | .v (.int .i64 _) :: _,[],_,_=>rfl
 | .v (.int .i64 x) :: r,.v (.int .i64 y) :: s,h,k=>by
  show ((x == y)&&eqVs (r.map dval) (s.map dval))=((x == y)&&eqCs r s)
  rw [keyEq_v (a:=r) (b:=s) h k]
theorem keyEqB_v {a b:List D} (ha:allI a=true) (hb:allI b=true):keyEqB (keyV a) (keyV b)=eqCs a b:=keyEq_v ha hb
theorem eqCs_eq:∀ {a b:List D},allI a=true→allI b=true→eqCs a b=true→a=b
 | [],[],_,_,_=>rfl
 | [],.v (.int .i64 _) :: _,_,_,h=>by cases h
 | .v (.int .i64 _) :: _,[],_,_,h=>by cases h
 | .v (.int .i64 x) :: r,.v (.int .i64 y) :: s,h,k,e=>by
  have e:((x == y)&&eqCs r s)=true:=e
  simp only [Bool.and_eq_true,beq_iff_eq] at e
  rw [e.1,eqCs_eq (a:=r) (b:=s) h k e.2]
theorem keyK_v:∀ {cs:List D},allI cs=true→keyK (keyV cs)=true:=fun {cs} h=>by
 show ((cs.map dval).toArray.toList.all scalar)=true
 rw [List.all_eq_true]
 intro x hx
 obtain ⟨a,rfl⟩:=allI_map h x (by simpa using hx)
 rfl
def zeroDT (P:Program) (T:List (Nat × TI)) (t:Nat):Option D:=match zeroD P t with
 | some z=>some z
 | none=>(match P.info? t with
  | some j=>(match j.zero with | some (.agg _)=>(match look T t with | some i=>some (.agg i.zero) | none=>none) | _=>none)
  | none=>none)
def keysOK (n c:Nat) (f:Nat→Value × D):Prop:=∀ i,i < n→∃ ds,(f i).1=keyV ds∧allI ds=true∧ds.length=c
def mpAt (k:Value) (n:Nat) (f:Nat→Value × D):Nat:=match mpIdx k n f with | some p=>p | none=>n
def evKey (P:Program) (T:List (Nat × TI)) (lb:List (Nat × Blk)) (ρ:Operand→Option AV) (dst:Option Nat) (quiet:Bool):Op→Option R
 | .mapUpdate t m k x=>(match quiet,dst,ρ m,ρ k,ρ x,look T t with
  | false,none,some (.mpv κ),some (.d (.agg cs)),some (.d xd),some { kind:=.map kt _,.. }=>(match look lb κ,intsT T kt with
   | some (.mp n f),some c=>bif allI cs&&Nat.beq cs.length c then some ⟨.any,[],[(κ,.mp n f)],[(κ,.mp (mpN (keyV cs) n f) (mpF (keyV cs) xd n f))],.pr (keysOK n c f)⟩ else none
   | _,_=>none)
  | _,_,_,_,_,_=>none)
 | .lookup t m k ok=>(match ρ m,ρ k,look T t with
  | some (.mpv κ),some (.d (.agg cs)),some { kind:=.map kt et,.. }=>(match look lb κ,intsT T kt,zeroDT P T et with
   | some (.mp n f),some c,some z=>bif allI cs&&Nat.beq cs.length c then some ⟨bif ok then .tup [.d (mpGet (keyV cs) n f z),.d (.v (.bool (mpHas (keyV cs) n f)))] else .d (mpGet (keyV cs) n f z),[(κ,.mp n f)],[],[],.pr (keysOK n c f)⟩ else none
   | _,_,_=>none)
  | some (.pmp n f),some (.d (.agg cs)),some { kind:=.map kt et,.. }=>(match intsT T kt,zeroDT P T et with
   | some c,some z=>bif allI cs&&Nat.beq cs.length c then some ⟨bif ok then .tup [.d (mpGet (keyV cs) n f z),.d (.v (.bool (mpHas (keyV cs) n f)))] else .d (mpGet (keyV cs) n f z),[],[],[],.pr (keysOK n c f)⟩ else none
   | _,_=>none)
  | _,_,_=>none)
 | .mapEntry t m k=>(match quiet,dst,ρ m,ρ k,look T t with
  | false,some _,some (.mpv κ),some (.d (.agg cs)),some { kind:=.map kt et,.. }=>(match look lb κ,intsT T kt,zeroDT P T et with
   | some (.mp n f),some c,some z=>bif allI cs&&Nat.beq cs.length c then some ⟨.tup [.d (mpGet (keyV cs) n f z),.d (.v (.int .i64 (mpAt (keyV cs) n f)))],[],[(κ,.mp n f)],[(κ,.mp (mpN (keyV cs) n f) (mpF (keyV cs) (mpGet (keyV cs) n f z) n f))],.pr (keysOK n c f)⟩ else none
   | _,_,_=>none)
  | _,_,_,_,_=>none)
 | .entryStore _ m s x=>(match quiet,dst,ρ m,ρ s,ρ x with
  | false,none,some (.mpv κ),some (.d (.v (.int .i64 q))),some (.d xd)=>(match look lb κ with
   | some (.mp n f)=>some ⟨.any,[],[(κ,.mp n f)],[(κ,.mp n fun i=>bif decide ((i:Int)=q) then ((f i).1,xd) else f i)],.pr (0≤q∧q < n)⟩
   | _=>none)
  | _,_,_,_,_=>none)
 | _=>none
section
variable {P : Program} {w : World} {S : Nat → Prop} {μ : Mu} {ν : Nat → Bool}
theorem key_value {cs:List D} {v:Value} (hc:allI cs=true) (h:Rel w S μ ν (.d (.agg cs)) v):v=keyV cs:=by
 cases rel_d.1 h with
 | agg _ vs hl hr =>
  have:=allI_vals (xs:=vs.toList) hc (by simpa using hl) (fun i hi=>by rw [← getD_toList']; exact hr i hi)
  unfold keyV
  rw [← this]
theorem findAsking_idx {T:List (Nat × TI)} (hT:TOk P T) {kt c:Nat} (hk:intsT T kt=some c) {cs:List D} (hc:allI cs=true) (lc:cs.length=c):∀ (es:List MapEntry) (f:Nat→Value × D) (j:Nat),(∀ (i:Nat) (h:i < es.length),(es[i]'h).key=(f i).1∧∃ ds,(f i).1=keyV ds∧allI ds=true∧ds.length=c) →
  (Instr.findAsking kt (keyV cs) es j).run P w=.ok (match mpIdx (keyV cs) es.length f with | some p=>(es[p]?).map (fun e=>(p+j,e.val)) | none=>none) w
 | [],_,_,_=>rfl
 | e :: es,f,j,h=>by
  obtain ⟨h1,ds,h2,h3,h4⟩:=h 0 (by simp)
  have h1:e.key=(f 0).1:=h1
  have ih:=findAsking_idx hT hk hc lc es (fun i=>f (i+1)) (j+1) (fun i hi=>h (i+1) (by simpa using hi))
  have he:(Op.equal kt (keyV cs) e.key).run P w=.ok (eqCs cs ds) w:=by
   rw [h1,h2]
   exact equal_ints hT hk hc h3 lc h4 10000 (by omega)
  simp only [Instr.findAsking,Sem.run_bind,he,Result.andThen_ok,List.length_cons,mpIdx,h2,keyEqB_v hc h3]
  cases hab:eqCs cs ds with
  | true=>simp
  | false =>
   simp only [Bool.false_eq_true,if_false,ih,cond_false]
   cases hq:mpIdx (keyV cs) es.length (fun i=>f (i+1)) with
   | none=>simp
   | some q =>
    simp only [Option.map_some,List.getElem?_cons_succ]
    congr 2
    funext e
    simp; omega
theorem intsT_struct {T:List (Nat × TI)} (hT:TOk P T) {kt c:Nat} (hk:intsT T kt=some c):∃ gs,P.underlying kt=some (.struct gs):=by
 obtain ⟨i,hi,hk,hs,hlf⟩:=intsT_spec hk
 unfold leafs at hlf
 rw [hi] at hlf
 split at hlf
 ·rename_i e; simp only [Option.some.injEq] at e; subst e; cases hk
 ·rename_i fs sz bb zz e
  simp only [Option.some.injEq] at e
  subst e
  obtain ⟨j,z,F⟩:=tiOK_facts (hT _ _ hi)
  obtain ⟨gs,hu,_⟩:=kind_struct F.kind
  exact ⟨gs,hu⟩
 ·cases hlf
theorem findKey_idx {T:List (Nat × TI)} (hT:TOk P T) {kt c:Nat} (hk:intsT T kt=some c) {cs:List D} (hc:allI cs=true) (lc:cs.length=c) (es:List MapEntry) (f:Nat→Value × D) (h:∀ (i:Nat) (h:i < es.length),(es[i]'h).key=(f i).1∧∃ ds,(f i).1=keyV ds∧allI ds=true∧ds.length=c) :
  (Instr.findKey kt (keyV cs) es).run P w=.ok (match mpIdx (keyV cs) es.length f with | some p=>(es[p]?).map (fun e=>(p,e.val)) | none=>none) w:=by
 obtain ⟨gs,hu⟩:=intsT_struct hT hk
 unfold Instr.findKey
 simp only [Sem.run_bind,run_underlying hu,Result.andThen_ok]
 cases es with
 | nil=>rfl
 | cons e es =>
  have:Instr.findNow (.struct gs) (keyV cs) (e :: es) 0=none:=rfl
  rw [this]
  have:=findAsking_idx (w:=w) hT hk hc lc (e :: es) f 0 h
  simpa using this
theorem checkKey_leaf {T:List (Nat × TI)} (hT:TOk P T) (em:Bool):∀ (n t:Nat) (l:List Nat),leafs T n t=some l→∀ (d:Nat),n≤d→∀ (u:Value) (xs:List Value),ShapeV T t u xs→(Instr.checkKey em d t u).run P w=.ok () w
 | 0,_,_,h,_,_,_,_,_=>by cases h
 | n+1,t,l,h,d,hd,u,xs,⟨i,hi,hlx,hu,hx⟩=>by
  obtain ⟨d,rfl⟩:∃ q,d=q+1:=⟨d - 1,by omega⟩
  have ht:=hT _ _ hi
  obtain ⟨j,z,F⟩:=tiOK_facts ht
  cases hk:isAggK i.kind with
  | false =>
   obtain ⟨h1,h2,h3⟩:=leafs_scalar h hi hk
   obtain ⟨_,rfl⟩:=hu.resolve_left (fun e=>by rw [hk] at e; cases e.1)
   obtain ⟨a,rfl⟩:=hx u (by simp)
   have hkk:=F.kind
   rw [h2] at hkk
   exact run_checkKey_int (kind_int hkk) d
  | true =>
   obtain ⟨_,rfl⟩:=hu.resolve_right (fun e=>by rw [hk] at e; cases e.1)
   unfold leafs at h
   rw [hi] at h
   split at h
   ·rename_i e
    simp only [Option.some.injEq] at e
    subst e
    cases hk
   ·rename_i fs sz bb zz e
    simp only [Option.some.injEq] at e
    subst e
    obtain ⟨gs,hug,hgs⟩:=kind_struct F.kind
    rw [Instr.checkKey]
    simp only [Sem.run_bind,run_underlying hug,Result.andThen_ok]
    rw [← Array.forIn_toList]
    subst hgs
    have key:∀ (gs:List Field) (l:List Nat),leafFs T (leafs T n) sz (gs.map fun f=>(f.offset,f.type))=some l→(forIn (m:=Sem) gs PUnit.unit (fun f _=>if f.name≠ "_" then (do Instr.checkKey em d f.type (← part f.type xs.toArray f.offset); pure (ForInStep.yield PUnit.unit)) else pure (ForInStep.yield PUnit.unit))).run P w=.ok PUnit.unit w:=by
     intro gs
     induction gs with
     | nil=>intro l _; rfl
     | cons g gs ih =>
      intro l h
      simp only [List.map_cons,leafFs] at h
      split at h
      ·rename_i ig a b hig ha hb
       rw [Bool.cond_eq_ite] at h
       split at h
       ·rename_i hc
        simp only [Bool.and_eq_true] at hc
        have hle:=Nat.le_of_ble_eq_true hc.1
        simp only at hlx
        obtain ⟨u,p1,s1⟩:=part_shape (w:=w) hT hig (o:=g.offset) (xs:=xs) (by omega) hx (fun hk=>(leafs_scalar ha hig hk).1)
        have p3:=checkKey_leaf hT em n g.type a ha d (by omega) u _ s1
        have ih':=ih b hb
        rw [List.forIn_cons]
        simp only [Sem.run_bind,Sem.run_ite,p1,p3,Result.andThen_ok,Sem.run_pure]
        split <;> simp only [Result.andThen_ok] <;> exact ih'
       ·cases h
      ·cases h
    have hk2:=key gs.toList l h
    simp at hk2 ⊢
    rw [hk2]
    rfl
   ·cases h
theorem checkKey_ints {T:List (Nat × TI)} (hT:TOk P T) {kt c:Nat} (hk:intsT T kt=some c) {cs:List D} (hc:allI cs=true) (lc:cs.length=c) (em:Bool):(Instr.checkKey em 10000 kt (keyV cs)).run P w=.ok () w:=by
 obtain ⟨i,hi,hka,hs,hl⟩:=intsT_spec hk
 exact checkKey_leaf hT em 8 kt _ hl 10000 (by omega) _ (cs.map dval) ⟨i,hi,by simp [lc,hs],.inl ⟨hka,rfl⟩,allI_map hc⟩
theorem sameBits_ints:∀ {cs:List D},allI cs=true→((cs.map dval).zip (cs.map dval)).all (fun (x,y)=>Instr.sameBits 9999 x y)=true
 | [],_=>rfl
 | .v (.int .i64 a) :: r,h=>by
  simp only [List.map_cons,List.zip_cons_cons,List.all_cons,Bool.and_eq_true]
  exact ⟨by simp [dval,Instr.sameBits],sameBits_ints (cs:=r) h⟩
theorem keyStaysV {cs:List D} (hc:allI cs=true):(Instr.keyThatStays (keyV cs) (keyV cs)).run P w=.ok (keyV cs) w:=by
 have:Instr.sameBits 10000 (keyV cs) (keyV cs)=true:=by
  show ((cs.map dval).toArray.size == (cs.map dval).toArray.size&&((cs.map dval).toArray.toList.zip (cs.map dval).toArray.toList).all fun (x,y)=>Instr.sameBits 9999 x y)=true
  simp only [beq_self_eq_true,Bool.true_and]
  exact sameBits_ints hc
 unfold Instr.keyThatStays
 rw [this]
 rfl
theorem zeroDT_run {T:List (Nat × TI)} (hT:TOk P T) {et:Nat} {z:D} (hz:zeroDT P T et=some z):∃ zv,(zeroValue et).run P w=.ok zv w∧Rd w S z zv:=by
 unfold zeroDT at hz
 split at hz
 ·rename_i z' hz'
  simp only [Option.some.injEq] at hz
  subst hz
  unfold zeroD at hz'
  split at hz'
  ·rename_i j hj
   split at hz'
   ·rename_i k' n' hjz
    simp only [Option.some.injEq] at hz'
    subst hz'
    exact ⟨.int k' n',by simp only [zeroValue,typeInfo,Sem.run_bind,run_program,Result.andThen_ok,hj,Sem.run_pure,hjz],.v _ rfl⟩
   ·rename_i b hjz
    simp only [Option.some.injEq] at hz'
    subst hz'
    exact ⟨.bool b,by simp only [zeroValue,typeInfo,Sem.run_bind,run_program,Result.andThen_ok,hj,Sem.run_pure,hjz],.v _ rfl⟩
   ·rename_i s hjz
    simp only [Option.some.injEq] at hz'
    subst hz'
    exact ⟨.string s,by simp only [zeroValue,typeInfo,Sem.run_bind,run_program,Result.andThen_ok,hj,Sem.run_pure,hjz],.v _ rfl⟩
   ·cases hz'
  ·cases hz'
 ·split at hz
  ·rename_i j hj
   split at hz
   ·rename_i zs hjz
    split at hz
    ·rename_i i hi
     simp only [Option.some.injEq] at hz
     subst hz
     obtain ⟨j',z',F⟩:=tiOK_facts (hT _ _ hi)
     rw [F.info] at hj
     cases hj
     rw [F.zero] at hjz
     cases hjz
     have hzo:=F.zok
     obtain ⟨q1,q2⟩:=zeroOK_rd (w:=w) (S:=S) hzo
     refine ⟨.agg zs,by simp only [zeroValue,typeInfo,Sem.run_bind,run_program,Result.andThen_ok,F.info,Sem.run_pure,F.zero],.agg _ _ (by have q1':zs.toList.length=i.zero.length:=q1; simpa using q1') (fun q hq=>?_)⟩
     rw [getD_toList']
     exact q2 q hq
    ·cases hz
   ·cases hz
  ·cases hz
end
section
variable {C : Cx} {A : M} {a : Act} {w : World} {S : Nat → Prop} {μ : Mu} {ν : Nat → Bool}
theorem no_born {n:Nat} {f:Nat→Value × D} {cur:Array MapEntry} (h:∀ i,i < n→∃ e,cur[i]? = some e∧e.key=(f i).1∧keyK e.key=true∧e.born=i∧Rd w S (f i).2 e.val):∀ i,i < n→∃ e,cur[i]? = some e∧e.key=(f i).1∧keyK e.key=true∧Rd w S (f i).2 e.val :=
 fun i hi=>let ⟨e,h1,h2,h3,_,h5⟩:=h i hi; ⟨e,h1,h2,h3,h5⟩
theorem ents_keysL {n c:Nat} {f:Nat→Value × D} {cur:Array MapEntry} (hob:keysOK n c f) (hsz:cur.size=n) (hcell:∀ i,i < n→∃ e,cur[i]? = some e∧e.key=(f i).1∧keyK e.key=true∧Rd w S (f i).2 e.val) :
  ∀ (i:Nat) (h:i < cur.toList.length),(cur.toList[i]'h).key=(f i).1∧∃ ds,(f i).1=keyV ds∧allI ds=true∧ds.length=c:=fun i hi=>by
 have hin:i < n:=by simpa [hsz] using hi
 obtain ⟨e,h1,h2,_⟩:=hcell i hin
 have:cur.toList[i]=e:=by simpa using (Array.getElem?_eq_some_iff.1 h1).2
 rw [this]
 exact ⟨h2,hob i hin⟩
theorem ents_keys {n c:Nat} {f:Nat→Value × D} {cur:Array MapEntry} (hob:keysOK n c f) (hsz:cur.size=n) (hcell:∀ i,i < n→∃ e,cur[i]? = some e∧e.key=(f i).1∧keyK e.key=true∧e.born=i∧Rd w S (f i).2 e.val) :
  ∀ (i:Nat) (h:i < cur.toList.length),(cur.toList[i]'h).key=(f i).1∧∃ ds,(f i).1=keyV ds∧allI ds=true∧ds.length=c:=ents_keysL hob hsz (no_born hcell)
theorem lookupK_runL {T:List (Nat × TI)} (hT:TOk C.P T) {t kt et c:Nat} {cs:List D} {z:D} {n g ck:Nat} {f:Nat→Value × D} {cur:Array MapEntry} {ok:Bool} {s1 b1:Nat} {z1:List D} {q1:Bool}
  (hc:allI cs=true) (lc:cs.length=c) (ht:look T t=some { kind:=.map kt et,size:=s1,bytes:=b1,zero:=z1,eq:=q1 }) (hkt:intsT T kt=some c) (hz:zeroDT C.P T et=some z) (hob:keysOK n c f)
  (hg:w.heap[g]? = some (.map cur ck)) (hsz:cur.size=n) (hcell:∀ i,i < n→∃ e,cur[i]? = some e∧e.key=(f i).1∧keyK e.key=true∧Rd w S (f i).2 e.val) :
  ∃ v,(Instr.lookup t (.map (some g)) (keyV cs) ok).run C.P w=.ok (bif ok then .tuple #[v,.bool (mpHas (keyV cs) n f)] else v) w∧Rel w S μ ν (.d (mpGet (keyV cs) n f z)) v:=by
 obtain ⟨ti,z0,F⟩:=tiOK_facts (hT _ _ ht)
 have hu:=kind_map F.kind
 have hfind:=findKey_idx (w:=w) hT hkt hc lc cur.toList f (ents_keysL hob hsz hcell)
 have hcl:cur.toList.length=n:=by simpa using hsz
 rw [hcl] at hfind
 have hck:=checkKey_ints (w:=w) hT hkt hc lc cur.isEmpty
 obtain ⟨zv,hzv,hzr⟩:=zeroDT_run (w:=w) (S:=S) hT hz
 cases hix:mpIdx (keyV cs) n f with
 | some p =>
  obtain ⟨hp,hpk⟩:=mpIdx_spec.1 p hix
  obtain ⟨e,h1,h2,h3,h5⟩:=hcell p hp
  have h1l:cur.toList[p]? = some e:=by simpa using h1
  rw [hix] at hfind
  simp only [h1l,Option.map_some] at hfind
  refine ⟨e.val,?_,by simp only [mpGet,hix]; exact .d h5⟩
  unfold Instr.lookup
  simp only [Sem.run_bind,run_underlying hu,Result.andThen_ok,run_getO hg,Sem.run_pure,hck,hfind,mpHas,hix,Option.isSome_some]
  cases ok <;> rfl
 | none =>
  rw [hix] at hfind
  simp only at hfind
  refine ⟨zv,?_,by simp only [mpGet,hix]; exact .d hzr⟩
  unfold Instr.lookup
  simp only [Sem.run_bind,run_underlying hu,Result.andThen_ok,run_getO hg,Sem.run_pure,hck,hfind,hzv,mpHas,hix,Option.isSome_none]
  cases ok <;> rfl
theorem lookupK_run {T:List (Nat × TI)} (hT:TOk C.P T) {t kt et c:Nat} {cs:List D} {z:D} {n g:Nat} {f:Nat→Value × D} {cur:Array MapEntry} {ok:Bool} {s1 b1:Nat} {z1:List D} {q1:Bool}
  (hc:allI cs=true) (lc:cs.length=c) (ht:look T t=some { kind:=.map kt et,size:=s1,bytes:=b1,zero:=z1,eq:=q1 }) (hkt:intsT T kt=some c) (hz:zeroDT C.P T et=some z) (hob:keysOK n c f)
  (hg:w.heap[g]? = some (.map cur n)) (hsz:cur.size=n) (hcell:∀ i,i < n→∃ e,cur[i]? = some e∧e.key=(f i).1∧keyK e.key=true∧e.born=i∧Rd w S (f i).2 e.val) :
  ∃ v,(Instr.lookup t (.map (some g)) (keyV cs) ok).run C.P w=.ok (bif ok then .tuple #[v,.bool (mpHas (keyV cs) n f)] else v) w∧Rel w S μ ν (.d (mpGet (keyV cs) n f z)) v :=
 lookupK_runL hT hc lc ht hkt hz hob hg hsz (no_born hcell)
theorem mp_upd {n g:Nat} {f:Nat→Value × D} {cur:Array MapEntry} {cs:List D} {c:Nat} {x:Value} {xd:D} {o:Obj} (hc:allI cs=true) (hob:keysOK n c f) (hg:w.heap[g]? = some (.map cur n)) (hns:¬ S g) (hb:∀ q,S q→q < w.heap.size) (hsz:cur.size=n)
  (hcell:∀ i,i < n→∃ e,cur[i]? = some e∧e.key=(f i).1∧keyK e.key=true∧e.born=i∧Rd w S (f i).2 e.val) (hx:Rd w S xd x)
  (ho:o=match mpIdx (keyV cs) n f with | some p=>.map (cur.modify p fun e=>{ e with key:=keyV cs,val:=x }) n | none=>.map (cur.push { key:=keyV cs,val:=x,born:=n }) (n+1)) :
  ∀ cp,BlkAt (World.setO w g o) S μ (.mp (mpN (keyV cs) n f) (mpF (keyV cs) xd n f)) g cp:=by
 intro cp
 subst ho
 have hw:∀ o':Obj,∀ q,S q→(World.setO w g o').heap[q]? = w.heap[q]?:=fun o' q hq=>(setO_kept g _).block q (hb q hq) (fun e=>hns (e ▸ hq))
 cases hix:mpIdx (keyV cs) n f with
 | some p =>
  obtain ⟨hp,hpk⟩:=mpIdx_spec.1 p hix
  obtain ⟨e,h1,h2,h3,h4,h5⟩:=hcell p hp
  have hkey:(f p).1=keyV cs:=by
   obtain ⟨ds,hd,hd2,_⟩:=hob p hp
   rw [hd] at hpk ⊢
   rw [keyEqB_v hc hd2] at hpk
   rw [eqCs_eq hc hd2 hpk]
  have eN:mpN (keyV cs) n f=n:=by simp [mpN,hix]
  rw [eN]
  refine ⟨_,setO_at _ hg,hns,by simp [hsz],fun i hi=>?_⟩
  obtain ⟨e',q1,q2,q3,q4,q5⟩:=hcell i hi
  by_cases c:i=p
  ·subst c
   rw [h1] at q1
   cases q1
   refine ⟨{ e with key:=keyV cs,val:=x },?_,?_,keyK_v hc,q4,?_⟩
   ·simp [Array.getElem?_modify,h1]
   ·simp only [mpF,hix,if_true]
    exact hkey.symm
   ·simp only [mpF,hix,if_true]
    exact hx.mono (fun _ x=>x) (hw _)
  ·refine ⟨e',?_,?_,q3,q4,?_⟩
   ·have c':¬ p=i:=fun e=>c e.symm
    simp [Array.getElem?_modify,c',q1]
   ·simp only [mpF,hix,c,if_false]; exact q2
   ·simp only [mpF,hix,c,if_false]; exact q5.mono (fun _ x=>x) (hw _)
 | none =>
  have eN:mpN (keyV cs) n f=n+1:=by simp [mpN,hix]
  rw [eN]
  refine ⟨_,setO_at _ hg,hns,by simp [hsz],fun i hi=>?_⟩
  by_cases c:i < n
  ·obtain ⟨e,h1,h2,h3,h4,h5⟩:=hcell i c
   refine ⟨e,?_,by simp only [mpF,hix,c,if_true]; exact h2,h3,h4,by simp only [mpF,hix,c,if_true]; exact h5.mono (fun _ x=>x) (hw _)⟩
   rw [Array.getElem?_push,if_neg (by omega)]
   exact h1
  ·obtain rfl:i=n:=by omega
   refine ⟨_,by rw [Array.getElem?_push,if_pos hsz.symm],by simp only [mpF,hix,c,if_false],keyK_v hc,rfl,?_⟩
   simp only [mpF,hix,c,if_false]
   exact hx.mono (fun _ x=>x) (hw _)
theorem apply_writeD {A:M} {κ d:Nat} {b b':Blk} {need:List (Nat × AV)} {ro:List (Nat × Blk)} {gs:List (Nat × Bool)} (x:AV):(Tr.mk need (some d) x ro [(κ,b)] [(κ,b')] gs).apply A=(A.set κ (some b')).put d x:=by
 unfold Tr.apply M.put M.set
 simp only [Option.some.injEq]
 congr 1
 ·funext t
  by_cases c:t=d
  ·simp [c]
  ·have:¬ d=t:=fun e=>c e.symm
   simp [c,this]
 ·funext k
  by_cases c:k=κ
  ·subst c; simp [look]
  ·have:Nat.beq κ k=false:=by
    cases hb:Nat.beq κ k with
    | true=>exact absurd (Nat.eq_of_beq_eq_true hb).symm c
    | false=>rfl
   simp [look,this,c]
theorem evKey_sound {T:List (Nat × TI)} (hT:TOk C.P T) (hs:Sim C A a w S μ ν) {lb:List (Nat × Blk)} {o:Oper} {ρ:Operand→Option AV} (hρ:∀ x y,ρ x=some y→Rel w S μ ν y (a.eval x)) (hd:∀ t,o.dst=some t→t < C.nt) {quiet:Bool} {r:R}
  (h:evKey C.P T lb ρ o.dst quiet o.op=some r) (hro:∀ p,p∈r.ro→A.lb p.1=some p.2) (hmem:∀ p,p∈r.mem→A.lb p.1=some p.2) (hob:r.ob.den) (need:List (Nat × AV)) (gs:List (Nat × Bool)) :
  o.wp C.P a w (fun a' w'=>∃ S' μ',Sim C ((Tr.mk need o.dst r.v r.ro r.mem r.mem' gs).apply A) a' w' S' μ' ν) (fun _ _ _=>False):=by
 unfold evKey at h
 split at h
 all_goals rename_i ho
 ·-- mapUpdate
  rename_i t m k x
  split at h
  ·rename_i κ cs xd kt _ _ _ _ _ hdst hm hk hx ht
   split at h
   ·rename_i n f c hl hkt
    rw [Bool.cond_eq_ite] at h
    split at h
    ·rename_i hc
     simp only [Bool.and_eq_true] at hc
     obtain ⟨hc,lc⟩:=hc
     have lc:=Nat.eq_of_beq_eq_true lc
     simp only [Option.some.injEq] at h
     subst h
     rw [hdst]
     have hκ:=hmem (κ,.mp n f) (by simp)
     have hme:=hs.mem κ _ hκ
     have hv:=hρ _ _ hm
     generalize hmv:a.eval m=mv at hv
     cases hv with
     | @mpv _ g cap hμ =>
      rw [hμ] at hme
      obtain ⟨cur,hg,hns,hsz,hcell⟩:=hme.at
      obtain ⟨ti,z,F⟩:=tiOK_facts (hT _ _ ht)
      have hu:=kind_map F.kind
      have hkv:=key_value hc (hρ _ _ hk)
      have hob:keysOK n c f:=hob
      have hck:=checkKey_ints (w:=w) hT hkt hc lc false
      have hfind:=findKey_idx (w:=w) hT hkt hc lc cur.toList f (ents_keys hob hsz hcell)
      have hcl:cur.toList.length=n:=by simpa using hsz
      rw [hcl] at hfind
      have hxr:=rel_d.1 (hρ _ _ hx)
      have hup:=fun o ho=>mp_upd (μ:=μ) (o:=o) hc hob hg hns (fun q hq=>hs.bound q hq) hsz hcell hxr ho
      unfold Oper.wp
      cases hix:mpIdx (keyV cs) n f with
      | some p =>
       obtain ⟨hp,hpk⟩:=mpIdx_spec.1 p hix
       obtain ⟨e,h1,h2,h3,h4,h5⟩:=hcell p hp
       have hkey:e.key=keyV cs:=by
        obtain ⟨ds,hd,hd2,_⟩:=hob p hp
        rw [hd] at hpk
        rw [keyEqB_v hc hd2] at hpk
        rw [h2,hd,eqCs_eq hc hd2 hpk]
       have h1l:cur.toList[p]? = some e:=by simpa using h1
       rw [hix] at hfind
       simp only [h1l,Option.map_some] at hfind
       have hrun:(execOp a.eval o).run C.P w=.ok .skip (World.setO w g (.map (cur.modify p fun e=>{ e with key:=keyV cs,val:=a.eval x }) n)):=by
        unfold execOp
        rw [ho]
        simp only [hmv,hkv,Sem.run_bind]
        unfold Instr.mapUpdate
        simp only [Sem.run_bind,run_underlying hu,Result.andThen_ok,run_getO hg,hck,hfind,Sem.run_pure,h1,Option.map_some,Option.getD_some,hkey,keyStaysV hc,run_setO _ hg]
       rw [hrun]
       refine ⟨S,μ,?_⟩
       rw [apply_write,hdst]
       exact hs.writeW hκ hμ (setO_kept g _) (hup _ (by rw [hix]) _)
      | none =>
       rw [hix] at hfind
       simp only at hfind
       have hrun:(execOp a.eval o).run C.P w=.ok .skip (World.setO w g (.map (cur.push { key:=keyV cs,val:=a.eval x,born:=n }) (n+1))):=by
        unfold execOp
        rw [ho]
        simp only [hmv,hkv,Sem.run_bind]
        unfold Instr.mapUpdate
        simp only [Sem.run_bind,run_underlying hu,Result.andThen_ok,run_getO hg,hck,hfind,Sem.run_pure,run_setO _ hg]
       rw [hrun]
       refine ⟨S,μ,?_⟩
       rw [apply_write,hdst]
       exact hs.writeW hκ hμ (setO_kept g _) (hup _ (by rw [hix]) _)
    ·cases h
   ·cases h
  ·cases h
 ·-- lookup
  rename_i t m k ok
  split at h
  ·rename_i κ cs kt et _ _ _ _ hm hk ht
   split at h
   ·rename_i n f c z hl hkt hz
    rw [Bool.cond_eq_ite] at h
    split at h
    ·rename_i hc
     simp only [Bool.and_eq_true] at hc
     obtain ⟨hc,lc⟩:=hc
     have lc:=Nat.eq_of_beq_eq_true lc
     simp only [Option.some.injEq] at h
     subst h
     have hκ:=hro (κ,.mp n f) (by simp)
     have hme:=hs.mem κ _ hκ
     have hv:=hρ _ _ hm
     generalize hmv:a.eval m=mv at hv
     cases hv with
     | @mpv _ g cap hμ =>
      rw [hμ] at hme
      obtain ⟨cur,hg,hns,hsz,hcell⟩:=hme.at
      have hkv:=key_value hc (hρ _ _ hk)
      obtain ⟨v,hrv,hv⟩:=lookupK_run (ok:=ok) hT hc lc ht hkt hz hob hg hsz hcell
      refine core_value (τ:=Tr.mk need o.dst (bif ok then .tup [.d (mpGet (keyV cs) n f z),.d (.v (.bool (mpHas (keyV cs) n f)))] else .d (mpGet (keyV cs) n f z)) [(κ,.mp n f)] [] [] gs) hs hd (x:=bif ok then .tuple #[v,.bool (mpHas (keyV cs) n f)] else v) ?_ (lookup_rel hv) rfl rfl rfl
      simp only [execOp,ho,hmv,hkv,Sem.run_bind,hrv,Result.andThen_ok,Sem.run_pure]
    ·cases h
   ·cases h
  ·rename_i n f cs kt et _ _ _ _ hm hk ht
   split at h
   ·rename_i c z hkt hz
    rw [Bool.cond_eq_ite] at h
    split at h
    ·rename_i hc
     simp only [Bool.and_eq_true] at hc
     obtain ⟨hc,lc⟩:=hc
     have lc:=Nat.eq_of_beq_eq_true lc
     simp only [Option.some.injEq] at h
     subst h
     have hv:=hρ _ _ hm
     generalize hmv:a.eval m=mv at hv
     cases hv with
     | @pmp _ _ g hp =>
      obtain ⟨hns,cur,hg,hsz,hcell⟩:=hp
      have hkv:=key_value hc (hρ _ _ hk)
      obtain ⟨v,hrv,hv⟩:=lookupK_run (ok:=ok) hT hc lc ht hkt hz hob hg hsz hcell
      refine core_value (τ:=Tr.mk need o.dst (bif ok then .tup [.d (mpGet (keyV cs) n f z),.d (.v (.bool (mpHas (keyV cs) n f)))] else .d (mpGet (keyV cs) n f z)) [] [] [] gs) hs hd (x:=bif ok then .tuple #[v,.bool (mpHas (keyV cs) n f)] else v) ?_ (lookup_rel hv) rfl rfl rfl
      simp only [execOp,ho,hmv,hkv,Sem.run_bind,hrv,Result.andThen_ok,Sem.run_pure]
    ·cases h
   ·cases h
  ·cases h
 ·-- mapEntry
  rename_i t m k
  split at h
  ·rename_i d κ cs kt et _ _ _ _ hdst hm hk ht
   split at h
   ·rename_i n f c z hl hkt hz
    rw [Bool.cond_eq_ite] at h
    split at h
    ·rename_i hc
     simp only [Bool.and_eq_true] at hc
     obtain ⟨hc,lc⟩:=hc
     have lc:=Nat.eq_of_beq_eq_true lc
     simp only [Option.some.injEq] at h
     subst h
     rw [hdst]
     have hκ:=hmem (κ,.mp n f) (by simp)
     have hme:=hs.mem κ _ hκ
     have hv:=hρ _ _ hm
     generalize hmv:a.eval m=mv at hv
     cases hv with
     | @mpv _ g cap hμ =>
      rw [hμ] at hme
      obtain ⟨cur,hg,hns,hsz,hcell⟩:=hme.at
      obtain ⟨ti,z0,F⟩:=tiOK_facts (hT _ _ ht)
      have hu:=kind_map F.kind
      have hkv:=key_value hc (hρ _ _ hk)
      have hob:keysOK n c f:=hob
      have hck:=checkKey_ints (w:=w) hT hkt hc lc false
      have hfind:=findKey_idx (w:=w) hT hkt hc lc cur.toList f (ents_keys hob hsz hcell)
      have hcl:cur.toList.length=n:=by simpa using hsz
      rw [hcl] at hfind
      obtain ⟨zv,hzv,hzr⟩:=zeroDT_run (w:=w) (S:=S) hT hz
      have fin:∀ (x:Value) (q:Nat) (o':Obj),Rd w S (mpGet (keyV cs) n f z) x→q=mpAt (keyV cs) n f→(execOp a.eval o).run C.P w=.ok (.value (.tuple #[x,.int .i64 q])) (World.setO w g o') →
        (∀ cp,BlkAt (World.setO w g o') S μ (.mp (mpN (keyV cs) n f) (mpF (keyV cs) (mpGet (keyV cs) n f z) n f)) g cp)→o.wp C.P a w (fun a' w'=>∃ S' μ',Sim C ((Tr.mk need (some d) (.tup [.d (mpGet (keyV cs) n f z),.d (.v (.int .i64 (mpAt (keyV cs) n f)))]) [] [(κ,.mp n f)] [(κ,.mp (mpN (keyV cs) n f) (mpF (keyV cs) (mpGet (keyV cs) n f z) n f))] gs).apply A) a' w' S' μ' ν) (fun _ _ _=>False):=fun x q o' hx hq hrun hb=>by
       unfold Oper.wp
       rw [hrun]
       have h1:=hs.writeW hκ hμ (setO_kept g o') (hb cap)
       have hw:∀ q,S q→(World.setO w g o').heap[q]? = w.heap[q]?:=fun q hq=>(setO_kept g _).block q (hs.bound q hq) (fun e=>hns (e ▸ hq))
       have h2:=h1.put (dst:=some d) (x:=.tup [.d (mpGet (keyV cs) n f z),.d (.v (.int .i64 (mpAt (keyV cs) n f)))]) (v:=.tuple #[x,.int .i64 q]) (fun t ht=>by cases ht; exact hd d hdst) (.tup rfl (fun j hj=>by
        match j with
        | 0=>simpa using Rel.d (μ:=μ) (ν:=ν) (hx.mono (fun _ x=>x) hw)
        | 1=>subst hq; simpa using rel_v (S:=S) (μ:=μ) (ν:=ν) (x:=.int .i64 (mpAt (keyV cs) n f)) rfl
        | j+2=>simp at hj; omega))
       rw [apply_writeD,Oper.upon_value,hdst]
       exact ⟨S,μ,h2⟩
      cases hix:mpIdx (keyV cs) n f with
      | some p =>
       obtain ⟨hp,hpk⟩:=mpIdx_spec.1 p hix
       obtain ⟨e,h1,h2,h3,h4,h5⟩:=hcell p hp
       have hkey:e.key=keyV cs:=by
        obtain ⟨ds,hd,hd2,_⟩:=hob p hp
        rw [hd] at hpk
        rw [keyEqB_v hc hd2] at hpk
        rw [h2,hd,eqCs_eq hc hd2 hpk]
       have h1l:cur.toList[p]? = some e:=by simpa using h1
       rw [hix] at hfind
       simp only [h1l,Option.map_some] at hfind
       have eg:mpGet (keyV cs) n f z=(f p).2:=by simp [mpGet,hix]
       have ea:mpAt (keyV cs) n f=p:=by simp [mpAt,hix]
       have hup:=mp_upd (μ:=μ) hc hob hg hns (fun q hq=>hs.bound q hq) hsz hcell (xd:=mpGet (keyV cs) n f z) (x:=e.val) (by rw [eg]; exact h5) rfl
       rw [hix] at hup
       have hmod:(cur.modify p fun e=>{ e with key:=keyV cs })=(cur.modify p fun e'=>{ e' with key:=keyV cs,val:=e.val }):=by
        apply Array.ext (by simp)
        intro i h1' h2'
        simp only [Array.getElem_modify]
        split
        ·rename_i hpi
         subst hpi
         have:cur[p]=e:=(Array.getElem?_eq_some_iff.1 h1).2
         rw [this]
        ·rfl
       refine fin e.val p _ (by rw [eg]; exact h5) ea.symm ?_ hup
       unfold execOp
       rw [ho]
       simp only [hmv,hkv,Sem.run_bind]
       unfold Instr.mapEntry
       simp only [Sem.run_bind,run_underlying hu,Result.andThen_ok,run_getO hg,hck,hfind,Sem.run_pure,h1,Option.map_some,Option.getD_some,hkey,keyStaysV hc,run_setO _ hg,hmod,h4,goInt]
      | none =>
       rw [hix] at hfind
       simp only at hfind
       have eg:mpGet (keyV cs) n f z=z:=by simp [mpGet,hix]
       have ea:mpAt (keyV cs) n f=n:=by simp [mpAt,hix]
       have hup:=mp_upd (μ:=μ) hc hob hg hns (fun q hq=>hs.bound q hq) hsz hcell (xd:=mpGet (keyV cs) n f z) (x:=zv) (by rw [eg]; exact hzr) rfl
       rw [hix] at hup
       refine fin zv n _ (by rw [eg]; exact hzr) ea.symm ?_ hup
       unfold execOp
       rw [ho]
       simp only [hmv,hkv,Sem.run_bind]
       unfold Instr.mapEntry
       simp only [Sem.run_bind,run_underlying hu,Result.andThen_ok,run_getO hg,hck,hfind,Sem.run_pure,hzv,run_setO _ hg,goInt]
    ·cases h
   ·cases h
  ·cases h
 ·-- entryStore
  rename_i t m s x
  split at h
  ·rename_i κ q xd hdst hm hq hx
   split at h
   ·rename_i n f hl
    simp only [Option.some.injEq] at h
    subst h
    rw [hdst]
    have hκ:=hmem (κ,.mp n f) (by simp)
    have hme:=hs.mem κ _ hκ
    have hv:=hρ _ _ hm
    generalize hmv:a.eval m=mv at hv
    cases hv with
    | @mpv _ g cap hμ =>
     rw [hμ] at hme
     obtain ⟨cur,hg,hns,hsz,hcell⟩:=hme.at
     obtain ⟨hq0,hqn⟩:0≤q∧q < n:=hob
     have hqv:=rel_int (hρ _ _ hq)
     have hxr:=rel_d.1 (hρ _ _ hx)
     obtain ⟨p,rfl⟩:∃ p:Nat,q=p:=⟨q.toNat,by omega⟩
     have hp:p < n:=by omega
     obtain ⟨e,h1,h2,h3,h4,h5⟩:=hcell p hp
     have hfi:cur.findIdx? (fun e=>(e.born:Int) == (p:Int))=some p:=by
      rw [Array.findIdx?_eq_some_iff_getElem]
      refine ⟨by omega,?_,fun j hj=>?_⟩
      ·have:cur[p]=e:=(Array.getElem?_eq_some_iff.1 h1).2
       rw [this,h4]
       simp
      ·obtain ⟨e',q1,_,_,q4,_⟩:=hcell j (by omega)
       have:cur[j]=e':=(Array.getElem?_eq_some_iff.1 q1).2
       rw [this,q4]
       simp
       omega
     have hrun:(execOp a.eval o).run C.P w=.ok .skip (World.setO w g (.map (cur.modify p fun e=>{ e with val:=a.eval x }) n)):=by
      unfold execOp
      rw [ho]
      simp only [hmv,hqv,Sem.run_bind]
      unfold Instr.entryStore
      simp only [Sem.run_bind,Sem.run_pure,Result.andThen_ok,run_getO hg,asInt,asIntOf,hfi,run_setO _ hg]
     unfold Oper.wp
     rw [hrun]
     refine ⟨S,μ,?_⟩
     rw [apply_write,hdst]
     have hw:∀ o':Obj,∀ q,S q→(World.setO w g o').heap[q]? = w.heap[q]?:=fun o' q hq=>(setO_kept g _).block q (hs.bound q hq) (fun e=>hns (e ▸ hq))
     refine hs.writeW hκ hμ (setO_kept g _) ⟨_,setO_at _ hg,hns,by simp [hsz],fun i hi=>?_⟩
     obtain ⟨e',q1,q2,q3,q4,q5⟩:=hcell i hi
     by_cases c:i=p
     ·subst c
      rw [h1] at q1
      cases q1
      refine ⟨{ e with val:=a.eval x },by simp [Array.getElem?_modify,h1],by simp [q2],q3,q4,?_⟩
      simp only [decide_true,cond_true]
      exact hxr.mono (fun _ x=>x) (hw _)
     ·have c':¬ p=i:=fun e=>c e.symm
      have c2:¬ (i:Int)=(p:Int):=by omega
      refine ⟨e',by simp [Array.getElem?_modify,c',q1],by simp [c2,q2],q3,q4,?_⟩
      simp only [c2,decide_false,cond_false]
      exact q5.mono (fun _ x=>x) (hw _)
   ·cases h
  ·cases h
 ·cases h
theorem evKey_ro {P:Program} {T:List (Nat × TI)} {lb:List (Nat × Blk)} {ρ:Operand→Option AV} {dst:Option Nat} {quiet:Bool} {op:Op} {r:R} (h:evKey P T lb ρ dst quiet op=some r) :
  (∀ p,p∈r.ro→look lb p.1=some p.2)∧(∀ p,p∈r.mem→look lb p.1=some p.2)∧(quiet=true→r.mem=[]∧r.mem'=[])∧∀ k,k∈r.mem'.map (·.1)→k∈r.mem.map (·.1):=by
 unfold evKey at h
 have nil:∀ {p:Nat × Blk},p∈([]:List (Nat × Blk))→look lb p.1=some p.2:=fun h=>by cases h
 have one:∀ {κ:Nat} {b:Blk},look lb κ=some b→∀ p,p∈[(κ,b)]→look lb p.1=some p.2:=fun h p hp=>by simp only [List.mem_singleton] at hp; subst hp; exact h
 split at h
 ·split at h
  ·split at h
   ·rename_i hl _
    rw [Bool.cond_eq_ite] at h
    split at h
    ·simp only [Option.some.injEq] at h; subst h; exact ⟨fun _=>nil,one hl,fun hq=>(by cases hq),fun k hk=>by simpa using hk⟩
    ·cases h
   ·cases h
  ·cases h
 ·split at h
  ·split at h
   ·rename_i hl _ _
    rw [Bool.cond_eq_ite] at h
    split at h
    ·simp only [Option.some.injEq] at h; subst h; exact ⟨one hl,fun _=>nil,fun _=>⟨rfl,rfl⟩,fun k hk=>(by cases hk)⟩
    ·cases h
   ·cases h
  ·split at h
   ·rw [Bool.cond_eq_ite] at h
    split at h
    ·simp only [Option.some.injEq] at h; subst h; exact ⟨fun _=>nil,fun _=>nil,fun _=>⟨rfl,rfl⟩,fun k hk=>(by cases hk)⟩
    ·cases h
   ·cases h
  ·cases h
 ·split at h
  ·split at h
   ·rename_i hl _ _
    rw [Bool.cond_eq_ite] at h
    split at h
    ·simp only [Option.some.injEq] at h; subst h; exact ⟨fun _=>nil,one hl,fun hq=>(by cases hq),fun k hk=>by simpa using hk⟩
    ·cases h
   ·cases h
  ·cases h
 ·split at h
  ·split at h
   ·rename_i hl
    simp only [Option.some.injEq] at h; subst h; exact ⟨fun _=>nil,one hl,fun hq=>(by cases hq),fun k hk=>by simpa using hk⟩
   ·cases h
  ·cases h
 ·cases h
def dlN (k:Value) (n:Nat) (f:Nat→Value × D):Nat:=match mpIdx k n f with | some _=>n - 1 | none=>n
def dlF (k:Value) (n:Nat) (f:Nat→Value × D):Nat→Value × D:=match mpIdx k n f with | some p=>fun i=>if i < p then f i else f (i+1) | none=>f
def mlOf:Blk→Option (Nat × (Nat→Value × D))
 | .mp n f=>some (n,f)
 | .ml n f=>some (n,f)
 | _=>none
theorem mlOf_at {b:Blk} {n g cp:Nat} {f:Nat→Value × D} (h:mlOf b=some (n,f)) (hb:BlkAt w S μ b g cp):BlkAt w S μ (.ml n f) g cp:=by
 cases b with
 | mp=>simp only [mlOf,Option.some.injEq,Prod.mk.injEq] at h; obtain ⟨rfl,rfl⟩:=h; obtain ⟨cur,h1,h2,h3,h4⟩:=hb; exact ⟨cur,_,h1,h2,h3,no_born h4⟩
 | ml=>simp only [mlOf,Option.some.injEq,Prod.mk.injEq] at h; obtain ⟨rfl,rfl⟩:=h; exact hb
 | _=>cases h
def evDel (P:Program) (T:List (Nat × TI)) (lb:List (Nat × Blk)) (ρ:Operand→Option AV) (dst:Option Nat) (quiet:Bool):Op→Option R
 | .call { callee:=.builtin .delete,args:=xs,argTypes:=ts }=>(match quiet,dst,xs.toList,ts.toList with
  | false,none,[m,k],[t,_]=>(match ρ m,ρ k,look T t with
   | some (.mpv κ),some (.d (.agg cs)),some { kind:=.map kt _,.. }=>(match look lb κ,intsT T kt with
    | some b,some c=>(match mlOf b with
     | some (n,f)=>bif allI cs&&Nat.beq cs.length c then some ⟨.any,[],[(κ,b)],[(κ,.ml (dlN (keyV cs) n f) (dlF (keyV cs) n f))],.pr (keysOK n c f)⟩ else none
     | none=>none)
    | _,_=>none)
   | _,_,_=>none)
  | _,_,_,_=>none)
 | .lookup t m k ok=>(match ρ m,ρ k,look T t with
  | some (.mpv κ),some (.d (.agg cs)),some { kind:=.map kt et,.. }=>(match look lb κ,intsT T kt,zeroDT P T et with
   | some (.ml n f),some c,some z=>bif allI cs&&Nat.beq cs.length c then some ⟨bif ok then .tup [.d (mpGet (keyV cs) n f z),.d (.v (.bool (mpHas (keyV cs) n f)))] else .d (mpGet (keyV cs) n f z),[(κ,.ml n f)],[],[],.pr (keysOK n c f)⟩ else none
   | _,_,_=>none)
  | _,_,_=>none)
 | _=>none
theorem evDel_sound {T:List (Nat × TI)} (hT:TOk C.P T) (hs:Sim C A a w S μ ν) {lb:List (Nat × Blk)} {o:Oper} {ρ:Operand→Option AV} (hρ:∀ x y,ρ x=some y→Rel w S μ ν y (a.eval x)) (hd:∀ t,o.dst=some t→t < C.nt) {quiet:Bool} {r:R}
  (h:evDel C.P T lb ρ o.dst quiet o.op=some r) (hro:∀ p,p∈r.ro→A.lb p.1=some p.2) (hmem:∀ p,p∈r.mem→A.lb p.1=some p.2) (hob:r.ob.den) (need:List (Nat × AV)) (gs:List (Nat × Bool)) :
  o.wp C.P a w (fun a' w'=>∃ S' μ',Sim C ((Tr.mk need o.dst r.v r.ro r.mem r.mem' gs).apply A) a' w' S' μ' ν) (fun _ _ _=>False):=by
 unfold evDel at h
 split at h
 ·rename_i xs ts ho
  split at h
  ·rename_i m k t t' hdst hxs hts
   split at h
   ·rename_i κ cs kt _ _ _ _ _ hm hk ht
    split at h
    ·rename_i b c hl hkt
     split at h
     ·rename_i n f hb
      rw [Bool.cond_eq_ite] at h
      split at h
      ·rename_i hc
       simp only [Bool.and_eq_true] at hc
       obtain ⟨hc,lc⟩:=hc
       have lc:=Nat.eq_of_beq_eq_true lc
       simp only [Option.some.injEq] at h
       subst h
       have hκ:=hmem (κ,b) (by simp)
       have hme:=hs.mem κ _ hκ
       have hv:=hρ _ _ hm
       generalize hmv:a.eval m=mv at hv
       cases hv with
       | @mpv _ g cap hμ =>
        rw [hμ] at hme
        obtain ⟨cur,ck,hg,hns,hsz,hcell⟩:=mlOf_at hb hme.at
        obtain ⟨ti,z,F⟩:=tiOK_facts (hT _ _ ht)
        have hu:=kind_map F.kind
        have hkv:=key_value hc (hρ _ _ hk)
        have hob:keysOK n c f:=hob
        have hck:=checkKey_ints (w:=w) hT hkt hc lc cur.isEmpty
        have hfind:=findKey_idx (w:=w) hT hkt hc lc cur.toList f (ents_keysL hob hsz hcell)
        have hcl:cur.toList.length=n:=by simpa using hsz
        rw [hcl] at hfind
        have hxs':xs = #[m,k]:=by apply Array.toList_inj.1; simpa using hxs
        have hts':ts = #[t,t']:=by apply Array.toList_inj.1; simpa using hts
        subst hxs' hts'
        have fin:∀ (o':Obj),(Builtin.delete_ #[t,t'] o.type #[.map (some g),keyV cs]).run C.P w=.ok (.tuple #[]) (World.setO w g o')→(∀ cp,BlkAt (World.setO w g o') S μ (.ml (dlN (keyV cs) n f) (dlF (keyV cs) n f)) g cp) →
          o.wp C.P a w (fun a' w'=>∃ S' μ',Sim C ((Tr.mk need o.dst .any [] [(κ,b)] [(κ,.ml (dlN (keyV cs) n f) (dlF (keyV cs) n f))] gs).apply A) a' w' S' μ' ν) (fun _ _ _=>False):=fun o' hrun hbl=>by
         unfold Oper.wp execOp
         simp only [ho,resolve,invoke,builtin,Sem.run_bind,Sem.run_pure,Result.andThen_ok,List.map_toArray,List.map_cons,List.map_nil,hmv,hkv,hrun]
         refine ⟨S,μ,?_⟩
         rw [hdst,apply_write]
         exact hs.writeW hκ hμ (setO_kept g _) (hbl _)
        have hw:∀ o':Obj,∀ q,S q→(World.setO w g o').heap[q]? = w.heap[q]?:=fun o' q hq=>(setO_kept g _).block q (hs.bound q hq) (fun e=>hns (e ▸ hq))
        cases hix:mpIdx (keyV cs) n f with
        | some p =>
         obtain ⟨hp,hpk⟩:=mpIdx_spec.1 p hix
         obtain ⟨e,h1,h2,h3,h5⟩:=hcell p hp
         have h1l:cur.toList[p]? = some e:=by simpa using h1
         rw [hix] at hfind
         simp only [h1l,Option.map_some] at hfind
         refine fin (.map (cur.eraseIdxIfInBounds p) ck) ?_ (fun cp=>⟨_,_,setO_at _ hg,hns,?_,fun i hi=>?_⟩)
         ·unfold Builtin.delete_
          simp only [List.getElem?_toArray,List.getElem?_cons_zero,List.getElem?_cons_succ,Sem.run_bind,run_underlying hu,Result.andThen_ok,run_getO hg,hck,hfind,Sem.run_pure,run_setO _ hg]
         ·have hp':p < cur.size:=by omega
          simp only [dlN,hix,Array.eraseIdxIfInBounds,hp',dif_pos]
          rw [Array.size_eraseIdx,hsz]
         ·have hp':p < cur.size:=by omega
          simp only [dlN,hix] at hi
          simp only [dlF,hix,Array.eraseIdxIfInBounds,hp',dif_pos]
          rw [Array.getElem?_eraseIdx]
          by_cases c:i < p
          ·obtain ⟨e',q1,q2,q3,q5⟩:=hcell i (by omega)
           simp only [c,if_true]
           exact ⟨e',q1,q2,q3,q5.mono (fun _ x=>x) (hw _)⟩
          ·obtain ⟨e',q1,q2,q3,q5⟩:=hcell (i+1) (by omega)
           simp only [c,if_false]
           exact ⟨e',q1,q2,q3,q5.mono (fun _ x=>x) (hw _)⟩
        | none =>
         rw [hix] at hfind
         simp only at hfind
         refine fin (.map cur ck) ?_ (fun cp=>⟨_,_,setO_at _ hg,hns,by simp [dlN,hix,hsz],fun i hi=>?_⟩)
         ·unfold Builtin.delete_
          simp only [List.getElem?_toArray,List.getElem?_cons_zero,List.getElem?_cons_succ,Sem.run_bind,run_underlying hu,Result.andThen_ok,run_getO hg,hck,hfind,Sem.run_pure,run_setO _ hg]
         ·simp only [dlN,hix] at hi
          obtain ⟨e',q1,q2,q3,q5⟩:=hcell i hi
          simp only [dlF,hix]
          exact ⟨e',q1,q2,q3,q5.mono (fun _ x=>x) (hw _)⟩
      ·cases h
     ·cases h
    ·cases h
   ·cases h
  ·cases h
 ·rename_i t m k ok ho
  split at h
  ·rename_i κ cs kt et _ _ _ _ hm hk ht
   split at h
   ·rename_i n f c z hl hkt hz
    rw [Bool.cond_eq_ite] at h
    split at h
    ·rename_i hc
     simp only [Bool.and_eq_true] at hc
     obtain ⟨hc,lc⟩:=hc
     have lc:=Nat.eq_of_beq_eq_true lc
     simp only [Option.some.injEq] at h
     subst h
     have hκ:=hro (κ,.ml n f) (by simp)
     have hme:=hs.mem κ _ hκ
     have hv:=hρ _ _ hm
     generalize hmv:a.eval m=mv at hv
     cases hv with
     | @mpv _ g cap hμ =>
      rw [hμ] at hme
      obtain ⟨cur,ck,hg,hns,hsz,hcell⟩:=hme.at
      have hkv:=key_value hc (hρ _ _ hk)
      obtain ⟨v,hrv,hv⟩:=lookupK_runL (ok:=ok) hT hc lc ht hkt hz hob hg hsz hcell
      refine core_value (τ:=Tr.mk need o.dst (bif ok then .tup [.d (mpGet (keyV cs) n f z),.d (.v (.bool (mpHas (keyV cs) n f)))] else .d (mpGet (keyV cs) n f z)) [(κ,.ml n f)] [] [] gs) hs hd (x:=bif ok then .tuple #[v,.bool (mpHas (keyV cs) n f)] else v) ?_ (lookup_rel hv) rfl rfl rfl
      simp only [execOp,ho,hmv,hkv,Sem.run_bind,hrv,Result.andThen_ok,Sem.run_pure]
    ·cases h
   ·cases h
  ·cases h
 ·cases h
theorem evDel_ro {P:Program} {T:List (Nat × TI)} {lb:List (Nat × Blk)} {ρ:Operand→Option AV} {dst:Option Nat} {quiet:Bool} {op:Op} {r:R} (h:evDel P T lb ρ dst quiet op=some r) :
  (∀ p,p∈r.ro→look lb p.1=some p.2)∧(∀ p,p∈r.mem→look lb p.1=some p.2)∧(quiet=true→r.mem=[]∧r.mem'=[])∧∀ k,k∈r.mem'.map (·.1)→k∈r.mem.map (·.1):=by
 unfold evDel at h
 have nil:∀ {p:Nat × Blk},p∈([]:List (Nat × Blk))→look lb p.1=some p.2:=fun h=>by cases h
 have one:∀ {κ:Nat} {b:Blk},look lb κ=some b→∀ p,p∈[(κ,b)]→look lb p.1=some p.2:=fun h p hp=>by simp only [List.mem_singleton] at hp; subst hp; exact h
 split at h
 ·split at h
  ·split at h
   ·split at h
    ·rename_i hl _
     split at h
     ·rw [Bool.cond_eq_ite] at h
      split at h
      ·simp only [Option.some.injEq] at h; subst h; exact ⟨fun _=>nil,one hl,fun hq=>(by cases hq),fun k hk=>by simpa using hk⟩
      ·cases h
     ·cases h
    ·cases h
   ·cases h
  ·cases h
 ·split at h
  ·split at h
   ·rename_i hl _ _
    rw [Bool.cond_eq_ite] at h
    split at h
    ·simp only [Option.some.injEq] at h; subst h; exact ⟨one hl,fun _=>nil,fun _=>⟨rfl,rfl⟩,fun k hk=>(by cases hk)⟩
    ·cases h
   ·cases h
  ·cases h
 ·cases h
def evMapA (P:Program) (T:List (Nat × TI)) (lb:List (Nat × Blk)) (ρ:Operand→Option AV) (dst:Option Nat) (quiet:Bool) (op:Op):Option R:=match evMap P T lb ρ dst quiet op with
 | some r=>some r
 | none=>(match evKey P T lb ρ dst quiet op with | some r=>some r | none=>evDel P T lb ρ dst quiet op)
theorem evMapA_sound {T:List (Nat × TI)} (hT:TOk C.P T) (hs:Sim C A a w S μ ν) {lb:List (Nat × Blk)} {o:Oper} {ρ:Operand→Option AV} (hρ:∀ x y,ρ x=some y→Rel w S μ ν y (a.eval x)) (hd:∀ t,o.dst=some t→t < C.nt) {quiet:Bool} {r:R}
  (h:evMapA C.P T lb ρ o.dst quiet o.op=some r) (hro:∀ p,p∈r.ro→A.lb p.1=some p.2) (hmem:∀ p,p∈r.mem→A.lb p.1=some p.2) (hob:r.ob.den) (need:List (Nat × AV)) (gs:List (Nat × Bool)) :
  o.wp C.P a w (fun a' w'=>∃ S' μ',Sim C ((Tr.mk need o.dst r.v r.ro r.mem r.mem' gs).apply A) a' w' S' μ' ν) (fun _ _ _=>False):=by
 unfold evMapA at h
 split at h
 ·rename_i hm
  simp only [Option.some.injEq] at h
  subst h
  exact evMap_sound hT hs hρ hd hm hro hmem hob need gs
 ·split at h
  ·rename_i hm
   simp only [Option.some.injEq] at h
   subst h
   exact evKey_sound hT hs hρ hd hm hro hmem hob need gs
  ·exact evDel_sound hT hs hρ hd h hro hmem hob need gs
theorem evMapA_ro {P:Program} {T:List (Nat × TI)} {lb:List (Nat × Blk)} {ρ:Operand→Option AV} {dst:Option Nat} {quiet:Bool} {op:Op} {r:R} (h:evMapA P T lb ρ dst quiet op=some r) :
  (∀ p,p∈r.ro→look lb p.1=some p.2)∧(∀ p,p∈r.mem→look lb p.1=some p.2)∧(quiet=true→r.mem=[]∧r.mem'=[])∧∀ k,k∈r.mem'.map (·.1)→k∈r.mem.map (·.1):=by
 unfold evMapA at h
 split at h
 ·rename_i hm
  simp only [Option.some.injEq] at h
  subst h
  exact evMap_ro hm
 ·split at h
  ·rename_i hm
   simp only [Option.some.injEq] at h
   subst h
   exact evKey_ro hm
  ·exact evDel_ro h
end
structure NormC where
 n:Nat
 n':Nat
 f:Nat→List D
 f':Nat→List D
 eq:n=n'∧∀ i,i < n→CsLe (f i) (f' i)
structure CastC where
 x:AV
 y:AV
 le:∀ w S μ ν v,Rel w S μ ν x v→Rel w S μ ν y v
structure NormM where
 n:Nat
 n':Nat
 f:Nat→Value × D
 f':Nat→Value × D
 eq:n=n'∧∀ i,i < n→f i=f' i
inductive Orc where
 | flat (res:AV)
 | gen (hand:List Nat) (res:AV) (back:List (Nat × Blk))
 | nrm (c:NormC)
 | nrmm (c:NormM)
 | cast (d:Nat) (c:CastC)
 | pur (d:Nat)
 | same (κ:Nat) (b':Blk)
 | bx (hand:List Nat) (anc:List (Nat × Nat)) (res:AV) (back:List (Nat × Blk))
 | alt (i0 j0 d:Nat) (c:CastC)
def looks (lb:List (Nat × Blk)):List Nat→Option (List (Nat × Blk))
 | []=>some []
 | k :: r=>(match look lb k,looks lb r with | some b,some l=>some ((k,b) :: l) | _,_=>none)
def closedB (res:AV) (back:List (Nat × Blk)):Bool :=
 res.keys.all (fun k=>(back.map (·.1)).contains k)&&back.all (fun p=>p.2.keys.all fun k=>(back.map (·.1)).contains k)
def evStore (T:List (Nat × TI)) (lb:List (Nat × Blk)) (t:Nat) (ad v:AV):Option R :=
 match look T t,v.cells with
 | some i,some xs=>(match ad with
  | .ptr κ off=>(match look lb κ with
   | some (.box cs)=>bif Nat.beq xs.length i.size&&Nat.ble (off+i.size) cs.length&&noG.noGL xs&&xs.all oneA then some ⟨.any,[],[(κ,.box cs)],[(κ,.box (cs.take off++xs++cs.drop (off+i.size)))],.tt⟩ else none
   | _=>none)
  | .elt κ k p off=>(match look lb κ,pureL xs with
   | some (.row e k' n f),some ds=>bif Nat.beq k k'&&Nat.beq ds.length i.size&&Nat.ble (off+i.size) k&&ds.all oneD then
     some ⟨.any,[],[(κ,.row e k n f)],[(κ,.row e k n fun q=>if q=p then (f p).take off++ds++(f p).drop (off+i.size) else f q)],.pr (p < n)⟩ else none
   | _,_=>none)
  | _=>none)
 | _,_=>none
def evSrc (lb:List (Nat × Blk)) (k:Nat):AV→Option (Nat × (Nat→List D) × List (Nat × Blk) × Ob)
 | .d (.sl m g)=>some (m,g,[],.pr ((∀ i,i < m→(g i).length=k)∧∀ i,i < m→(g i).all oneD=true))
 | .d (.v (.slice none 0 0))=>some (0,fun _=>[],[],.tt)
 | .nns m g=>some (m,g,[],.pr ((∀ i,i < m→(g i).length=k)∧∀ i,i < m→(g i).all oneD=true))
 | .own κ m=>(match look lb κ with | some (.row e k' m' g)=>bif Nat.beq k k' then some (m,g,[(κ,.row e k' m' g)],(Ob.ne m m').and (.pr (∀ i,i < m→(g i).all oneD=true))) else none | _=>none)
 | _=>none
def evAppend (T:List (Nat × TI)) (lb:List (Nat × Blk)) (dst t:Nat) (dv sv:AV):Option R :=
 match look T t with
 | some { kind:=.slice e,.. }=>(match look T e with
  | some i=>(match evSrc lb i.size sv with
   | some (m,g,ro,ob)=>(match dv with
    | .d (.v (.slice none 0 0))=>some ⟨.own dst (0+m),ro,[],[(dst,.row e i.size (0+m) fun q=>if q < 0 then [] else g (q - 0))],ob.and (.pr (0+m≤maxLen∧(0+m) * i.bytes≤140737488355328))⟩
    | .own κ n=>(match look lb κ with
     | some (.row e' k n' f)=>bif Nat.beq e e'&&Nat.beq k i.size&&!Nat.beq dst κ then some ⟨.own dst (n+m),ro,[(κ,.row e' k n' f)],[(dst,.row e i.size (n+m) fun q=>if q < n then f q else g (q - n))],ob.and ((Ob.ne n n').and (.pr (n+m≤maxLen∧(n+m) * i.bytes≤140737488355328)))⟩ else none
     | _=>none)
    | _=>none)
   | none=>none)
  | none=>none)
 | _=>none
def isBoxAt (lb:List (Nat × Blk)) (κ:Nat):Bool:=match look lb κ with | some (.box _)=>true | _=>false
def isPtr (κ:Nat):AV→Bool
 | .ptr k 0=>Nat.beq k κ
 | _=>false
def bxOK (args:List AV) (hand:List Nat) (lbs:List (Nat × Blk)) (anc:List (Nat × Nat)) (res:AV) (back:List (Nat × Blk)):Bool :=
 anc.all (fun p=>Nat.ble (p.1+1) args.length&&isPtr p.2 (args.getD p.1 default)&&isBoxAt lbs p.2&&isBoxAt back p.2) &&
 back.all (fun q=>(anc.map (·.2)).contains q.1||!hand.contains q.1) &&
 res.keys.all (fun k=>(back.map (·.1)).contains k&&!(anc.map (·.2)).contains k) &&
 back.all (fun q=>q.2.keys.all fun k=>(back.map (·.1)).contains k&&!(anc.map (·.2)).contains k)
def evCall (P:Program) (lb:List (Nat × Blk)) (quiet:Bool) (cf:AV) (args:List AV):List Orc→Option (R × List Orc)
 | .flat res :: orc=>(match cf with
  | .fn f caps=>(match borAL lb (args++caps) with
   | some (args',ro,ob)=>bif flatA res then some (⟨res,ro,[],[],ob.and (.pr (FnA P f args' [] res []))⟩,orc) else none
   | none=>none)
  | _=>none)
 | .gen hand res back :: orc=>(match cf with
  | .fn f caps=>(match looks lb hand with
   | some lbs=>bif noG.noGL (args++caps)&&closedB res back&&noG res&&(!quiet||(hand.isEmpty&&back.isEmpty))&&back.all (fun p=>!hand.contains p.1) then some (⟨res,[],lbs,back,.pr (FnA P f (args++caps) lbs res back)⟩,orc) else none
   | none=>none)
  | _=>none)
 | .same κ b' :: orc=>(match cf with
  | .fn f caps=>(match look lb κ with
   | some b=>bif noG.noGL (args++caps)&&!quiet then some (⟨.any,[],[(κ,b)],[(κ,b')],.pr (FnS P f (args++caps) κ b b')⟩,orc) else none
   | none=>none)
  | _=>none)
 | .bx hand anc res back :: orc=>(match cf with
  | .fn f caps=>(match looks lb hand with
   | some lbs=>bif noG.noGL (args++caps)&&bxOK (args++caps) hand lbs anc res back&&noG res&&!quiet then some (⟨res,[],lbs,back,.pr (FnB P f (args++caps) lbs res back anc)⟩,orc) else none
   | none=>none)
  | _=>none)
 | _=>none
def pureQ (quiet:Bool) (dst:Option Nat) (orc:List Orc):Option (List Orc) :=
 match quiet with
 | true=>some orc
 | false=>(match dst,orc with
  | some t,.pur d :: r=>bif Nat.beq t d then some r else none
  | _,_=>none)
def evOp0 (P:Program) (T:List (Nat × TI)) (lb:List (Nat × Blk)) (ρ:Operand→Option AV) (dst:Option Nat) (quiet:Bool) (orc:List Orc) (op:Op):Option (R × List Orc) :=
 match op with
 | .alloc t=>(match quiet,dst,look T t with | false,some d,some i=>some (⟨.ptr d 0,[],[],[(d,.box (i.zero.map .d))],.tt⟩,orc) | _,_,_=>none)
 | .box _ x=>(match quiet,dst,ρ x with
  | false,some d,some v=>(match v.cells with
   | some cs=>(match pureQ false (some d) orc,pureL cs with
    | some orc',some ds=>some (⟨.ref ds,[],[],[],.tt⟩,orc')
    | _,_=>bif noG.noGL cs&&!(AV.keysL cs).contains d then some (⟨.ptr d 0,[],[],[(d,.box cs)],.tt⟩,orc) else none)
   | none=>none)
  | _,_,_=>none)
 | .buildSlice t len ps=>(match buildCells T (unN ρ) t len ps.toList with
  | some (e,k,ds)=>(match pureQ quiet dst orc with
   | some orc=>some (⟨.d (.sl len (rowF k len ds)),[],[],[],.tt⟩,orc)
   | none=>(match quiet,dst with
    | false,some d=>some (⟨.own d len,[],[],[(d,.row e k len (rowF k len ds))],.tt⟩,orc)
    | _,_=>none))
  | none=>none)
 | .store t ad x=>(match quiet,dst,ρ ad,ρ x with
  | false,none,some av,some v=>(match evStore T lb t av v with | some r=>some (r,orc) | none=>none)
  | _,_,_,_=>none)
 | .call { callee:=.builtin .append,args:=xs,argTypes:=ts }=>(match quiet,dst,xs.toList,ts.toList with
  | false,some d,[s,x],[t,t']=>(match Nat.beq t t',ρ s,ρ x with
   | true,some dv,some sv=>(match evAppend T lb d t dv sv with | some r=>some (r,orc) | none=>none)
   | _,_,_=>none)
  | _,_,_,_=>none)
 | .call { callee:=.value cf,args:=xs,.. }=>(match ρ cf,argsOf ρ xs.toList with
  | some c,some l=>evCall P lb quiet c l orc
  | _,_=>none)
 | .makeSlice t l c=>(match quiet,dst,look T t,ρ l,ρ c with
  | false,some d,some { kind:=.slice e,.. },some (.d (.v (.int _ n))),some (.d (.v (.int _ m)))=>(match look T e with
   | some i=>some (⟨.own d n.toNat,[],[],[(d,.row e i.size n.toNat fun _=>i.zero)],(Ob.ze n m).and (.pr (0≤n∧n.toNat≤maxLen∧n.toNat * i.bytes≤140737488355328))⟩,orc)
   | none=>none)
  | _,_,_,_,_=>none)
 | op=>(match evBytes T ρ op with
  | some (v,ob)=>some (⟨v,[],[],[],ob⟩,orc)
  | none=>(match evV T lb ρ op with | some (v,ro,ob)=>some (⟨v,ro,[],[],ob⟩,orc) | none=>none))
def evArr (T:List (Nat × TI)) (ρ:Operand→Option AV):Op→Option (AV × Ob)
 | .build t ps=>(match look T t,valsOf ρ ps.toList with
  | some { kind:=.array _ e,zero:=z,.. },some vs=>(match look T e with
   | some ie=>(match fillA (fun q=>some (q * ie.size,ie.size)) (z.map .d) vs with | some cs=>some (mkAgg cs,.tt) | none=>none)
   | none=>none)
  | _,_=>none)
 | .indexAddr t x i=>(match look T t,ρ x,ρ i with
  | some { kind:=.array n e,.. },some (.ptr κ off),some (.d (.v (.int _ q)))=>(match look T e with | some ie=>some (.ptr κ (off+q.toNat * ie.size),.pr (0≤q∧q < n)) | none=>none)
  | some { kind:=.array n e,.. },some (.ref cs),some (.d (.v (.int _ q)))=>(match look T e with | some ie=>some (.ref (cs.drop (q.toNat * ie.size)),.pr (0≤q∧q < n)) | none=>none)
  | _,_,_=>none)
 | _=>none
def evOpM (P:Program) (T:List (Nat × TI)) (lb:List (Nat × Blk)) (ρ:Operand→Option AV) (dst:Option Nat) (quiet:Bool) (orc:List Orc) (op:Op):Option (R × List Orc) :=
 match evMapA P T lb ρ dst quiet op with
 | some r=>some (r,orc)
 | none=>(match evMore T lb ρ dst quiet op with
 | some r=>some (r,orc)
 | none=>(match evArr T ρ op with
 | some (v,ob)=>some (⟨v,[],[],[],ob⟩,orc)
 | none=>evOp0 P T lb ρ dst quiet orc op))
def isMk:Op→Bool
 | .buildSlice .. | .slice .. | .store .. | .makeSlice .. | .convert ..=>true
 | .call { callee:=.builtin .append,.. }=>true
 | _=>false
def normR (c:NormC) (r:R):Option R :=
 match r.mem' with
 | [(κ,.row e k n f)]=>(match r.v with
  | .own κ' m=>bif Nat.beq κ' κ then some ⟨.own κ' c.n',r.ro,r.mem,[(κ,.row e k c.n' c.f')],r.ob.and ((Ob.ne m c.n).and ((Ob.ne n c.n).and (.fe f c.f)))⟩ else none
  | .any=>some ⟨.any,r.ro,r.mem,[(κ,.row e k c.n' c.f')],r.ob.and ((Ob.ne n c.n).and (.fe f c.f))⟩
  | _=>none)
 | []=>(match r.v with
  | .d (.sl n f)=>some ⟨.d (.sl c.n' c.f'),r.ro,r.mem,[],r.ob.and ((Ob.ne n c.n).and (.fe f c.f))⟩
  | _=>none)
 | _=>none
def normM (c:NormM) (r:R):Option R :=
 match r.mem' with
 | [(κ,.mp n f)]=>(match r.v with
  | .any=>some ⟨.any,r.ro,r.mem,[(κ,.mp c.n' c.f')],r.ob.and ((Ob.ne n c.n).and (.me f c.f))⟩
  | .mpv q=>some ⟨.mpv q,r.ro,r.mem,[(κ,.mp c.n' c.f')],r.ob.and ((Ob.ne n c.n).and (.me f c.f))⟩
  | .tup l=>some ⟨.tup l,r.ro,r.mem,[(κ,.mp c.n' c.f')],r.ob.and ((Ob.ne n c.n).and (.me f c.f))⟩
  | _=>none)
 | [(κ,.ml n f)]=>(match r.v with
  | .any=>some ⟨.any,r.ro,r.mem,[(κ,.ml c.n' c.f')],r.ob.and ((Ob.ne n c.n).and (.me f c.f))⟩
  | _=>none)
 | _=>none
def castR (c:CastC) (r:R):R:=⟨c.y,r.ro,r.mem,r.mem',r.ob.and (.ve r.v c.x)⟩
def evOp (P:Program) (T:List (Nat × TI)) (lb:List (Nat × Blk)) (ρ:Operand→Option AV) (dst:Option Nat) (quiet:Bool) (orc:List Orc) (op:Op):Option (R × List Orc) :=
 match evOpM P T lb ρ dst quiet orc op with
 | some (r,orc1)=>(match isMk op,orc1 with
  | true,.nrm c :: orc2=>(match normR c r with | some r'=>some (r',orc2) | none=>some (r,orc1))
  | _,.nrmm c :: orc2=>(match normM c r with | some r'=>some (r',orc2) | none=>some (r,orc1))
  | _,.cast d c :: orc2=>(match dst with | some t=>bif Nat.beq t d then some (castR c r,orc2) else some (r,orc1) | none=>some (r,orc1))
  | _,_=>some (r,orc1))
 | none=>none
section
variable {C : Cx} {A : M} {a : Act} {w : World} {S : Nat → Prop} {μ : Mu} {ν : Nat → Bool}
theorem looks_mem {lb:List (Nat × Blk)}:∀ {ks:List Nat} {l:List (Nat × Blk)},looks lb ks=some l→l.map (·.1)=ks
 | [],l,h=>by simp only [looks,Option.some.injEq] at h; subst h; rfl
 | k :: r,l,h=>by
  simp only [looks] at h
  cases h1:look lb k with
  | none=>rw [h1] at h; cases h
  | some b =>
   cases h2:looks lb r with
   | none=>rw [h1,h2] at h; cases h
   | some l' =>
    rw [h1,h2] at h
    simp only [Option.some.injEq] at h
    subst h
    simp [looks_mem h2]
theorem evV_wp {T:List (Nat × TI)} (hT:TOk C.P T) (hs:Sim C A a w S μ ν) {lb:List (Nat × Blk)} {o:Oper} {ρ:Operand→Option AV} (hρ:∀ x y,ρ x=some y→Rel w S μ ν y (a.eval x)) (hd:∀ t,o.dst=some t→t < C.nt)
  {v:AV} {ro:List (Nat × Blk)} {ob:Ob} (h:evV T lb ρ o.op=some (v,ro,ob)) (hro:∀ p,p∈ro→A.lb p.1=some p.2) (hob:ob.den) (need:List (Nat × AV)) (gs:List (Nat × Bool)) :
  o.wp C.P a w (fun a' w'=>∃ S' μ',Sim C ((Tr.mk need o.dst v ro [] [] gs).apply A) a' w' S' μ' ν) (fun _ _ _=>False):=by
 obtain ⟨x,h1,h2⟩:=evV_sound hT hs hρ h hro hob
 exact core_value hs hd h1 h2 rfl rfl rfl
theorem core_boxPure {o:Oper} {t:TypeId} {ds:List D} {τ:Tr} (hs:Sim C A a w S μ ν) (hd:∀ t,o.dst=some t→t < C.nt) {vs:Array Value}
  (hrun:(execOp a.eval o).run C.P w=.ok (.value (.pointer (some ⟨w.heap.size,0,none⟩))) (w.alloc (.cells vs t))) (hr:RelL w S μ ν (ds.map .d) vs.toList)
  (h0:τ.v=.ref ds) (h1:τ.dst=o.dst) (h2:τ.mem=[]) (h3:τ.mem'=[]) :
  o.wp C.P a w (fun a' w'=>∃ S' μ',Sim C (τ.apply A) a' w' S' μ' ν) (fun _ _ _=>False):=by
 unfold Oper.wp
 rw [hrun]
 let S':Nat→Prop:=fun q=>S q∨q=w.heap.size
 have h4:=hs.world (S':=S') (w':=w.alloc (.cells vs t)) (fun _ x=>.inl x) (fun q hq=>hq.elim .inl (fun e=>.inr ⟨by omega,by rw [e]; simp⟩)) (kept_alloc w _ _)
 have hl:=hr.1
 simp only [List.length_map,Array.length_toList] at hl
 have hrd:∀ ν,Rel (w.alloc (.cells vs t)) S' μ ν (.ref ds) (.pointer (some ⟨w.heap.size,0,none⟩)):=fun ν'=>by
  refine .ref (fun j=>vs.toList.getD j undef) (fun j hj=>⟨.inr rfl,?_⟩) (fun j hj=>?_)
  ·rw [cell_row _ _ _ vs t (0,0) (heap_alloc_new w _)]
   have hlt:j < vs.size:=by omega
   simp [List.getD,hlt]
  ·have:=hr.2 j (by simpa using hj)
   rw [getD_mapd _ j hj] at this
   exact (rel_d.1 this).mono (fun _ x=>.inl x) (fun q hq=>heap_alloc_old w _ (hs.bound q hq))
 have h5:=h4.put (dst:=o.dst) (x:=.ref ds) (v:=.pointer (some ⟨w.heap.size,0,none⟩)) hd (hrd ν)
 refine ⟨S',μ,?_⟩
 have e:τ.apply A=A.putO o.dst (.ref ds):=by
  unfold Tr.apply M.putO M.put
  rw [h0,h1,h2,h3]
  cases ho:o.dst with
  | none=>simp [look]
  | some d =>
   simp only [look,List.map_nil,List.not_mem_nil,if_false,Option.some.injEq]
   congr 1
   funext t
   by_cases c:d=t
   ·simp [c]
   ·have:¬ t=d:=fun e=>c e.symm
    simp [c,this]
 rw [e]
 exact h5
theorem evOp0_sound {T:List (Nat × TI)} (hT:TOk C.P T) (hs:Sim C A a w S μ ν) {lb:List (Nat × Blk)} {o:Oper} {ρ:Operand→Option AV} (hρ:∀ x y,ρ x=some y→Rel w S μ ν y (a.eval x)) (hd:∀ t,o.dst=some t→t < C.nt) {quiet:Bool} {orc orc':List Orc} {r:R}
  (h:evOp0 C.P T lb ρ o.dst quiet orc o.op=some (r,orc')) (hro:∀ p,p∈r.ro→A.lb p.1=some p.2) (hmem:∀ p,p∈r.mem→A.lb p.1=some p.2) (hob:r.ob.den) (hfr:∀ κ,κ∈(r.mem'.map (·.1)).filter (fun k=>!(r.mem.map (·.1)).contains k)→Fresh A κ) (need:List (Nat × AV)) (gs:List (Nat × Bool)) :
  o.wp C.P a w (fun a' w'=>∃ S' μ',Sim C ((Tr.mk need o.dst r.v r.ro r.mem r.mem' gs).apply A) a' w' S' μ' ν) (fun _ _ _=>False):=by
 unfold evOp0 at h
 split at h
 all_goals rename_i ho
 ·rename_i t0
  split at h
  ·rename_i d i hdst hi
   simp only [Option.some.injEq,Prod.mk.injEq] at h
   obtain ⟨rfl,-⟩:=h
   obtain ⟨ti,z,F⟩:=tiOK_facts (hT _ _ hi)
   obtain ⟨q1,q2⟩:=zeroOK_rd (w:=w) (S:=S) F.zok
   have hz:RelL w S μ ν (i.zero.map .d) z.cells.toList:=by
    refine ⟨by simpa using q1,fun j hj=>?_⟩
    simp only [List.length_map] at hj
    rw [getD_mapd _ j hj]
    exact .d (q2 j hj)
   have hng:∀ l:List D,noG.noGL (l.map AV.d)=true:=fun l=>by induction l with | nil=>rfl | cons x r ih=>simpa [noG.noGL,noG] using ih
   have hkl:∀ l:List D,AV.keysL (l.map AV.d)=[]:=fun l=>by induction l with | nil=>rfl | cons x r ih=>simpa [AV.keysL,AV.keys] using ih
   rw [hdst]
   refine core_box (t:=t0) hs hdst (hd d hdst) (vs:=z.cells) ?_ hz (hng _) (hfr d (by simp)) (by rw [hkl]; simp)
   simp only [execOp,ho,Instr.alloc,zeroValue,typeInfo,Sem.run_bind,run_program,Result.andThen_ok,F.info,Sem.run_pure,F.zero,newVar,newRow,run_newObj]
   rfl
  ·cases h
 ·rename_i t0 x0
  split at h
  ·rename_i d v hdst hx
   split at h
   ·rename_i cs hc
    split at h
    ·rename_i orc' ds _ hp
     simp only [Option.some.injEq,Prod.mk.injEq] at h
     obtain ⟨rfl,-⟩:=h
     have ecs:=pureL_spec hp
     subst ecs
     refine core_boxPure (t:=t0) (ds:=ds) hs hd ?_ (cells_relL hc (hρ _ _ hx)) rfl rfl rfl rfl
     simp only [execOp,ho,Instr.box,newVar,newRow,Sem.run_bind,run_newObj,Result.andThen_ok,Sem.run_pure]
     rfl
    cases hb:(noG.noGL cs&&!(AV.keysL cs).contains d) with
    | false=>rw [hb] at h; cases h
    | true =>
     rw [hb] at h
     simp only [cond_true,Option.some.injEq,Prod.mk.injEq] at h
     obtain ⟨rfl,-⟩:=h
     simp only [Bool.and_eq_true,Bool.not_eq_true',List.contains_eq_mem,decide_eq_false_iff_not] at hb
     rw [hdst]
     refine core_box (t:=t0) hs hdst (hd d hdst) ?_ (cells_relL hc (hρ _ _ hx)) hb.1 (hfr d (by simp)) hb.2
     simp only [execOp,ho,Instr.box,newVar,newRow,Sem.run_bind,run_newObj,Result.andThen_ok,Sem.run_pure]
     rfl
   ·cases h
  ·cases h
 ·split at h
  ·rename_i e k ds hbc
   split at h
   ·simp only [Option.some.injEq,Prod.mk.injEq] at h
    obtain ⟨rfl,-⟩:=h
    exact core_buildPure hT hs hd ho (unN_ok hρ) hbc rfl rfl rfl rfl
   ·split at h
    ·rename_i d hdst _
     simp only [Option.some.injEq,Prod.mk.injEq] at h
     obtain ⟨rfl,-⟩:=h
     rw [hdst]
     exact core_buildSlice hT hs hdst (hd d hdst) ho (unN_ok hρ) hbc (hfr d (by simp))
    ·cases h
  ·cases h
 ·split at h
  ·rename_i av v hdst hav hv
   split at h
   ·rename_i r' hst
    simp only [Option.some.injEq,Prod.mk.injEq] at h
    obtain ⟨rfl,-⟩:=h
    rw [hdst]
    unfold evStore at hst
    split at hst
    ·rename_i i xs hi hc
     split at hst
     ·rename_i κ off
      split at hst
      ·rename_i cs hl
       cases hb:(Nat.beq xs.length i.size&&Nat.ble (off+i.size) cs.length&&noG.noGL xs&&xs.all oneA) with
       | false=>rw [hb] at hst; cases hst
       | true =>
        rw [hb] at hst
        simp only [Bool.and_eq_true] at hb
        simp only [cond_true,Option.some.injEq] at hst
        subst hst
        exact core_store_box hs (hT _ _ hi) ho hdst (hρ _ _ hav) (hρ _ _ hv) (hmem (κ,.box cs) (by simp)) hc (Nat.eq_of_beq_eq_true hb.1.1.1) (Nat.le_of_ble_eq_true hb.1.1.2) hb.1.2 hb.2 _
      ·cases hst
     ·rename_i κ k p off
      split at hst
      ·rename_i e k' n f ds hl hp
       cases hb:(Nat.beq k k'&&Nat.beq ds.length i.size&&Nat.ble (off+i.size) k&&ds.all oneD) with
       | false=>rw [hb] at hst; cases hst
       | true =>
        rw [hb] at hst
        simp only [Bool.and_eq_true] at hb
        simp only [cond_true,Option.some.injEq] at hst
        subst hst
        exact core_store_row hs (hT _ _ hi) ho hdst (hρ _ _ hav) (hρ _ _ hv) (hmem (κ,.row e k n f) (by simp)) hc hp (Nat.eq_of_beq_eq_true hb.1.1.2) (Nat.le_of_ble_eq_true hb.1.2) hob hb.2 _
      ·cases hst
     ·cases hst
    ·cases hst
   ·cases h
  ·cases h
 ·rename_i xs ts
  split at h
  ·rename_i d s x t t' hdst hxs hts
   split at h
   ·rename_i dv sv htt hdv hsv
    split at h
    ·rename_i r' hap
     simp only [Option.some.injEq,Prod.mk.injEq] at h
     obtain ⟨rfl,-⟩:=h
     rw [hdst]
     have e1:=Nat.eq_of_beq_eq_true htt
     subst e1
     have ho':o.op=.call { callee:=.builtin .append,args:=#[s,x],argTypes:=#[t,t] }:=by
      rw [ho]
      congr 2
      ·cases xs; simpa using hxs
      ·cases ts; simpa using hts
     unfold evAppend at hap
     split at hap
     ·rename_i e _ _ _ _ hl
      split at hap
      ·rename_i i hi
       split at hap
       ·rename_i m g ro' ob' hsrc
        have src:ob'.den→(∀ p,p∈ro'→A.lb p.1=some p.2)→∃ ys,SrcOK w S i.size m g (a.eval x) ys:=by
         intro hob' hro'
         have hr:=hρ _ _ hsv
         unfold evSrc at hsrc
         split at hsrc
         ·simp only [Option.some.injEq,Prod.mk.injEq] at hsrc
          obtain ⟨rfl,rfl,rfl,rfl⟩:=hsrc
          exact src_pure (rel_d.1 hr) hob'.1 hob'.2
         ·simp only [Option.some.injEq,Prod.mk.injEq] at hsrc
          obtain ⟨rfl,rfl,rfl,rfl⟩:=hsrc
          have:=rel_scalar rfl hr
          exact ⟨[],⟨⟨by simp,fun i hi=>absurd hi (by omega)⟩,fun u hu=>(by cases hu),.inl ⟨this,rfl⟩⟩⟩
         ·simp only [Option.some.injEq,Prod.mk.injEq] at hsrc
          obtain ⟨rfl,rfl,rfl,rfl⟩:=hsrc
          generalize a.eval x=xv at hr
          cases hr with
          | nns hd=>exact src_pure hd hob'.1 hob'.2
         ·rename_i κ m0
          split at hsrc
          ·rename_i e2 k2 m2 g2 hlk
           cases hb:Nat.beq i.size k2 with
           | false=>rw [hb] at hsrc; cases hsrc
           | true =>
            rw [hb] at hsrc
            have e3:=Nat.eq_of_beq_eq_true hb
            simp only [cond_true,Option.some.injEq,Prod.mk.injEq] at hsrc
            obtain ⟨rfl,rfl,rfl,rfl⟩:=hsrc
            have hlb:=hro' (κ,.row e2 k2 m2 g2) (by simp)
            obtain ⟨o5,o6⟩:=Ob.and_den hob'
            rw [← e3,← (show _=_ from o5)] at hlb
            exact src_own hs hlb hr o6
          ·cases hsrc
         ·cases hsrc
        split at hap
        ·simp only [Option.some.injEq] at hap
         subst hap
         obtain ⟨o1,o2,o3⟩:=Ob.and_den hob
         obtain ⟨ys,hys⟩:=src o1 hro
         exact core_append hs hdst (hd d hdst) (hT _ _ hl) rfl (hT _ _ hi) ho' (hρ _ _ hdv) (.nil (fun _=>[])) rfl hys o2 o3 (hfr d (by simp))
        ·rename_i κ n
         split at hap
         ·rename_i e' k n' f hlk
          cases hb:(Nat.beq e e'&&Nat.beq k i.size&&!Nat.beq d κ) with
          | false=>rw [hb] at hap; cases hap
          | true =>
           rw [hb] at hap
           simp only [cond_true,Option.some.injEq] at hap
           subst hap
           simp only [Bool.and_eq_true] at hb
           have e4:=Nat.eq_of_beq_eq_true hb.1.1
           have e5:=Nat.eq_of_beq_eq_true hb.1.2
           obtain ⟨o1,o7⟩:=Ob.and_den hob
           obtain ⟨o2,o3,o4⟩:=Ob.and_den o7
           have o2:n=n':=o2
           subst e4; subst e5; subst o2
           obtain ⟨ys,hys⟩:=src o1 hro
           have hκ:=hmem (κ,.row e i.size n f) (by simp)
           have hne:d ∉ [κ]:=fun hc=>by
            simp only [List.mem_singleton] at hc
            subst hc
            have:=hb.2
            rw [Nat.beq_refl] at this
            cases this
           exact core_append hs hdst (hd d hdst) (hT _ _ hl) rfl (hT _ _ hi) ho' (hρ _ _ hdv) (.own hκ) rfl hys o3 o4 (hfr d (by simpa using hne))
         ·cases hap
        ·cases hap
       ·cases hap
      ·cases hap
     ·cases hap
    ·cases h
   ·cases h
  ·cases h
 ·rename_i cf xs _
  split at h
  ·rename_i c l hc hl
   have hargs:=argsOf_rel hρ xs.toList l hl
   unfold evCall at h
   split at h
   ·rename_i res orc0
    split at h
    ·rename_i f caps
     split at h
     ·rename_i args' ro' ob' hb
      cases hfl:flatA res with
      | false=>rw [hfl] at h; cases h
      | true =>
       rw [hfl] at h
       simp only [cond_true,Option.some.injEq,Prod.mk.injEq] at h
       obtain ⟨rfl,-⟩:=h
       exact core_call_flat hs hd ho (hρ _ _ hc) hargs hb hro (Ob.and_den hob).1 (Ob.and_den hob).2 hfl rfl rfl rfl rfl
     ·cases h
    ·cases h
   ·rename_i hand res back orc0
    split at h
    ·rename_i f caps
     split at h
     ·rename_i lbs hlk
      cases hb:(noG.noGL (l++caps)&&closedB res back&&noG res&&(!quiet||(hand.isEmpty&&back.isEmpty))&&back.all (fun p=>!hand.contains p.1)) with
      | false=>rw [hb] at h; cases h
      | true =>
       rw [hb] at h
       simp only [cond_true,Option.some.injEq,Prod.mk.injEq] at h
       obtain ⟨rfl,-⟩:=h
       simp only [Bool.and_eq_true,closedB,List.all_eq_true,List.contains_eq_mem,decide_eq_true_eq,Bool.not_eq_true',decide_eq_false_iff_not] at hb
       obtain ⟨⟨⟨⟨h1,h2,h3⟩,h4⟩,h5⟩,h6⟩:=hb
       refine core_call hs hd ho (hρ _ _ hc) hargs h1 hob hmem (fun k hk=>hfr k ?_) h2 h3
       have hhand:=looks_mem hlk
       simp only [List.mem_filter,Bool.not_eq_true',List.contains_eq_mem,decide_eq_false_iff_not]
       refine ⟨hk,?_⟩
       rw [hhand]
       obtain ⟨p,hp,rfl⟩:=List.mem_map.1 hk
       exact h6 p hp
     ·cases h
    ·cases h
   ·rename_i κ b' orc0
    split at h
    ·rename_i f caps
     split at h
     ·rename_i b hlk
      cases hb:(noG.noGL (l++caps)&&!quiet) with
      | false=>rw [hb] at h; cases h
      | true =>
       rw [hb] at h
       simp only [cond_true,Option.some.injEq,Prod.mk.injEq] at h
       obtain ⟨rfl,-⟩:=h
       simp only [Bool.and_eq_true] at hb
       exact core_call_same hs hd ho (hρ _ _ hc) hargs hb.1 hob (hmem (κ,b) (by simp))
     ·cases h
    ·cases h
   ·rename_i hand anc res back orc0
    split at h
    ·rename_i f caps
     split at h
     ·rename_i lbs hlk
      cases hb:(noG.noGL (l++caps)&&bxOK (l++caps) hand lbs anc res back&&noG res&&!quiet) with
      | false=>rw [hb] at h; cases h
      | true =>
       rw [hb] at h
       simp only [cond_true,Option.some.injEq,Prod.mk.injEq] at h
       obtain ⟨rfl,-⟩:=h
       simp only [Bool.and_eq_true,bxOK,List.all_eq_true,List.contains_eq_mem,decide_eq_true_eq,Bool.not_eq_true',decide_eq_false_iff_not,Bool.or_eq_true] at hb
       obtain ⟨⟨⟨h1,⟨⟨h2,h3⟩,h4⟩,h5⟩,h6⟩,h7⟩:=hb
       have hhand:=looks_mem hlk
       have box:∀ (lb:List (Nat × Blk)) κ,isBoxAt lb κ=true→∃ cs,look lb κ=some (.box cs):=fun lb κ h=>by
        unfold isBoxAt at h
        split at h
        ·exact ⟨_,by assumption⟩
        ·cases h
       have ptr:∀ κ x,isPtr κ x=true→x=.ptr κ 0:=fun κ x h=>by
        unfold isPtr at h
        split at h
        ·rw [Nat.eq_of_beq_eq_true h]
        ·cases h
       refine core_call_bx hs hd ho (hρ _ _ hc) hargs h1 hob (fun p hp=>?_) hmem (fun k hk hn=>hfr k ?_) h4 h5
       ·obtain ⟨⟨⟨a1,a2⟩,a3⟩,a4⟩:=h2 p hp
        exact ⟨Nat.le_of_ble_eq_true a1,ptr _ _ a2,box _ _ a3,box _ _ a4⟩
       ·simp only [List.mem_filter,Bool.not_eq_true',List.contains_eq_mem,decide_eq_false_iff_not]
        refine ⟨hk,?_⟩
        rw [hhand]
        obtain ⟨p,hp,rfl⟩:=List.mem_map.1 hk
        exact (h3 p hp).resolve_left hn
     ·cases h
    ·cases h
   ·cases h
  ·cases h
 ·split at h
  ·rename_i d e _ _ _ _ kl n kc m hdst ht hl hc
   split at h
   ·rename_i i hi
    simp only [Option.some.injEq,Prod.mk.injEq] at h
    obtain ⟨rfl,-⟩:=h
    have hob':((Ob.ze n m).and (.pr (0≤n∧n.toNat≤maxLen∧n.toNat * i.bytes≤140737488355328))).den:=hob
    obtain ⟨o1,o2,o3,o4⟩:=Ob.and_den hob'
    have o1:n=m:=o1
    subst o1
    rw [hdst]
    exact core_make hT hs hdst (hd d hdst) ho ht rfl hi (rel_int (hρ _ _ hl)) (rel_int (hρ _ _ hc)) o2 o3 o4 (hfr d (by simp))
   ·cases h
  ·cases h
 ·split at h
  ·rename_i v ob' hv
   simp only [Option.some.injEq,Prod.mk.injEq] at h
   obtain ⟨rfl,-⟩:=h
   exact evBytes_wp hT hs hρ hd hv hob need _ gs
  ·split at h
   ·rename_i v ro' ob' hv
    simp only [Option.some.injEq,Prod.mk.injEq] at h
    obtain ⟨rfl,-⟩:=h
    exact evV_wp hT hs hρ hd hv hro hob need gs
   ·cases h
theorem evArr_sound {T:List (Nat × TI)} (hT:TOk C.P T) {o:Oper} {ρ:Operand→Option AV} (hρ:∀ x y,ρ x=some y→Rel w S μ ν y (a.eval x)) {v:AV} {ob:Ob} (h:evArr T ρ o.op=some (v,ob)) (hob:ob.den) :
  ∃ x,(execOp a.eval o).run C.P w=.ok (.value x) w∧Rel w S μ ν v x:=by
 unfold evArr at h
 split at h
 ·rename_i t ps ho
  split at h
  ·rename_i n e _ _ z _ vs hl hv
   split at h
   ·rename_i ie he
    split at h
    ·rename_i cs hcs
     simp only [Option.some.injEq,Prod.mk.injEq] at h
     obtain ⟨rfl,-⟩:=h
     obtain ⟨ti,zz,F⟩:=tiOK_facts (hT t _ hl)
     have hu:=kind_array F.kind
     obtain ⟨te,ze,G⟩:=tiOK_facts (hT e _ he)
     have hsz:(sizeOf e).run C.P w=.ok ie.size w:=by simp [sizeOf,typeInfo,G.info,G.size]
     obtain ⟨q1,q2⟩:=zeroOK_rd (w:=w) (S:=S) F.zok
     have hz:RelL w S μ ν (z.map .d) zz.cells.toList:=by
      refine ⟨by simpa using q1,fun i hi=>?_⟩
      simp only [List.length_map] at hi
      rw [getD_mapd z i hi]
      exact .d (q2 i hi)
     obtain ⟨v1,v2⟩:=valsOf_rel hρ ps.toList vs hv
     obtain ⟨cur',hf,hr⟩:=fillA_run (fun q=>some (q * ie.size,ie.size)) vs (ps.toList.map fun p=>(p.1,a.eval p.2)) (z.map .d) cs zz.cells hz v1 v2 hcs
     refine ⟨.agg cur',?_,mkAgg_rel (by have:=hr.1; simpa using this) (fun i hi=>by rw [getD_toList]; exact hr.2 i hi)⟩
     have hps:(ps.map fun (i,x)=>(i,a.eval x)).toList=ps.toList.map fun p=>(p.1,a.eval p.2):=by simp
     simp only [execOp,ho,Instr.build,Sem.run_bind,zeroValue,typeInfo,run_program,Result.andThen_ok,F.info,Sem.run_pure,F.zero,run_underlying hu,hsz,hps]
     rw [hf]
     simp
    ·cases h
   ·cases h
  ·cases h
 ·rename_i t x i ho
  split at h
  ·rename_i n e _ _ _ _ κ off kk q hl hx hi
   split at h
   ·rename_i ie he
    simp only [Option.some.injEq,Prod.mk.injEq] at h
    obtain ⟨rfl,rfl⟩:=h
    have hob:0≤q∧q < n:=hob
    obtain ⟨ti,zz,F⟩:=tiOK_facts (hT t _ hl)
    have hu:=kind_array F.kind
    obtain ⟨te,ze,G⟩:=tiOK_facts (hT e _ he)
    have hsz:(sizeOf e).run C.P w=.ok ie.size w:=by simp [sizeOf,typeInfo,G.info,G.size]
    have hxv:=hρ _ _ hx
    have hiv:=rel_int (hρ _ _ hi)
    generalize hav:a.eval x=av at hxv
    cases hxv with
    | @ptr _ _ g cap hμ =>
     refine ⟨.pointer (some ⟨g,off+q.toNat * ie.size,none⟩),?_,.ptr hμ⟩
     simp [execOp,ho,hav,hiv,Instr.indexAt,asIntOf,run_underlying hu,Instr.sureAddr,hob,hsz,addr_add]
   ·cases h
  ·rename_i n e _ _ _ _ cs kk q hl hx hi
   split at h
   ·rename_i ie he
    simp only [Option.some.injEq,Prod.mk.injEq] at h
    obtain ⟨rfl,rfl⟩:=h
    have hob:0≤q∧q < n:=hob
    obtain ⟨ti,zz,F⟩:=tiOK_facts (hT t _ hl)
    have hu:=kind_array F.kind
    obtain ⟨te,ze,G⟩:=tiOK_facts (hT e _ he)
    have hsz:(sizeOf e).run C.P w=.ok ie.size w:=by simp [sizeOf,typeInfo,G.info,G.size]
    have hxv:=hρ _ _ hx
    have hiv:=rel_int (hρ _ _ hi)
    generalize hav:a.eval x=av at hxv
    cases hxv with
    | @ref _ b o' vals hcell hr =>
     refine ⟨.pointer (some ⟨b,o'+q.toNat * ie.size,none⟩),?_,.ref (fun j=>vals (q.toNat * ie.size+j)) (fun j hj=>?_) (fun j hj=>?_)⟩
     ·simp [execOp,ho,hav,hiv,Instr.indexAt,asIntOf,run_underlying hu,Instr.sureAddr,hob,hsz,addr_add]
     ·simp only [List.length_drop] at hj
      have:=hcell (q.toNat * ie.size+j) (by omega)
      rw [← Nat.add_assoc] at this
      exact this
     ·simp only [List.length_drop] at hj
      have:=hr (q.toNat * ie.size+j) (by omega)
      simpa [List.getD] using this
   ·cases h
  ·cases h
 ·cases h
theorem evOpM_sound {T:List (Nat × TI)} (hT:TOk C.P T) (hs:Sim C A a w S μ ν) {lb:List (Nat × Blk)} {o:Oper} {ρ:Operand→Option AV} (hρ:∀ x y,ρ x=some y→Rel w S μ ν y (a.eval x)) (hd:∀ t,o.dst=some t→t < C.nt) {quiet:Bool} {orc orc':List Orc} {r:R}
  (h:evOpM C.P T lb ρ o.dst quiet orc o.op=some (r,orc')) (hro:∀ p,p∈r.ro→A.lb p.1=some p.2) (hmem:∀ p,p∈r.mem→A.lb p.1=some p.2) (hob:r.ob.den) (hfr:∀ κ,κ∈(r.mem'.map (·.1)).filter (fun k=>!(r.mem.map (·.1)).contains k)→Fresh A κ) (need:List (Nat × AV)) (gs:List (Nat × Bool)) :
  o.wp C.P a w (fun a' w'=>∃ S' μ',Sim C ((Tr.mk need o.dst r.v r.ro r.mem r.mem' gs).apply A) a' w' S' μ' ν) (fun _ _ _=>False):=by
 unfold evOpM at h
 split at h
 ·rename_i r' hm
  simp only [Option.some.injEq,Prod.mk.injEq] at h
  obtain ⟨rfl,-⟩:=h
  exact evMapA_sound hT hs hρ hd hm hro hmem hob need gs
 split at h
 ·rename_i r' hm
  simp only [Option.some.injEq,Prod.mk.injEq] at h
  obtain ⟨rfl,-⟩:=h
  exact evMore_sound hT hs hρ hd hm hro hmem hob hfr need gs
 split at h
 ·rename_i v ob hm
  simp only [Option.some.injEq,Prod.mk.injEq] at h
  obtain ⟨rfl,-⟩:=h
  obtain ⟨x,h1,h2⟩:=evArr_sound hT hρ hm hob
  exact core_value hs hd h1 h2 rfl rfl rfl
 ·exact evOp0_sound hT hs hρ hd h hro hmem hob hfr need gs
theorem lookC {α:Type} (k:Nat) (x:α) (r:List (Nat × α)) (t:Nat):look ((k,x) :: r) t=if k=t then some x else look r t:=by
 simp only [look]
 cases hb:Nat.beq k t with
 | true=>simp [Nat.eq_of_beq_eq_true hb]
 | false =>
  have:¬ k=t:=fun e=>by rw [e,Nat.beq_refl] at hb; cases hb
  simp [this]
theorem Sim.weaken {B:M} (h:Sim C A a w S μ ν) (hsl:∀ t v,Rel w S μ ν (A.sl t) v→Rel w S μ ν (B.sl t) v) (hlb:∀ κ b',B.lb κ=some b'→∃ b,A.lb κ=some b∧∀ y,BlkOK w S μ b y→BlkOK w S μ b' y):Sim C B a w S μ ν:=by
 refine ⟨h.tmps,h.defers,fun t=>hsl t _ (h.slots t),fun κ b hb=>?_,fun κ κ' b b' g c c' hb hb' hm hm'=>?_,fun κ b g c hb hm=>?_,h.stable,h.fresh,h.bound,h.kept⟩
 ·obtain ⟨d,h1,h2⟩:=hlb κ b hb
  exact h2 _ (h.mem κ d h1)
 ·obtain ⟨d,h1,_⟩:=hlb κ b hb
  obtain ⟨d',h1',_⟩:=hlb κ' b' hb'
  exact h.inj κ κ' d d' g c c' h1 h1' hm hm'
 ·obtain ⟨d,h1,_⟩:=hlb κ b hb
  exact h.own κ d g c h1 hm
theorem row_ok {e k n n':Nat} {f f':Nat→List D} (hn:n=n') (hf:∀ i,i < n→CsLe (f i) (f' i)) (y:Option (Option (Nat × Nat))) (h:BlkOK w S μ (.row e k n f) y):BlkOK w S μ (.row e k n' f') y:=by
 subst hn
 cases y with
 | none=>exact h
 | some y =>
  cases y with
  | none=>exact h
  | some gc =>
   obtain ⟨g,c⟩:=gc
   obtain ⟨cur,q1,q2,q3,q4,q5,q6⟩:=h.at
   refine BlkAt.ok ⟨cur,q1,q2,q3,q4,q5,fun i hi=>?_⟩
   obtain ⟨z1,z2⟩:=q6 i hi
   refine ⟨(hf i hi).1 ▸ z1,fun j hj=>?_⟩
   obtain ⟨x,x1,x2⟩:=z2 j hj
   exact ⟨x,x1,(hf i hi).2 j (by omega) _ _ _ x2⟩
theorem normR_sim {c:NormC} {r r':R} (h:normR c r=some r') (hob:r'.ob.den):r.ob.den∧r'.ro=r.ro∧r'.mem=r.mem∧r'.mem'.map (·.1)=r.mem'.map (·.1) ∧
  ∀ {A:M} {dst:Option Nat} {need:List (Nat × AV)} {gs:List (Nat × Bool)} {a:Act} {w:World} {S:Nat→Prop} {μ:Mu} {ν:Nat→Bool},Sim C ((Tr.mk need dst r.v r.ro r.mem r.mem' gs).apply A) a w S μ ν→Sim C ((Tr.mk need dst r'.v r'.ro r'.mem r'.mem' gs).apply A) a w S μ ν:=by
 obtain ⟨cn,ce⟩:=c.eq
 obtain ⟨v,ro,mem,mem',ob⟩:=r
 unfold normR at h
 split at h
 ·rename_i κ e k n f hmem
  dsimp only at hmem
  subst hmem
  have blk:n=c.n→f=c.f→∀ {A:M} {dst:Option Nat} {need:List (Nat × AV)} {gs:List (Nat × Bool)} {a:Act} {w:World} {S:Nat→Prop} {μ:Mu} {ν:Nat→Bool} {x y:AV},(∀ v,Rel w S μ ν x v→Rel w S μ ν y v)→Sim C ((Tr.mk need dst x ro mem [(κ,.row e k n f)] gs).apply A) a w S μ ν→Sim C ((Tr.mk need dst y ro mem [(κ,.row e k c.n' c.f')] gs).apply A) a w S μ ν:=by
   intro hn hf A dst need gs a w S μ ν x y hxy hs
   refine hs.weaken (fun t v hv=>?_) (fun κ' b' hb'=>?_)
   ·simp only [Tr.apply] at hv ⊢
    split
    ·rename_i hd
     simp only [hd,if_true] at hv
     exact hxy v hv
    ·rename_i hd
     simp only [hd,if_false] at hv
     exact hv
   ·simp only [Tr.apply,lookC] at hb' ⊢
    by_cases hk:κ=κ'
    ·subst hk
     simp only [if_true,Option.some.injEq] at hb' ⊢
     subst hb'
     exact ⟨_,rfl,fun y=>row_ok (hn.trans cn) (fun i hi=>by rw [hf]; exact ce i (by omega)) y⟩
    ·simp only [hk,if_false] at hb' ⊢
     exact ⟨b',hb',fun _ h=>h⟩
  split at h
  ·rename_i κ' m hv
   dsimp only at hv
   subst hv
   cases hb:Nat.beq κ' κ with
   | false=>rw [hb] at h; cases h
   | true =>
    rw [hb] at h
    simp only [cond_true,Option.some.injEq] at h
    subst h
    obtain ⟨o1,o2⟩:=Ob.and_den hob
    obtain ⟨o3,o4⟩:=Ob.and_den o2
    obtain ⟨o5,o6⟩:=Ob.and_den o4
    have o3:m=c.n:=o3
    refine ⟨o1,rfl,rfl,rfl,fun hs=>blk o5 o6 (fun v hv=>?_) hs⟩
    rw [o3,cn] at hv
    exact hv
  ·rename_i hv
   dsimp only at hv
   subst hv
   simp only [Option.some.injEq] at h
   subst h
   obtain ⟨o1,o2⟩:=Ob.and_den hob
   obtain ⟨o5,o6⟩:=Ob.and_den o2
   exact ⟨o1,rfl,rfl,rfl,fun hs=>blk o5 o6 (fun v hv=>hv) hs⟩
  ·cases h
 ·rename_i hmem
  dsimp only at hmem
  subst hmem
  split at h
  ·rename_i n f hv
   dsimp only at hv
   subst hv
   simp only [Option.some.injEq] at h
   subst h
   obtain ⟨o1,o2⟩:=Ob.and_den hob
   obtain ⟨o5,o6⟩:=Ob.and_den o2
   have o5:n=c.n:=o5
   have o6:f=c.f:=o6
   refine ⟨o1,rfl,rfl,rfl,fun hs=>?_⟩
   refine hs.weaken (fun t v hv=>?_) (fun κ' b' hb'=>⟨b',hb',fun _ h=>h⟩)
   simp only [Tr.apply] at hv ⊢
   split
   ·rename_i hd
    simp only [hd,if_true] at hv
    exact .d (DLe.slc (o5.trans cn) (fun i hi=>by rw [o6]; exact ce i (by omega)) _ _ _ (rel_d.1 hv))
   ·rename_i hd
    simp only [hd,if_false] at hv
    exact hv
  ·cases h
 ·cases h
theorem mp_ok {n n':Nat} {f f':Nat→Value × D} (hn:n=n') (hf:∀ i,i < n→f i=f' i) (y:Option (Option (Nat × Nat))) (h:BlkOK w S μ (.mp n f) y):BlkOK w S μ (.mp n' f') y:=by
 subst hn
 cases y with
 | none=>exact h
 | some y =>
  cases y with
  | none=>exact h
  | some gc =>
   obtain ⟨g,c⟩:=gc
   obtain ⟨cur,q1,q2,q3,q4⟩:=h.at
   refine BlkAt.ok ⟨cur,q1,q2,q3,fun i hi=>?_⟩
   rw [← hf i hi]
   exact q4 i hi
theorem ml_ok {n n':Nat} {f f':Nat→Value × D} (hn:n=n') (hf:∀ i,i < n→f i=f' i) (y:Option (Option (Nat × Nat))) (h:BlkOK w S μ (.ml n f) y):BlkOK w S μ (.ml n' f') y:=by
 subst hn
 cases y with
 | none=>exact h
 | some y =>
  cases y with
  | none=>exact h
  | some gc =>
   obtain ⟨g,c⟩:=gc
   obtain ⟨cur,ck,q1,q2,q3,q4⟩:=h.at
   refine BlkAt.ok ⟨cur,ck,q1,q2,q3,fun i hi=>?_⟩
   rw [← hf i hi]
   exact q4 i hi
theorem normM_sim {c:NormM} {r r':R} (h:normM c r=some r') (hob:r'.ob.den):r.ob.den∧r'.ro=r.ro∧r'.mem=r.mem∧r'.mem'.map (·.1)=r.mem'.map (·.1) ∧
  ∀ {A:M} {dst:Option Nat} {need:List (Nat × AV)} {gs:List (Nat × Bool)} {a:Act} {w:World} {S:Nat→Prop} {μ:Mu} {ν:Nat→Bool},Sim C ((Tr.mk need dst r.v r.ro r.mem r.mem' gs).apply A) a w S μ ν→Sim C ((Tr.mk need dst r'.v r'.ro r'.mem r'.mem' gs).apply A) a w S μ ν:=by
 obtain ⟨cn,ce⟩:=c.eq
 obtain ⟨v,ro,mem,mem',ob⟩:=r
 unfold normM at h
 split at h
 ·rename_i κ n f hmem
  dsimp only at hmem
  subst hmem
  split at h
  ·rename_i hv
   dsimp only at hv
   subst hv
   simp only [Option.some.injEq] at h
   subst h
   obtain ⟨o1,o2⟩:=Ob.and_den hob
   obtain ⟨o5,o6⟩:=Ob.and_den o2
   have o5:n=c.n:=o5
   have o6:f=c.f:=o6
   refine ⟨o1,rfl,rfl,rfl,fun hs=>?_⟩
   refine hs.weaken (fun t v hv=>hv) (fun κ' b' hb'=>?_)
   simp only [Tr.apply,lookC] at hb' ⊢
   by_cases hk:κ=κ'
   ·subst hk
    simp only [if_true,Option.some.injEq] at hb' ⊢
    subst hb'
    exact ⟨_,rfl,fun y=>mp_ok (o5.trans cn) (fun i hi=>by rw [o6]; exact ce i (by omega)) y⟩
   ·simp only [hk,if_false] at hb' ⊢
    exact ⟨b',hb',fun _ h=>h⟩
  ·rename_i hv
   dsimp only at hv
   subst hv
   simp only [Option.some.injEq] at h
   subst h
   obtain ⟨o1,o2⟩:=Ob.and_den hob
   obtain ⟨o5,o6⟩:=Ob.and_den o2
   have o5:n=c.n:=o5
   have o6:f=c.f:=o6
   refine ⟨o1,rfl,rfl,rfl,fun hs=>?_⟩
   refine hs.weaken (fun t v hv=>hv) (fun κ' b' hb'=>?_)
   simp only [Tr.apply,lookC] at hb' ⊢
   by_cases hk:κ=κ'
   ·subst hk
    simp only [if_true,Option.some.injEq] at hb' ⊢
    subst hb'
    exact ⟨_,rfl,fun y=>mp_ok (o5.trans cn) (fun i hi=>by rw [o6]; exact ce i (by omega)) y⟩
   ·simp only [hk,if_false] at hb' ⊢
    exact ⟨b',hb',fun _ h=>h⟩
  ·rename_i hv
   dsimp only at hv
   subst hv
   simp only [Option.some.injEq] at h
   subst h
   obtain ⟨o1,o2⟩:=Ob.and_den hob
   obtain ⟨o5,o6⟩:=Ob.and_den o2
   have o5:n=c.n:=o5
   have o6:f=c.f:=o6
   refine ⟨o1,rfl,rfl,rfl,fun hs=>?_⟩
   refine hs.weaken (fun t v hv=>hv) (fun κ' b' hb'=>?_)
   simp only [Tr.apply,lookC] at hb' ⊢
   by_cases hk:κ=κ'
   ·subst hk
    simp only [if_true,Option.some.injEq] at hb' ⊢
    subst hb'
    exact ⟨_,rfl,fun y=>mp_ok (o5.trans cn) (fun i hi=>by rw [o6]; exact ce i (by omega)) y⟩
   ·simp only [hk,if_false] at hb' ⊢
    exact ⟨b',hb',fun _ h=>h⟩
  ·cases h
 ·rename_i κ n f hmem
  dsimp only at hmem
  subst hmem
  split at h
  ·rename_i hv
   dsimp only at hv
   subst hv
   simp only [Option.some.injEq] at h
   subst h
   obtain ⟨o1,o2⟩:=Ob.and_den hob
   obtain ⟨o5,o6⟩:=Ob.and_den o2
   have o5:n=c.n:=o5
   have o6:f=c.f:=o6
   refine ⟨o1,rfl,rfl,rfl,fun hs=>?_⟩
   refine hs.weaken (fun t v hv=>hv) (fun κ' b' hb'=>?_)
   simp only [Tr.apply,lookC] at hb' ⊢
   by_cases hk:κ=κ'
   ·subst hk
    simp only [if_true,Option.some.injEq] at hb' ⊢
    subst hb'
    exact ⟨_,rfl,fun y=>ml_ok (o5.trans cn) (fun i hi=>by rw [o6]; exact ce i (by omega)) y⟩
   ·simp only [hk,if_false] at hb' ⊢
    exact ⟨b',hb',fun _ h=>h⟩
  ·cases h
 ·cases h
theorem castR_sim {c:CastC} {r:R} (hob:(castR c r).ob.den):r.ob.den ∧
  ∀ {A:M} {dst:Option Nat} {need:List (Nat × AV)} {gs:List (Nat × Bool)} {a:Act} {w:World} {S:Nat→Prop} {μ:Mu} {ν:Nat→Bool},Sim C ((Tr.mk need dst r.v r.ro r.mem r.mem' gs).apply A) a w S μ ν→Sim C ((Tr.mk need dst c.y r.ro r.mem r.mem' gs).apply A) a w S μ ν:=by
 obtain ⟨o1,o2⟩:=Ob.and_den hob
 have o2:r.v=c.x:=o2
 refine ⟨o1,fun hs=>?_⟩
 refine hs.weaken (fun t v hv=>?_) (fun κ' b' hb'=>⟨b',hb',fun _ h=>h⟩)
 simp only [Tr.apply] at hv ⊢
 split
 ·rename_i hd
  simp only [hd,if_true] at hv
  rw [o2] at hv
  exact c.le _ _ _ _ _ hv
 ·rename_i hd
  simp only [hd,if_false] at hv
  exact hv
theorem evOp_sound {T:List (Nat × TI)} (hT:TOk C.P T) (hs:Sim C A a w S μ ν) {lb:List (Nat × Blk)} {o:Oper} {ρ:Operand→Option AV} (hρ:∀ x y,ρ x=some y→Rel w S μ ν y (a.eval x)) (hd:∀ t,o.dst=some t→t < C.nt) {quiet:Bool} {orc orc':List Orc} {r:R}
  (h:evOp C.P T lb ρ o.dst quiet orc o.op=some (r,orc')) (hro:∀ p,p∈r.ro→A.lb p.1=some p.2) (hmem:∀ p,p∈r.mem→A.lb p.1=some p.2) (hob:r.ob.den) (hfr:∀ κ,κ∈(r.mem'.map (·.1)).filter (fun k=>!(r.mem.map (·.1)).contains k)→Fresh A κ) (need:List (Nat × AV)) (gs:List (Nat × Bool)) :
  o.wp C.P a w (fun a' w'=>∃ S' μ',Sim C ((Tr.mk need o.dst r.v r.ro r.mem r.mem' gs).apply A) a' w' S' μ' ν) (fun _ _ _=>False):=by
 unfold evOp at h
 split at h
 ·rename_i r0 orc1 h0
  split at h
  ·rename_i c orc2 _
   split at h
   ·rename_i r' hn
    simp only [Option.some.injEq,Prod.mk.injEq] at h
    obtain ⟨rfl,-⟩:=h
    obtain ⟨o1,e1,e2,e3,hsim⟩:=normR_sim (C:=C) hn hob
    rw [e3,e2] at hfr
    rw [e1] at hro
    rw [e2] at hmem
    exact Oper.wp_mono (fun a' w' hh=>let ⟨S',μ',hh⟩:=hh; ⟨S',μ',hsim hh⟩) (evOpM_sound hT hs hρ hd h0 hro hmem o1 hfr need gs)
   ·simp only [Option.some.injEq,Prod.mk.injEq] at h
    obtain ⟨rfl,-⟩:=h
    exact evOpM_sound hT hs hρ hd h0 hro hmem hob hfr need gs
  ·split at h
   ·rename_i r' hn
    simp only [Option.some.injEq,Prod.mk.injEq] at h
    obtain ⟨rfl,-⟩:=h
    obtain ⟨o1,e1,e2,e3,hsim⟩:=normM_sim (C:=C) hn hob
    rw [e3,e2] at hfr
    rw [e1] at hro
    rw [e2] at hmem
    exact Oper.wp_mono (fun a' w' hh=>let ⟨S',μ',hh⟩:=hh; ⟨S',μ',hsim hh⟩) (evOpM_sound hT hs hρ hd h0 hro hmem o1 hfr need gs)
   ·simp only [Option.some.injEq,Prod.mk.injEq] at h
    obtain ⟨rfl,-⟩:=h
    exact evOpM_sound hT hs hρ hd h0 hro hmem hob hfr need gs
  ·split at h
   ·generalize Nat.beq _ _=bb at h
    cases bb with
    | false =>
     simp only [cond_false,Option.some.injEq,Prod.mk.injEq] at h
     obtain ⟨rfl,-⟩:=h
     exact evOpM_sound hT hs hρ hd h0 hro hmem hob hfr need gs
    | true =>
     simp only [cond_true,Option.some.injEq,Prod.mk.injEq] at h
     obtain ⟨rfl,-⟩:=h
     obtain ⟨o1,hsim⟩:=castR_sim (C:=C) hob
     exact Oper.wp_mono (fun a' w' hh=>let ⟨S',μ',hh⟩:=hh; ⟨S',μ',hsim hh⟩) (evOpM_sound hT hs hρ hd h0 hro hmem o1 hfr need gs)
   ·simp only [Option.some.injEq,Prod.mk.injEq] at h
    obtain ⟨rfl,-⟩:=h
    exact evOpM_sound hT hs hρ hd h0 hro hmem hob hfr need gs
  ·simp only [Option.some.injEq,Prod.mk.injEq] at h
   obtain ⟨rfl,-⟩:=h
   exact evOpM_sound hT hs hρ hd h0 hro hmem hob hfr need gs
 ·cases h
end
def subP (q p:List (Nat × Bool)):Bool:=q.all fun y=>p.any fun z=>Nat.beq y.1 z.1&&(y.2 == z.2)

def res1 (p:List (Nat × Bool)):AV→Option AV
  | .g q a=>bif subP q p then some a else none
  | x=>some x

def rhoN (need:List (Nat × AV)) (p:List (Nat × Bool)):Operand→Option AV
  | .tmp t=>(match look need t with | some x=>res1 p x | none=>none)
  | .const v=>ofConst v
  | .func f=>some (.fn f [])
  | .global g=>(match look Globs.gl g with | some cs=>some (.ref cs) | none=>none)

def boolOf:AV→Option (List (Nat × Bool) × Bool)
  | .d (.v (.bool e))=>some ([],e)
  | .g q (.d (.v (.bool e)))=>some (q,e)
  | _=>none

structure St where
  sl:List (Nat × AV)
  lb:List (Nat × Blk)

def St.get (sl:List (Nat × AV)) (t:Nat):AV:=match look sl t with | some x=>x | none=>.any

def St.toM (st:St):M:={ sl:=St.get st.sl,lb:=look st.lb }

def slotsOf:List Operand→List Nat
  | []=>[]
  | .tmp t :: r=>t :: slotsOf r
  | _ :: r=>slotsOf r

def needOf (sl:List (Nat × AV)):List Nat→List (Nat × AV)
  | []=>[]
  | t :: r=>(t,St.get sl t) :: needOf sl r

/-- a bool on which others hang is noted -/
def regG (gl:List (Nat × Bool)) (s:Nat) (e:Bool):List (Nat × Bool) × Ob :=
  match look gl s with
  | some e'=>(gl,.be e e')
  | none=>(gl++[(s,e)],.tt)

def gsOf (gl:List (Nat × Bool)):List Nat→List (Nat × Bool)
  | []=>[]
  | s :: r=>(match look gl s with | some e=>(s,e) :: gsOf gl r | none=>gsOf gl r)

def pathCond (gl:List (Nat × Bool)):List (Nat × Bool)→Ob→Ob
  | [],ob=>ob
  | (s,w) :: r,ob=>(match look gl s with | some e=>(pathCond gl r ob).imp e w | none=>pathCond gl r ob)

def wrapG (p:List (Nat × Bool)) (v:AV):AV:=match p with | []=>v | _ :: _=>.g p v

def guardSlot (ops:Array Oper) (j:Nat):Option Nat:=match ops[j]? with | some o=>o.dst | none=>none

/-- the tests on which an operation hangs -/
def pathOf (nt:Nat) (ops:Array Oper) (sl:List (Nat × AV)) (gl:List (Nat × Bool)):Option (Nat × Bool)→Option (List (Nat × Bool) × List Nat × List (Nat × Bool) × Ob)
  | none=>some ([],[],gl,.tt)
  | some (j,want)=>(match guardSlot ops j with
    | some s=>bif Nat.ble (s+1) nt then (match boolOf (St.get sl s) with
      | some (q,e)=>(match regG gl s e with | (gl',ob)=>some (q++[(s,want)],[s],gl',ob))
      | none=>none) else none
    | none=>none)

def evPick (need:List (Nat × AV)) (p:List (Nat × Bool)) (c x y:Operand):Option (Nat × Bool × Bool × Bool) :=
  match c with
  | .tmp s=>(match rhoN need p c,rhoN need ((s,true) :: p) x,rhoN need ((s,false) :: p) y with
    | some (.d (.v (.bool e))),some (.d (.v (.bool ex))),some (.d (.v (.bool ey)))=>some (s,e,ex,ey)
    | _,_,_=>none)
  | _=>none

def stepOp (P:Program) (T:List (Nat × TI)) (nt:Nat) (ops:Array Oper) (st:St) (gl:List (Nat × Bool)) (orc:List Orc) (o:Oper):Option (Tr × List (Nat × Bool) × List Orc × Ob) :=
  match pathOf nt ops st.sl gl o.guard,(match o.dst with | some d=>Nat.ble (d+1) nt | none=>true) with
  | some (p,ss,gl1,ob1),true =>
    (match o.op with
    | .pick c x y=>(match evPick (needOf st.sl (ss++slotsOf [c,x,y])) p c x y with
      | some (s,e,ex,ey)=>(match regG gl1 s e with
        | (gl2,ob2)=>some (⟨needOf st.sl (ss++slotsOf [c,x,y]),o.dst,wrapG p (.d (.v (.bool (bif e then ex else ey)))),[],[],[],gsOf gl2 (s :: p.map (·.1))⟩,gl2,orc,ob1.and ob2))
      | none=>none)
    | op=>(match evOp P T st.lb (rhoN (needOf st.sl (ss++slotsOf op.operands.toList)) p) o.dst (!p.isEmpty) orc op with
      | some (r,orc')=>some (⟨needOf st.sl (ss++slotsOf op.operands.toList),o.dst,wrapG p r.v,r.ro,r.mem,r.mem',gsOf gl1 (p.map (·.1))⟩,gl1,orc',ob1.and (pathCond gl1 p r.ob))
      | none=>none))
  | _,_=>none

def delKeys {α:Type} (ks:List Nat):List (Nat × α)→List (Nat × α)
  | []=>[]
  | (k,x) :: r=>bif ks.any (fun q=>Nat.beq q k) then delKeys ks r else (k,x) :: delKeys ks r

def St.apply (st:St) (τ:Tr):St :=
  { sl:=match τ.dst with | some d=>(d,τ.v) :: delKeys [d] st.sl | none=>st.sl
    lb:=match τ.mem,τ.mem' with | [],[]=>st.lb | m,m'=>m'++delKeys (m.map (·.1)) st.lb }

def evOps (P:Program) (T:List (Nat × TI)) (nt:Nat) (ops:Array Oper):List Oper→St→List (Nat × Bool)→List Orc→Option (List Tr × St × List (Nat × Bool) × List Orc × Ob)
  | [],st,gl,orc=>some ([],st,gl,orc,.tt)
  | o :: r,st,gl,orc=>(match stepOp P T nt ops st gl orc o with
    | some (τ,gl',orc',ob)=>(match evOps P T nt ops r (st.apply τ) gl' orc' with
      | some (l,st',gl'',orc'',ob')=>some (τ :: l,st',gl'',orc'',ob.and ob')
      | none=>none)
    | none=>none)

def freshB (st:St) (κ:Nat):Bool:=st.sl.all (fun p=>!p.2.keys.any (fun k=>Nat.beq k κ))&&st.lb.all (fun p=>!Nat.beq p.1 κ&&!p.2.keys.any (fun k=>Nat.beq k κ))

def keptB (keep:Option (List Nat)) (t:Nat):Bool:=match keep with | some l=>l.any (fun k=>Nat.beq k t) | none=>true

def drawOK (draw:Bool) (ops:Array Oper) (trs:List Tr):Bool:=match draw with | true=>regOK ops trs | false=>ordOK trs

def keepG (keep:Option (List Nat)):List (Nat × AV)→List (Nat × AV)
  | []=>[]
  | (t,x) :: r=>bif noG x&&keptB keep t then (t,x) :: keepG keep r else keepG keep r

def distinctB:List (Nat × AV)→Bool
  | []=>true
  | (t,_) :: r=>r.all (fun p=>!Nat.beq p.1 t)&&distinctB r

/-- edges go back; whoever is not held apart by edges is independent,but for the pair i0,j0 -/
def regOKf (i0 j0:Nat) (ops:Array Oper) (tf:Nat→Tr):Bool :=
  (List.range ops.size).all fun i=>match ops[i]? with
    | some o=>(o.after.all fun e=>!Region.binds .any e||decide (e.on < i))&&(List.range i).all fun j=>afterB o j||(Nat.beq j i0&&Nat.beq i j0)||(tf j).indep (tf i)||heldB ops 4 i j
    | none=>false

def tfOf (trs:List Tr) (i0:Nat) (τ':Tr) (f:Bool) (i:Nat):Tr:=bif f&&Nat.beq i i0 then τ' else trs.getD i dfT

/-- a look-up behind the making of the entry: what it is there -/
def altTr (P:Program) (T:List (Nat × TI)) (nt:Nat) (ops:Array Oper) (trs:List Tr) (gl:List (Nat × Bool)) (i0 j0 d:Nat) (c:CastC):Option (Tr × Ob) :=
  match trs[i0]?,trs[j0]?,ops[i0]? with
  | some τ,some σ,some o=>(match stepOp P T nt ops ⟨τ.need,σ.mem'⟩ [] [.cast d c] o with
    | some (τ',[],[],ob)=>bif gl.isEmpty&&Nat.blt i0 j0&&τ.mem.isEmpty&&τ.mem'.isEmpty&&τ'.mem.isEmpty&&τ'.mem'.isEmpty&&τ.gs.isEmpty&&τ'.gs.isEmpty &&
        (match τ.dst,τ'.dst,σ.dst with | some a,some a',some b=>Nat.beq a a'&&!Nat.beq a b&&!(σ.need.map (·.1)).contains a&&!(τ'.need.map (·.1)).contains b | _,_,_=>false) &&
        τ'.need.all (fun p=>(look τ.need p.1).isSome)&&ordOK trs&&regOKf i0 j0 ops (tfOf trs i0 τ' false)&&regOKf i0 j0 ops (tfOf trs i0 τ' true) then some (τ',ob.and (.ve τ'.v τ.v)) else none
    | _=>none)
  | _,_,_=>none

/-- a region: the state behind it,and what must hold -/
def evRegion (P:Program) (T:List (Nat × TI)) (nt:Nat) (ops:Array Oper) (draw:Bool) (keep:Option (List Nat)) (st:St) (orc:List Orc):Option (St × Ob) :=
  match evOps P T nt ops ops.toList st [] orc with
  | some (trs,st',_,[],ob)=>bif drawOK draw ops trs&&trs.all (fun τ=>τ.created.all (freshB st))&&distinctB st'.sl then some (⟨keepG keep st'.sl,st'.lb⟩,ob) else none
  | some (trs,st',gl,[.alt i0 j0 d c],ob)=>(match draw,altTr P T nt ops trs gl i0 j0 d c with
    | true,some (_,ob')=>bif trs.all (fun τ=>τ.created.all (freshB st))&&distinctB st'.sl then some (⟨keepG keep st'.sl,st'.lb⟩,ob.and ob') else none
    | _,_=>none)
  | _=>none

/-! soundness -/

theorem look_cons {α:Type} (k:Nat) (x:α) (r:List (Nat × α)) (t:Nat):look ((k,x) :: r) t=if k=t then some x else look r t:=by
  simp only [look]
  cases hb:Nat.beq k t with
  | true=>simp [Nat.eq_of_beq_eq_true hb]
  | false =>
    have:¬ k=t:=fun e=>by rw [e,Nat.beq_refl] at hb; cases hb
    simp [this]

theorem look_append {α:Type} (l r:List (Nat × α)) (t:Nat):look (l++r) t=match look l t with | some x=>some x | none=>look r t:=by
  induction l with
  | nil=>rfl
  | cons p l ih =>
    obtain ⟨k,x⟩:=p
    simp only [List.cons_append,look_cons]
    split
    · rfl
    · exact ih

theorem look_del {α:Type} (ks:List Nat) (l:List (Nat × α)) (t:Nat):look (delKeys ks l) t=if t∈ks then none else look l t:=by
  induction l with
  | nil=>simp [delKeys,look]
  | cons p l ih =>
    obtain ⟨k,x⟩:=p
    simp only [delKeys]
    cases hb:ks.any (fun q=>Nat.beq q k) with
    | true =>
      simp only [cond_true]
      rw [ih,look_cons]
      have hk:k∈ks:=by
        obtain ⟨q,hq,he⟩:=List.any_eq_true.1 hb
        rw [← Nat.eq_of_beq_eq_true he]
        exact hq
      by_cases c:k=t
      · subst c; simp [hk]
      · simp [c]
    | false =>
      simp only [cond_false,look_cons]
      have hk:k ∉ ks:=fun hc=>by
        have:ks.any (fun q=>Nat.beq q k)=true:=List.any_eq_true.2 ⟨k,hc,Nat.beq_refl k⟩
        rw [this] at hb
        cases hb
      by_cases c:k=t
      · subst c; simp [hk]
      · simp only [c,if_false]
        exact ih

theorem get_del (d:Nat) (v:AV) (sl:List (Nat × AV)) (t:Nat):St.get ((d,v) :: delKeys [d] sl) t=if d=t then v else St.get sl t:=by
  unfold St.get
  rw [look_cons]
  by_cases c:d=t
  · simp [c]
  · simp only [c,if_false]
    rw [look_del]
    have:t ∉ [d]:=by simp; exact fun e=>c e.symm
    simp [this]

theorem St.apply_toM (st:St) (τ:Tr):(st.apply τ).toM=τ.apply st.toM:=by
  unfold St.apply St.toM Tr.apply
  have e1:(St.get (match τ.dst with | some d=>(d,τ.v) :: delKeys [d] st.sl | none=>st.sl))=fun t=>if τ.dst=some t then τ.v else St.get st.sl t:=by
    funext t
    cases hd:τ.dst with
    | none=>simp
    | some d =>
      simp only [Option.some.injEq]
      exact get_del d τ.v st.sl t
  have e2:look (match τ.mem,τ.mem' with | [],[]=>st.lb | m,m'=>m'++delKeys (m.map (·.1)) st.lb)=fun k=>match look τ.mem' k with | some b=>some b | none=>if k∈τ.mem.map (·.1) then none else look st.lb k:=by
    funext k
    split
    · rename_i h1 h2
      simp [h1,h2,look]
    · rw [look_append,look_del]
      cases look τ.mem' k <;> simp
  show M.mk (St.get _) (look _)=_
  rw [e1,e2]
  rfl

/-! the blocks that an operation names are those that it has looked up -/

theorem ptrCells_ro {lb:List (Nat × Blk)} {x:AV} {cs:List AV} {ro:List (Nat × Blk)} {ob:Ob} (h:ptrCells lb x=some (cs,ro,ob)):∀ p,p∈ro→look lb p.1=some p.2:=by
  unfold ptrCells at h
  split at h
  · split at h
    · rename_i hl
      simp only [Option.some.injEq,Prod.mk.injEq] at h
      obtain ⟨-,rfl,-⟩:=h
      intro p hp
      simp only [List.mem_singleton] at hp
      subst hp
      exact hl
    · cases h
  · rename_i key k i off
    split at h
    · rename_i e k' n f hl
      cases hb:Nat.beq k k' with
      | false=>rw [hb] at h; cases h
      | true =>
        rw [hb] at h
        simp only [cond_true,Option.some.injEq,Prod.mk.injEq] at h
        obtain ⟨-,rfl,-⟩:=h
        intro p hp
        simp only [List.mem_singleton] at hp
        subst hp
        exact hl
    · cases h
  · simp only [Option.some.injEq,Prod.mk.injEq] at h
    obtain ⟨-,rfl,-⟩:=h
    intro p hp
    cases hp
  · cases h

theorem ro_nil {lb ro:List (Nat × Blk)} (h:ro=[]):∀ p,p∈ro→look lb p.1=some p.2:=fun p hp=>by subst h; cases hp

theorem evV_ro {T:List (Nat × TI)} {lb:List (Nat × Blk)} {ρ:Operand→Option AV} {o:Op} {v:AV} {ro:List (Nat × Blk)} {ob:Ob} (h:evV T lb ρ o=some (v,ro,ob)):∀ p,p∈ro→look lb p.1=some p.2:=by
  have okr:∀ {x:AV},ok x=some (v,ro,ob)→ro=[]:=fun h=>by simp only [ok,Option.some.injEq,Prod.mk.injEq] at h; exact h.2.1.symm
  unfold evV at h
  split at h
  · split at h
    · exact ro_nil (okr h)
    · cases h
  · split at h
    · exact ro_nil (okr h)
    · cases h
  · split at h <;> first | exact ro_nil (okr h) | cases h
  · split at h
    · split at h
      · rename_i hc
        split at h
        · simp only [Option.some.injEq,Prod.mk.injEq] at h
          obtain ⟨-,rfl,-⟩:=h
          exact ptrCells_ro hc
        · cases h
      · cases h
    · cases h
  · split at h
    · unfold evField at h
      split at h
      · split at h <;> first | exact ro_nil (okr h) | cases h
      · cases h
    · cases h
  · split at h
    · unfold evPart at h
      split at h
      · split at h
        · split at h
          · split at h
            · exact ro_nil (okr h)
            · cases h
          · cases h
        · cases h
      · cases h
    · cases h
  · split at h
    · unfold evIndexAddr at h
      split at h
      · split at h
        · split at h
          · rename_i ie _ n _ m f _ _ _
            generalize hb:Nat.beq _ _=bb at h
            cases bb with
            | false=>cases h
            | true =>
              simp only [cond_true,Option.some.injEq,Prod.mk.injEq] at h
              exact ro_nil h.2.1.symm
          · simp only [Option.some.injEq,Prod.mk.injEq] at h
            exact ro_nil h.2.1.symm
          · cases h
        · cases h
      · cases h
    · cases h
  · split at h
    · unfold evIndex at h
      split at h
      · simp only [Option.some.injEq,Prod.mk.injEq] at h
        exact ro_nil h.2.1.symm
      · split at h
        · split at h
          · rename_i l _
            generalize hb:Nat.beq _ _=bb at h
            cases bb with
            | false=>cases h
            | true =>
              simp only [cond_true,Option.some.injEq,Prod.mk.injEq] at h
              exact ro_nil h.2.1.symm
          · cases h
        · cases h
      · cases h
    · cases h
  · split at h
    · unfold evBin at h
      split at h
      · split at h
        · simp only [Option.some.injEq,Prod.mk.injEq] at h
          exact ro_nil h.2.1.symm
        · simp only [Option.some.injEq,Prod.mk.injEq] at h
          exact ro_nil h.2.1.symm
        · cases h
      · split at h
        · simp only [Option.some.injEq,Prod.mk.injEq] at h
          exact ro_nil h.2.1.symm
        · cases h
      · split at h
        · exact ro_nil (okr h)
        · split at h
          · exact ro_nil (okr h)
          · cases h
      · cases h
    · cases h
  · split at h
    · unfold evUn at h
      split at h <;> first | exact ro_nil (okr h) | cases h
    · cases h
  · split at h
    · unfold evConv at h
      split at h
      · exact ro_nil (okr h)
      · cases h
    · cases h
  · split at h
    · unfold evExtract at h
      split at h
      · split at h
        · exact ro_nil (okr h)
        · cases h
      · cases h
    · cases h
  · unfold evBuild at h
    split at h
    · split at h
      · split at h
        · exact ro_nil (okr h)
        · cases h
      · cases h
    · cases h
  · split at h
    · exact ro_nil (okr h)
    · cases h
  · split at h
    · unfold evSlice at h
      split at h
      · unfold evSliceStr at h
        split at h <;> first | exact ro_nil (okr h) | (simp only [Option.some.injEq,Prod.mk.injEq] at h; exact ro_nil h.2.1.symm) | cases h
      · split at h
        · unfold evSliceSl at h
          split at h <;> first | (simp only [Option.some.injEq,Prod.mk.injEq] at h; exact ro_nil h.2.1.symm) | cases h
        · cases h
      · split at h
        · unfold evSliceArr at h
          split at h
          · generalize (_&&_&&_:Bool)=bb at h
            cases bb with
            | false=>cases h
            | true=>exact ro_nil (okr h)
          · cases h
        · cases h
      · cases h
    · cases h
  · split at h
    · unfold evLen at h
      split at h <;> first | exact ro_nil (okr h) | cases h
    · cases h
  · split at h
    · unfold evFold at h
      split at h
      · split at h
        · exact ro_nil (okr h)
        · cases h
      · cases h
    · cases h
  · split at h
    · unfold evFold at h
      split at h
      · split at h
        · exact ro_nil (okr h)
        · cases h
      · cases h
    · cases h
  · cases h

theorem bor1_ro {lb:List (Nat × Blk)} {x:AV} {y:D} {ro:List (Nat × Blk)} {ob:Ob} (h:bor1 lb x=some (y,ro,ob)):∀ p,p∈ro→look lb p.1=some p.2:=by
  unfold bor1 at h
  split at h
  · simp only [Option.some.injEq,Prod.mk.injEq] at h
    exact ro_nil h.2.1.symm
  · simp only [Option.some.injEq,Prod.mk.injEq] at h
    exact ro_nil h.2.1.symm
  · split at h
    · rename_i hl
      simp only [Option.some.injEq,Prod.mk.injEq] at h
      obtain ⟨-,rfl,-⟩:=h
      intro p hp
      simp only [List.mem_singleton] at hp
      subst hp
      exact hl
    · cases h
  · split at h
    · rename_i hl
      simp only [Option.some.injEq,Prod.mk.injEq] at h
      obtain ⟨-,rfl,-⟩:=h
      intro p hp
      simp only [List.mem_singleton] at hp
      subst hp
      exact hl
    · cases h
  · cases h

theorem borL1_ro {lb:List (Nat × Blk)}:∀ {xs:List AV} {ys:List D} {ro:List (Nat × Blk)} {ob:Ob},borL1 lb xs=some (ys,ro,ob)→∀ p,p∈ro→look lb p.1=some p.2
  | [],ys,ro,ob,h=>by simp only [borL1,Option.some.injEq,Prod.mk.injEq] at h; exact ro_nil h.2.1.symm
  | x :: r,ys,ro,ob,h=>by
    simp only [borL1] at h
    split at h
    · rename_i h1 h2
      simp only [Option.some.injEq,Prod.mk.injEq] at h
      obtain ⟨-,rfl,-⟩:=h
      intro p hp
      rcases List.mem_append.1 hp with hp | hp
      · exact bor1_ro h1 p hp
      · exact borL1_ro h2 p hp
    · cases h

theorem borA1_ro {lb:List (Nat × Blk)} {x y:AV} {ro:List (Nat × Blk)} {ob:Ob} (h:borA1 lb x=some (y,ro,ob)):∀ p,p∈ro→look lb p.1=some p.2:=by
  unfold borA1 at h
  split at h
  · simp only [Option.some.injEq,Prod.mk.injEq] at h
    exact ro_nil h.2.1.symm
  · split at h
    · rename_i hl
      split at h
      · rename_i hb
        simp only [Option.some.injEq,Prod.mk.injEq] at h
        obtain ⟨-,rfl,-⟩:=h
        intro p hp
        rcases List.mem_cons.1 hp with rfl | hp
        · exact hl
        · exact borL1_ro hb p hp
      · cases h
    · cases h
  · split at h
    · rename_i hb
      simp only [Option.some.injEq,Prod.mk.injEq] at h
      obtain ⟨-,rfl,-⟩:=h
      exact borL1_ro hb
    · cases h
  · split at h
    · rename_i hl
      simp only [Option.some.injEq,Prod.mk.injEq] at h
      obtain ⟨-,rfl,-⟩:=h
      intro p hp
      simp only [List.mem_singleton] at hp
      subst hp
      exact hl
    · simp only [Option.some.injEq,Prod.mk.injEq] at h
      exact ro_nil h.2.1.symm
    · simp only [Option.some.injEq,Prod.mk.injEq] at h
      exact ro_nil h.2.1.symm
    · cases h
  · simp only [Option.some.injEq,Prod.mk.injEq] at h
    exact ro_nil h.2.1.symm
  · split at h
    · rename_i hb
      simp only [Option.some.injEq,Prod.mk.injEq] at h
      obtain ⟨-,rfl,-⟩:=h
      exact bor1_ro hb
    · cases h

theorem borAL1_ro {lb:List (Nat × Blk)}:∀ {xs ys:List AV} {ro:List (Nat × Blk)} {ob:Ob},borAL1 lb xs=some (ys,ro,ob)→∀ p,p∈ro→look lb p.1=some p.2
  | [],ys,ro,ob,h=>by simp only [borAL1,Option.some.injEq,Prod.mk.injEq] at h; exact ro_nil h.2.1.symm
  | x :: r,ys,ro,ob,h=>by
    simp only [borAL1] at h
    split at h
    · rename_i h1 h2
      simp only [Option.some.injEq,Prod.mk.injEq] at h
      obtain ⟨-,rfl,-⟩:=h
      intro p hp
      rcases List.mem_append.1 hp with hp | hp
      · exact borA1_ro h1 p hp
      · exact borAL1_ro h2 p hp
    · cases h

theorem borA_ro {lb:List (Nat × Blk)} {x y:AV} {ro:List (Nat × Blk)} {ob:Ob} (h:borA lb x=some (y,ro,ob)):∀ p,p∈ro→look lb p.1=some p.2:=by
  unfold borA at h
  split at h
  · split at h
    · rename_i hb
      simp only [Option.some.injEq,Prod.mk.injEq] at h
      obtain ⟨-,rfl,-⟩:=h
      exact borAL1_ro hb
    · cases h
  · exact borA1_ro h

theorem borAL_ro {lb:List (Nat × Blk)}:∀ {xs ys:List AV} {ro:List (Nat × Blk)} {ob:Ob},borAL lb xs=some (ys,ro,ob)→∀ p,p∈ro→look lb p.1=some p.2
  | [],ys,ro,ob,h=>by simp only [borAL,Option.some.injEq,Prod.mk.injEq] at h; exact ro_nil h.2.1.symm
  | x :: r,ys,ro,ob,h=>by
    simp only [borAL] at h
    split at h
    · rename_i h1 h2
      simp only [Option.some.injEq,Prod.mk.injEq] at h
      obtain ⟨-,rfl,-⟩:=h
      intro p hp
      rcases List.mem_append.1 hp with hp | hp
      · exact borA_ro h1 p hp
      · exact borAL_ro h2 p hp
    · cases h

theorem looks_spec {lb:List (Nat × Blk)}:∀ {ks:List Nat} {l:List (Nat × Blk)},looks lb ks=some l→∀ p,p∈l→look lb p.1=some p.2
  | [],l,h=>by simp only [looks,Option.some.injEq] at h; exact ro_nil h.symm
  | k :: r,l,h=>by
    simp only [looks] at h
    split at h
    · rename_i h1 h2
      simp only [Option.some.injEq] at h
      subst h
      intro p hp
      rcases List.mem_cons.1 hp with rfl | hp
      · exact h1
      · exact looks_spec h2 p hp
    · cases h

theorem evOp0_looks {P:Program} {T:List (Nat × TI)} {lb:List (Nat × Blk)} {ρ:Operand→Option AV} {dst:Option Nat} {quiet:Bool} {orc orc':List Orc} {op:Op} {r:R} (h:evOp0 P T lb ρ dst quiet orc op=some (r,orc')) :
    (∀ p,p∈r.ro→look lb p.1=some p.2)∧(∀ p,p∈r.mem→look lb p.1=some p.2)∧(quiet=true→r.mem=[]∧r.mem'=[]):=by
  have one:∀ {κ:Nat} {b:Blk},look lb κ=some b→∀ p,p∈[(κ,b)]→look lb p.1=some p.2:=fun hl p hp=>by
    simp only [List.mem_singleton] at hp
    subst hp
    exact hl
  unfold evOp0 at h
  split at h
  · split at h
    · simp only [Option.some.injEq,Prod.mk.injEq] at h
      obtain ⟨rfl,-⟩:=h
      exact ⟨ro_nil rfl,ro_nil rfl,fun hq=>(by cases hq)⟩
    · cases h
  · split at h
    · split at h
      · split at h
        · simp only [Option.some.injEq,Prod.mk.injEq] at h
          obtain ⟨rfl,-⟩:=h
          exact ⟨ro_nil rfl,ro_nil rfl,fun hq=>(by cases hq)⟩
        generalize (noG.noGL _&&_)=bb at h
        cases bb with
        | false=>cases h
        | true =>
          simp only [cond_true,Option.some.injEq,Prod.mk.injEq] at h
          obtain ⟨rfl,-⟩:=h
          exact ⟨ro_nil rfl,ro_nil rfl,fun hq=>(by cases hq)⟩
      · cases h
    · cases h
  · split at h
    · split at h
      · simp only [Option.some.injEq,Prod.mk.injEq] at h
        obtain ⟨rfl,-⟩:=h
        exact ⟨ro_nil rfl,ro_nil rfl,fun _=>⟨rfl,rfl⟩⟩
      · split at h
        · simp only [Option.some.injEq,Prod.mk.injEq] at h
          obtain ⟨rfl,-⟩:=h
          exact ⟨ro_nil rfl,ro_nil rfl,fun hq=>(by cases hq)⟩
        · cases h
    · cases h
  · split at h
    · split at h
      · rename_i r' hst
        simp only [Option.some.injEq,Prod.mk.injEq] at h
        obtain ⟨rfl,-⟩:=h
        refine ⟨?_,?_,fun hq=>(by cases hq)⟩
        all_goals
          unfold evStore at hst
          split at hst
          · rename_i i xs hi hc
            split at hst
            · rename_i κ off
              split at hst
              · rename_i cs hl
                generalize (Nat.beq _ _&&_&&_&&_)=bb at hst
                cases bb with
                | false=>cases hst
                | true =>
                  simp only [cond_true,Option.some.injEq] at hst
                  subst hst
                  first | exact one hl | exact ro_nil rfl
              · cases hst
            · split at hst
              · rename_i e k' n f ds hl hp
                generalize hb:(Nat.beq _ k'&&_&&_&&_)=bb at hst
                cases bb with
                | false=>cases hst
                | true =>
                  simp only [Bool.and_eq_true] at hb
                  have ek:=Nat.eq_of_beq_eq_true hb.1.1.1
                  subst ek
                  simp only [cond_true,Option.some.injEq] at hst
                  subst hst
                  first | exact one hl | exact ro_nil rfl
              · cases hst
            · cases hst
          · cases hst
      · cases h
    · cases h
  · split at h
    · split at h
      · split at h
        · rename_i r' hap
          simp only [Option.some.injEq,Prod.mk.injEq] at h
          obtain ⟨rfl,-⟩:=h
          have main:(∀ p,p∈r'.ro→look lb p.1=some p.2)∧(∀ p,p∈r'.mem→look lb p.1=some p.2):=by
            unfold evAppend at hap
            split at hap
            · split at hap
              · rename_i i hi
                split at hap
                · rename_i m g ro ob hsrc
                  have hro:∀ p,p∈ro→look lb p.1=some p.2:=by
                    unfold evSrc at hsrc
                    split at hsrc
                    · simp only [Option.some.injEq,Prod.mk.injEq] at hsrc
                      exact ro_nil hsrc.2.2.1.symm
                    · simp only [Option.some.injEq,Prod.mk.injEq] at hsrc
                      exact ro_nil hsrc.2.2.1.symm
                    · simp only [Option.some.injEq,Prod.mk.injEq] at hsrc
                      exact ro_nil hsrc.2.2.1.symm
                    · split at hsrc
                      · rename_i hl
                        generalize hb:Nat.beq _ _=bb at hsrc
                        cases bb with
                        | false=>cases hsrc
                        | true =>
                          simp only [cond_true,Option.some.injEq,Prod.mk.injEq] at hsrc
                          obtain ⟨-,-,rfl,-⟩:=hsrc
                          exact one hl
                      · cases hsrc
                    · cases hsrc
                  split at hap
                  · simp only [Option.some.injEq] at hap
                    subst hap
                    exact ⟨hro,ro_nil rfl⟩
                  · split at hap
                    · rename_i hl
                      generalize (Nat.beq _ _&&_&&_)=bb at hap
                      cases bb with
                      | false=>cases hap
                      | true =>
                        simp only [cond_true,Option.some.injEq] at hap
                        subst hap
                        exact ⟨hro,one hl⟩
                    · cases hap
                  · cases hap
                · cases hap
              · cases hap
            · cases hap
          exact ⟨main.1,main.2,fun hq=>(by cases hq)⟩
        · cases h
      · cases h
    · cases h
  · split at h
    · unfold evCall at h
      split at h
      · split at h
        · split at h
          · rename_i hb
            generalize flatA _=bb at h
            cases bb with
            | false=>cases h
            | true =>
              simp only [cond_true,Option.some.injEq,Prod.mk.injEq] at h
              obtain ⟨rfl,-⟩:=h
              exact ⟨borAL_ro hb,ro_nil rfl,fun _=>⟨rfl,rfl⟩⟩
          · cases h
        · cases h
      · rename_i hand res back orc0
        split at h
        · split at h
          · rename_i lbs hlk
            generalize hb:(noG.noGL _&&closedB res back&&noG res&&(!quiet||(hand.isEmpty&&back.isEmpty))&&back.all (fun p=>!hand.contains p.1))=bb at h
            cases bb with
            | false=>cases h
            | true =>
              simp only [cond_true,Option.some.injEq,Prod.mk.injEq] at h
              obtain ⟨rfl,-⟩:=h
              simp only [Bool.and_eq_true,Bool.or_eq_true,Bool.not_eq_true',List.isEmpty_iff] at hb
              refine ⟨ro_nil rfl,looks_spec hlk,fun hq=>?_⟩
              rcases hb.1.2 with h1 | ⟨h1,h2⟩
              · rw [hq] at h1; cases h1
              · subst h1; subst h2
                simp only [looks,Option.some.injEq] at hlk
                exact ⟨hlk.symm,rfl⟩
          · cases h
        · cases h
      · rename_i κ b' orc0
        split at h
        · split at h
          · rename_i b hlk
            generalize hb:(noG.noGL _&&!quiet)=bb at h
            cases bb with
            | false=>cases h
            | true =>
              simp only [cond_true,Option.some.injEq,Prod.mk.injEq] at h
              obtain ⟨rfl,-⟩:=h
              simp only [Bool.and_eq_true,Bool.not_eq_true'] at hb
              refine ⟨ro_nil rfl,fun p hp=>?_,fun hq=>?_⟩
              · have:p=(κ,b):=by simpa using hp
                subst this
                exact hlk
              · rw [hq] at hb; cases hb.2
          · cases h
        · cases h
      · rename_i hand anc res back orc0
        split at h
        · split at h
          · rename_i lbs hlk
            generalize hb:(noG.noGL _&&bxOK _ hand lbs anc res back&&noG res&&!quiet)=bb at h
            cases bb with
            | false=>cases h
            | true =>
              simp only [cond_true,Option.some.injEq,Prod.mk.injEq] at h
              obtain ⟨rfl,-⟩:=h
              simp only [Bool.and_eq_true,Bool.not_eq_true'] at hb
              exact ⟨ro_nil rfl,looks_spec hlk,fun hq=>by rw [hq] at hb; cases hb.2⟩
          · cases h
        · cases h
      · cases h
    · cases h
  · split at h
    · split at h
      · simp only [Option.some.injEq,Prod.mk.injEq] at h
        obtain ⟨rfl,-⟩:=h
        exact ⟨ro_nil rfl,ro_nil rfl,fun hq=>(by cases hq)⟩
      · cases h
    · cases h
  · split at h
    · simp only [Option.some.injEq,Prod.mk.injEq] at h
      obtain ⟨rfl,-⟩:=h
      exact ⟨ro_nil rfl,ro_nil rfl,fun _=>⟨rfl,rfl⟩⟩
    · split at h
      · rename_i hv
        simp only [Option.some.injEq,Prod.mk.injEq] at h
        obtain ⟨rfl,-⟩:=h
        exact ⟨evV_ro hv,ro_nil rfl,fun _=>⟨rfl,rfl⟩⟩
      · cases h

theorem evOpM_looks {P:Program} {T:List (Nat × TI)} {lb:List (Nat × Blk)} {ρ:Operand→Option AV} {dst:Option Nat} {quiet:Bool} {orc orc':List Orc} {op:Op} {r:R} (h:evOpM P T lb ρ dst quiet orc op=some (r,orc')) :
    (∀ p,p∈r.ro→look lb p.1=some p.2)∧(∀ p,p∈r.mem→look lb p.1=some p.2)∧(quiet=true→r.mem=[]∧r.mem'=[]):=by
  unfold evOpM at h
  split at h
  · rename_i hm
    simp only [Option.some.injEq,Prod.mk.injEq] at h
    obtain ⟨rfl,-⟩:=h
    exact ⟨(evMapA_ro hm).1,(evMapA_ro hm).2.1,(evMapA_ro hm).2.2.1⟩
  split at h
  · rename_i hm
    simp only [Option.some.injEq,Prod.mk.injEq] at h
    obtain ⟨rfl,-⟩:=h
    exact evMore_ro hm
  split at h
  · simp only [Option.some.injEq,Prod.mk.injEq] at h
    obtain ⟨rfl,-⟩:=h
    exact ⟨ro_nil rfl,ro_nil rfl,fun _=>⟨rfl,rfl⟩⟩
  · exact evOp0_looks h

theorem normR_same {c:NormC} {r r':R} (h:normR c r=some r'):r'.ro=r.ro∧r'.mem=r.mem∧(r.mem'=[]→r'.mem'=[]):=by
  unfold normR at h
  split at h
  · rename_i hm
    have nn:∀ {x:List (Nat × Blk)},r.mem'=[]→x=[]:=fun e=>by rw [hm] at e; cases e
    split at h
    · generalize Nat.beq _ _=bb at h
      cases bb with
      | false=>cases h
      | true =>
        simp only [cond_true,Option.some.injEq] at h
        subst h
        exact ⟨rfl,rfl,nn⟩
    · simp only [Option.some.injEq] at h
      subst h
      exact ⟨rfl,rfl,nn⟩
    · cases h
  · split at h
    · simp only [Option.some.injEq] at h
      subst h
      exact ⟨rfl,rfl,fun _=>rfl⟩
    · cases h
  · cases h

theorem normM_same {c:NormM} {r r':R} (h:normM c r=some r'):r'.ro=r.ro∧r'.mem=r.mem∧(r.mem'=[]→r'.mem'=[]):=by
  unfold normM at h
  split at h
  · rename_i hm
    split at h
    · simp only [Option.some.injEq] at h
      subst h
      exact ⟨rfl,rfl,fun e=>by rw [hm] at e; cases e⟩
    · simp only [Option.some.injEq] at h
      subst h
      exact ⟨rfl,rfl,fun e=>by rw [hm] at e; cases e⟩
    · simp only [Option.some.injEq] at h
      subst h
      exact ⟨rfl,rfl,fun e=>by rw [hm] at e; cases e⟩
    · cases h
  · rename_i hm
    split at h
    · simp only [Option.some.injEq] at h
      subst h
      exact ⟨rfl,rfl,fun e=>by rw [hm] at e; cases e⟩
    · cases h
  · cases h

theorem evOp_looks {P:Program} {T:List (Nat × TI)} {lb:List (Nat × Blk)} {ρ:Operand→Option AV} {dst:Option Nat} {quiet:Bool} {orc orc':List Orc} {op:Op} {r:R} (h:evOp P T lb ρ dst quiet orc op=some (r,orc')) :
    (∀ p,p∈r.ro→look lb p.1=some p.2)∧(∀ p,p∈r.mem→look lb p.1=some p.2)∧(quiet=true→r.mem=[]∧r.mem'=[]):=by
  unfold evOp at h
  split at h
  · rename_i r0 orc1 h0
    obtain ⟨q1,q2,q3⟩:=evOpM_looks h0
    split at h
    · split at h
      · rename_i r' hn
        simp only [Option.some.injEq,Prod.mk.injEq] at h
        obtain ⟨rfl,-⟩:=h
        obtain ⟨e1,e2,e3⟩:=normR_same hn
        rw [e1,e2]
        exact ⟨q1,q2,fun hq=>⟨(q3 hq).1,e3 (q3 hq).2⟩⟩
      · simp only [Option.some.injEq,Prod.mk.injEq] at h
        obtain ⟨rfl,-⟩:=h
        exact ⟨q1,q2,q3⟩
    · split at h
      · rename_i r' hn
        simp only [Option.some.injEq,Prod.mk.injEq] at h
        obtain ⟨rfl,-⟩:=h
        obtain ⟨e1,e2,e3⟩:=normM_same hn
        rw [e1,e2]
        exact ⟨q1,q2,fun hq=>⟨(q3 hq).1,e3 (q3 hq).2⟩⟩
      · simp only [Option.some.injEq,Prod.mk.injEq] at h
        obtain ⟨rfl,-⟩:=h
        exact ⟨q1,q2,q3⟩
    · split at h
      · generalize Nat.beq _ _=bb at h
        cases bb with
        | false =>
          simp only [cond_false,Option.some.injEq,Prod.mk.injEq] at h
          obtain ⟨rfl,-⟩:=h
          exact ⟨q1,q2,q3⟩
        | true =>
          simp only [cond_true,Option.some.injEq,Prod.mk.injEq] at h
          obtain ⟨rfl,-⟩:=h
          exact ⟨q1,q2,q3⟩
      · simp only [Option.some.injEq,Prod.mk.injEq] at h
        obtain ⟨rfl,-⟩:=h
        exact ⟨q1,q2,q3⟩
    · simp only [Option.some.injEq,Prod.mk.injEq] at h
      obtain ⟨rfl,-⟩:=h
      exact ⟨q1,q2,q3⟩
  · cases h

def holdsP (ν:Nat→Bool) (p:List (Nat × Bool)):Prop:=∀ y,y∈p→ν y.1=y.2

theorem subP_holds {ν:Nat→Bool} {q p:List (Nat × Bool)} (h:subP q p=true) (hp:holdsP ν p):holdsP ν q:=by
  intro y hy
  simp only [subP,List.all_eq_true,List.any_eq_true,Bool.and_eq_true,beq_iff_eq] at h
  obtain ⟨z,hz,h1,h2⟩:=h y hy
  have:=hp z hz
  rw [Nat.eq_of_beq_eq_true h1,h2]
  exact this

section
variable {C : Cx} {A : M} {a : Act} {w : World} {S : Nat → Prop} {μ : Mu} {ν : Nat → Bool}

theorem rhoN_rel (hgl:GlobOK w S) {need:List (Nat × AV)} {p:List (Nat × Bool)} (hneed:∀ q,q∈need→Rel w S μ ν q.2 (a.tmps.getD q.1 undef)) (hp:holdsP ν p) (x:Operand) (y:AV) (h:rhoN need p x=some y):Rel w S μ ν y (a.eval x):=by
  cases x with
  | tmp t =>
    simp only [rhoN] at h
    cases hl:look need t with
    | none=>rw [hl] at h; cases h
    | some z =>
      rw [hl] at h
      have hr:=hneed (t,z) (look_mem hl)
      show Rel w S μ ν y (a.tmps.getD t undef)
      simp only at h hr
      cases z with
      | g q b =>
        simp only [res1] at h
        cases hs:subP q p with
        | false=>rw [hs] at h; cases h
        | true =>
          rw [hs] at h
          simp only [cond_true,Option.some.injEq] at h
          subst h
          cases hr with
          | g h1 _=>exact h1 (subP_holds hs hp)
      | _=>simp only [res1,Option.some.injEq] at h; subst h; exact hr
  | const v=>exact ofConst_rel h
  | func f =>
    simp only [rhoN,Option.some.injEq] at h
    subst h
    exact .fn rfl (fun i hi=>absurd hi (by simp))
  | global g =>
    simp only [rhoN] at h
    cases hl:look (Globs.gl) g with
    | none=>rw [hl] at h; cases h
    | some cs =>
      rw [hl] at h
      simp only [Option.some.injEq] at h
      subst h
      obtain ⟨vals,h1,h2⟩:=hgl.2 (g,cs) (look_mem hl)
      exact .ref vals h1 h2

theorem needOf_mem {sl:List (Nat × AV)}:∀ {ts:List Nat} {q:Nat × AV},q∈needOf sl ts→q.2=St.get sl q.1∧q.1∈ts
  | t :: r,q,h=>by
    rcases List.mem_cons.1 h with rfl | h'
    · exact ⟨rfl,List.mem_cons_self⟩
    · obtain ⟨h1,h2⟩:=needOf_mem h'
      exact ⟨h1,List.mem_cons_of_mem _ h2⟩

theorem look_need {sl:List (Nat × AV)}:∀ {ts:List Nat} {s:Nat},s∈ts→(s,St.get sl s)∈needOf sl ts
  | t :: r,s,h=>by
    rcases List.mem_cons.1 h with rfl | h'
    · exact List.mem_cons_self
    · exact List.mem_cons_of_mem _ (look_need h')

theorem gsOf_mem {gl:List (Nat × Bool)}:∀ {ss:List Nat} {q:Nat × Bool},q∈gsOf gl ss→look gl q.1=some q.2
  | s :: r,q,h=>by
    simp only [gsOf] at h
    cases hl:look gl s with
    | none=>rw [hl] at h; exact gsOf_mem h
    | some e =>
      rw [hl] at h
      rcases List.mem_cons.1 h with rfl | h'
      · exact hl
      · exact gsOf_mem h'

theorem pathCond_of {gl:List (Nat × Bool)} {ob:Ob}:∀ {p:List (Nat × Bool)},(pathCond gl p ob).den→(∀ s e,s∈p.map (·.1)→look gl s=some e→ν s=e)→holdsP ν p→ob.den
  | [],h,_,_=>h
  | (s,w) :: r,h,hg,hp=>by
    simp only [pathCond] at h
    have hr:∀ s e,s∈r.map (·.1)→look gl s=some e→ν s=e:=fun s e hs=>hg s e (by simp only [List.map_cons,List.mem_cons]; exact .inr hs)
    have hp':holdsP ν r:=fun y hy=>hp y (List.mem_cons_of_mem _ hy)
    cases hl:look gl s with
    | none=>rw [hl] at h; exact pathCond_of h hr hp'
    | some e =>
      rw [hl] at h
      exact pathCond_of (Ob.imp_den h (by rw [← hg s e (by simp) hl]; exact hp (s,w) List.mem_cons_self)) hr hp'

theorem regG_spec {gl gl':List (Nat × Bool)} {s:Nat} {e:Bool} {ob:Ob} (h:regG gl s e=(gl',ob)) (hob:ob.den):look gl' s=some e∧∀ t x,look gl t=some x→look gl' t=some x:=by
  unfold regG at h
  cases hl:look gl s with
  | some e' =>
    rw [hl] at h
    simp only [Prod.mk.injEq] at h
    obtain ⟨rfl,rfl⟩:=h
    simp only [Ob.den] at hob
    exact ⟨by rw [hl,hob],fun t x h=>h⟩
  | none =>
    rw [hl] at h
    simp only [Prod.mk.injEq] at h
    obtain ⟨rfl,rfl⟩:=h
    refine ⟨by rw [look_append,hl]; simp [look],fun t x ht=>by rw [look_append,ht]⟩

theorem yield_at {ops:Array Oper} {j s:Nat} (hj:guardSlot ops j=some s) (hlt:s < a.tmps.size):yielded ops a.tmps j=match a.tmps.getD s undef with | .bool b=>some b | _=>none:=by
  unfold guardSlot at hj
  cases ho:ops[j]? with
  | none=>rw [ho] at hj; cases hj
  | some o =>
    rw [ho] at hj
    simp only at hj
    unfold yielded
    rw [ho]
    simp only [Option.bind_some,hj,Array.getElem?_eq_getElem hlt]
    have e:a.tmps.getD s undef=a.tmps[s]:=by simp [Array.getD,hlt]
    rw [e]
    cases a.tmps[s] <;> rfl


theorem rel_wrap {p:List (Nat × Bool)} {v:AV} {x:Value} (hp:holdsP ν p) (h:Rel w S μ ν v x):Rel w S μ ν (wrapG p v) x:=by
  cases p with
  | nil=>exact h
  | cons y r=>exact .g (fun _=>h) (fun hn=>absurd hp hn)

/-- the same transition,with another name for its result -/
theorem Sim.rename {τ τ':Tr} {a':Act} {w':World} {S':Nat→Prop} {μ':Mu} (h:Sim C (τ.apply A) a' w' S' μ' ν) (hd:τ'.dst=τ.dst) (hm:τ'.mem=τ.mem) (hm':τ'.mem'=τ.mem') (hv:∀ x,Rel w' S' μ' ν τ.v x→Rel w' S' μ' ν τ'.v x):Sim C (τ'.apply A) a' w' S' μ' ν:=by
  have e:(τ'.apply A).lb=(τ.apply A).lb:=by simp only [Tr.apply,hm,hm']
  refine ⟨h.tmps,h.defers,fun t=>?_,by rw [e]; exact h.mem,by rw [e]; exact h.inj,by rw [e]; exact h.own,h.stable,h.fresh,h.bound,h.kept⟩
  have h0:=h.slots t
  simp only [Tr.apply,hd] at h0 ⊢
  split
  · rename_i c
    simp only [c,if_true] at h0
    exact hv _ h0
  · rename_i c
    simp only [c,if_false] at h0
    exact h0

theorem stepOp_sound {T:List (Nat × TI)} (hT:TOk C.P T) {ops:Array Oper} {st:St} {gl gl':List (Nat × Bool)} {orc orc':List Orc} {o:Oper} {τ:Tr} {ob:Ob}
    (h:stepOp C.P T C.nt ops st gl orc o=some (τ,gl',orc',ob)) (hob:ob.den) (hν:∀ s e,look gl' s=some e→ν s=e) :
    OpSound C ν ops o τ∧(∀ p,p∈τ.gs→ν p.1=p.2)∧En τ st.toM∧∀ t x,look gl t=some x→look gl' t=some x:=by
  unfold stepOp at h
  split at h
  case h_2=>cases h
  rename_i p ss gl1 ob1 hpath hdst
  have hd:∀ t,o.dst=some t→t < C.nt:=fun t ht=>by
    rw [ht] at hdst
    simp only at hdst
    exact Nat.lt_of_succ_le (Nat.le_of_ble_eq_true hdst)
  -- the path
  have path:ob1.den→(∀ s e,look gl1 s=some e→ν s=e)→(∀ t x,look gl t=some x→look gl1 t=some x) ∧
      ∀ (A:M) (a:Act) (w:World) (S:Nat→Prop) (μ:Mu),Sim C A a w S μ ν→(∀ s,s∈ss→A.sl s=St.get st.sl s)→(Region.wanted o (yielded ops a.tmps)=true→holdsP ν p)∧(Region.wanted o (yielded ops a.tmps)=false→p≠[]∧¬ holdsP ν p):=by
    intro hob1 hν1
    unfold pathOf at hpath
    split at hpath
    · rename_i hg
      simp only [Option.some.injEq,Prod.mk.injEq] at hpath
      obtain ⟨rfl,rfl,rfl,rfl⟩:=hpath
      refine ⟨fun _ _ h=>h,fun A a w S μ hs _=>⟨fun _ y hy=>(by cases hy),fun hw=>?_⟩⟩
      simp [Region.wanted,hg] at hw
    · rename_i j want hg
      split at hpath
      · rename_i s hgs
        cases hnt:Nat.ble (s+1) C.nt with
        | false=>rw [hnt] at hpath; cases hpath
        | true =>
        rw [hnt] at hpath
        simp only [cond_true] at hpath
        split at hpath
        · rename_i q e hbo
          generalize hreg:regG gl s e=rg at hpath
          obtain ⟨gl2,ob2⟩:=rg
          simp only [Option.some.injEq,Prod.mk.injEq] at hpath
          obtain ⟨rfl,rfl,rfl,rfl⟩:=hpath
          obtain ⟨g1,g2⟩:=regG_spec hreg hob1
          refine ⟨g2,fun A a w S μ hs hss=>?_⟩
          have hνs:=hν1 s e g1
          have hsA:=hss s (by simp)
          have hr:=hs.slots s
          rw [hsA] at hr
          have hlt:s < a.tmps.size:=by rw [hs.tmps]; exact Nat.lt_of_succ_le (Nat.le_of_ble_eq_true hnt)
          have hy:=yield_at (a:=a) hgs hlt
          have hwant:Region.wanted o (yielded ops a.tmps)=((match a.tmps.getD s undef with | .bool b=>some b | _=>none) == some want):=by
            unfold Region.wanted
            rw [hg]
            simp only [hy]
          rw [hwant]
          unfold boolOf at hbo
          split at hbo
          · rename_i hget
            simp only [Option.some.injEq,Prod.mk.injEq] at hbo
            obtain ⟨rfl,rfl⟩:=hbo
            rw [hget] at hr
            have:=rel_bool hr
            rw [this]
            refine ⟨fun hw y hy=>?_,fun hw=>⟨by simp,fun hh=>?_⟩⟩
            · simp only [List.nil_append,List.mem_singleton] at hy
              subst hy
              simp only [beq_iff_eq,Option.some.injEq] at hw
              rw [hνs,hw]
            · have:=hh (s,want) (by simp)
              rw [hνs] at this
              simp [this] at hw
          · rename_i hget
            simp only [Option.some.injEq,Prod.mk.injEq] at hbo
            obtain ⟨rfl,rfl⟩:=hbo
            rw [hget] at hr
            generalize a.tmps.getD s undef=xv at hr ⊢
            cases hr with
            | g h1 h0 =>
              rename_i q0 e0
              by_cases hq:holdsP ν q0
              · have:=rel_bool (h1 hq)
                rw [this]
                refine ⟨fun hw y hy=>?_,fun hw=>⟨by simp,fun hh=>?_⟩⟩
                · rcases List.mem_append.1 hy with hy | hy
                  · exact hq y hy
                  · simp only [List.mem_singleton] at hy
                    subst hy
                    simp only [beq_iff_eq,Option.some.injEq] at hw
                    rw [hνs,hw]
                · have:=hh (s,want) (by simp)
                  rw [hνs] at this
                  simp [this] at hw
              · have:=h0 hq
                rw [this]
                refine ⟨fun hw=>?_,fun _=>⟨by simp,fun hh=>hq (fun y hy=>hh y (List.mem_append.2 (.inl hy)))⟩⟩
                simp [undef] at hw
          · cases hbo
        · cases hpath
      · cases hpath
  have enN:∀ (ts:List Nat) (τ:Tr),τ.need=needOf st.sl ts→(∀ p,p∈τ.ro→st.toM.lb p.1=some p.2)→(∀ p,p∈τ.mem→st.toM.lb p.1=some p.2)→En τ st.toM:=fun ts τ hn h1 h2 =>
    ⟨fun q hq=>by rw [hn] at hq; exact (needOf_mem hq).1.symm,h1,h2⟩
  split at h
  · -- pick
    rename_i c x y hop
    split at h
    · rename_i s e ex ey hpick
      generalize hreg:regG gl1 s e=rg at h
      obtain ⟨gl2,ob2⟩:=rg
      simp only [Option.some.injEq,Prod.mk.injEq] at h
      obtain ⟨rfl,rfl,rfl,rfl⟩:=h
      obtain ⟨hob1,hob2⟩:=Ob.and_den hob
      obtain ⟨r1,r2⟩:=regG_spec hreg hob2
      obtain ⟨mono1,hpth⟩:=path hob1 (fun s' e' hl=>hν s' e' (r2 s' e' hl))
      refine ⟨?_,fun q hq=>hν _ _ (gsOf_mem hq),enN _ _ rfl (fun p hp=>by cases hp) (fun p hp=>by cases hp),fun t x h=>r2 t x (mono1 t x h)⟩
      intro A a w S μ hs hen _ _
      have hA:∀ t,t∈ss++slotsOf [c,x,y]→A.sl t=St.get st.sl t:=fun t ht=>hen.need (t,St.get st.sl t) (look_need ht)
      obtain ⟨p1,p0⟩:=hpth A a w S μ hs (fun s' hs'=>hA s' (List.mem_append.2 (.inl hs')))
      have hneed:∀ q,q∈needOf st.sl (ss++slotsOf [c,x,y])→Rel w S μ ν q.2 (a.tmps.getD q.1 undef):=fun q hq=>by
        have:=hs.slots q.1
        rw [hen.need q hq] at this
        exact this
      split
      · rename_i hw
        have hp:=p1 hw
        have hνs:ν s=e:=hν s e r1
        unfold evPick at hpick
        cases c with
        | tmp s' =>
          simp only at hpick
          split at hpick
          · rename_i e' ex' ey' h1 h2 h3
            simp only [Option.some.injEq,Prod.mk.injEq] at hpick
            obtain ⟨rfl,rfl,rfl,rfl⟩:=hpick
            have hc:=rel_bool (rhoN_rel hs.glob hneed hp _ _ h1)
            refine core_value (x:=.bool (bif e' then ex' else ey')) hs hd ?_ (rel_wrap hp (rel_v rfl)) rfl rfl rfl
            simp only [execOp,hop,hc,asBool,Sem.run_bind,Sem.run_pure,Result.andThen_ok]
            cases e' with
            | true =>
              have hpx:holdsP ν ((s',true) :: p):=fun y hy=>by
                rcases List.mem_cons.1 hy with rfl | hy
                · exact hνs
                · exact hp y hy
              have hx:=rel_bool (rhoN_rel hs.glob hneed hpx _ _ h2)
              simp [hx]
            | false =>
              have hpy:holdsP ν ((s',false) :: p):=fun y hy=>by
                rcases List.mem_cons.1 hy with rfl | hy
                · exact hνs
                · exact hp y hy
              have hx:=rel_bool (rhoN_rel hs.glob hneed hpy _ _ h3)
              simp [hx]
          · cases hpick
        | const=>cases hpick
        | global=>cases hpick
        | func=>cases hpick
      · rename_i hw
        obtain ⟨hne,hnp⟩:=p0 (by simpa using hw)
        refine ⟨S,μ,?_⟩
        have hr:Rel w S μ ν (wrapG p (.d (.v (.bool (bif e then ex else ey))))) undef:=by
          cases p with
          | nil=>exact absurd rfl hne
          | cons y r=>exact .g (fun hh=>absurd hh hnp) (fun _=>rfl)
        have h5:=hs.put (dst:=o.dst) hd hr
        have e0:(Tr.mk (needOf st.sl (ss++slotsOf [c,x,y])) o.dst (wrapG p (.d (.v (.bool (bif e then ex else ey))))) [] [] [] (gsOf gl2 (s :: p.map (·.1)))).apply A=A.putO o.dst (wrapG p (.d (.v (.bool (bif e then ex else ey))))):=by
          unfold Tr.apply M.putO M.put
          cases hdd:o.dst with
          | none=>simp [look]
          | some d =>
            simp only [look,List.map_nil,List.not_mem_nil,if_false,Option.some.injEq]
            congr 1
            funext t
            by_cases cc:d=t
            · simp [cc]
            · have:¬ t=d:=fun e=>cc e.symm
              simp [cc,this]
        rw [e0]
        exact h5
    · cases h
  · rename_i op0 hnp
    split at h
    · rename_i r orc1 hev
      simp only [Option.some.injEq,Prod.mk.injEq] at h
      obtain ⟨rfl,rfl,rfl,rfl⟩:=h
      obtain ⟨hob1,hob2⟩:=Ob.and_den hob
      obtain ⟨mono1,hpth⟩:=path hob1 hν
      have hlook:(∀ p,p∈r.ro→look st.lb p.1=some p.2)∧(∀ p,p∈r.mem→look st.lb p.1=some p.2)∧(p≠[]→r.mem=[]∧r.mem'=[]):=by
        obtain ⟨q1,q2,q3⟩:=evOp_looks hev
        exact ⟨q1,q2,fun hne=>q3 (by cases p with | nil=>exact absurd rfl hne | cons _ _=>rfl)⟩
      refine ⟨?_,fun q hq=>hν _ _ (gsOf_mem hq),enN _ _ rfl hlook.1 hlook.2.1,mono1⟩
      intro A a w S μ hs hen hfr _
      have hA:∀ t,t∈ss++slotsOf o.op.operands.toList→A.sl t=St.get st.sl t:=fun t ht=>hen.need (t,St.get st.sl t) (look_need ht)
      obtain ⟨p1,p0⟩:=hpth A a w S μ hs (fun s' hs'=>hA s' (List.mem_append.2 (.inl hs')))
      have hneed:∀ q,q∈needOf st.sl (ss++slotsOf o.op.operands.toList)→Rel w S μ ν q.2 (a.tmps.getD q.1 undef):=fun q hq=>by
        have:=hs.slots q.1
        rw [hen.need q hq] at this
        exact this
      split
      · rename_i hw
        have hp:=p1 hw
        have hrob:r.ob.den:=pathCond_of hob2 (fun s e _ hl=>hν s e hl) hp
        have:=evOp_sound hT hs (fun x y hxy=>rhoN_rel hs.glob hneed hp x y hxy) hd hev hen.ro hen.mem hrob (fun κ hκ=>hfr κ hκ) (needOf st.sl (ss++slotsOf o.op.operands.toList)) (gsOf gl1 (p.map (·.1)))
        refine Oper.wp_mono (fun a' w' hh=>?_) this
        obtain ⟨S',μ',hsim⟩:=hh
        exact ⟨S',μ',hsim.rename rfl rfl rfl (fun x hx=>rel_wrap hp hx)⟩
      · rename_i hw
        obtain ⟨hne,hnp'⟩:=p0 (by simpa using hw)
        obtain ⟨hm1,hm2⟩:=hlook.2.2 hne
        refine ⟨S,μ,?_⟩
        have hr:Rel w S μ ν (wrapG p r.v) undef:=by
          cases p with
          | nil=>exact absurd rfl hne
          | cons y r=>exact .g (fun hh=>absurd hh hnp') (fun _=>rfl)
        have h5:=hs.put (dst:=o.dst) hd hr
        have e0:(Tr.mk (needOf st.sl (ss++slotsOf o.op.operands.toList)) o.dst (wrapG p r.v) r.ro r.mem r.mem' (gsOf gl1 (p.map (·.1)))).apply A=A.putO o.dst (wrapG p r.v):=by
          unfold Tr.apply M.putO M.put
          simp only [hm1,hm2]
          cases hdd:o.dst with
          | none=>simp [look]
          | some d =>
            simp only [look,List.map_nil,List.not_mem_nil,if_false,Option.some.injEq]
            congr 1
            funext t
            by_cases cc:d=t
            · simp [cc]
            · have:¬ t=d:=fun e=>cc e.symm
              simp [cc,this]
        rw [e0]
        exact h5
    · cases h

end

end Go.Av
