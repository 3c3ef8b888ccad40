/- Calls by contract. -/
import Derived.Test.YtihmmpaalpghbaaGreatDoorLa
import Derived.Lib.ConvBytes
set_option linter.unusedSimpArgs false
set_option linter.unusedVariables false
set_option linter.unusedSectionVars false
namespace Go.Av
open Go
variable [oa]
def dX (P:Program) (f:FuncId):Bool :=
 match P.funcs[f]? with
 | some fn=>fn.name != "runtime.NumGoroutine"&&fn.body.isSome
 | none=>false
def Handed (cj:List (Nat × aZ)) (μ:Mu) (g:Nat):Prop:=∃ κ b c,look cj κ=some b∧μ κ=some (some (g,c))
def SH (cj:List (Nat × aZ)) (μ:Mu):Prop:=∀ κ κ' b b' g c c',look cj κ=some b→look cj κ'=some b'→μ κ=some (some (g,c))→μ κ'=some (some (g,c'))→κ=κ'
structure NK (w:World) (S:Nat→Prop) (T:Nat→Prop) (res:AV) (cj:List (Nat × aZ)) (v:Value) (S':Nat→Prop) (μ':Mu) (w':World):Prop where
 res:∀ ν,Rel w' S' μ' ν res v
 mem:∀ κ b,look cj κ=some b→ew w' S' μ' b (μ' κ)
 inj:SH cj μ'
 own:∀ κ b g c,look cj κ=some b→μ' κ=some (some (g,c))→w.heap.size≤g∨T g
 sub:∀ b,S b→S' b
 new:∀ b,S' b→S b∨w.heap.size≤b∨T b
 bound:∀ b,S' b→b < w'.heap.size
 kept:Kept w w' T
theorem NK.K9 {w w':World} {S T T' S':Nat→Prop} {res:AV} {cj:List (Nat × aZ)} {v:Value} {μ':Mu} (h:NK w S T res cj v S' μ' w') (hT:∀ b,T b→T' b):NK w S T' res cj v S' μ' w' :=
 ⟨h.res,h.mem,h.inj,fun κ b g c h1 h2=>(h.own κ b g c h1 h2).imp id (hT g),h.sub,fun b hb=>(h.new b hb).imp id (Or.imp id (hT b)),h.bound,h.kept.xi hT⟩
def kE (P:Program) (f:FuncId) (args:List AV) (cj:List (Nat × aZ)) (res:AV) (eH:List (Nat × aZ)):Prop :=
 dX P f=true∧∀ (w:World) (S:Nat→Prop) (μ:Mu) (vs:Array Value),(∀ b,S b→b < w.heap.size)→iA w S→(∀ ν,dq w S μ ν args vs.toList)→(∀ κ b,look cj κ=some b→ew w S μ b (μ κ))→SH cj μ →
  Calls P f vs w fun e w'=>∃ v S' μ',e=.returned v∧NK w S (Handed cj μ) res eH v S' μ' w'
theorem tQ {P:Program} {w:World} {f:FuncId} (h:dX P f=true) (args:Array Value):(callFunc f args).run P w=.ok (.enter f args) w:=by
 unfold dX at h
 cases hf:P.funcs[f]? with
 | none=>rw [hf] at h; cases h
 | some fn =>
  rw [hf] at h
  simp only [Bool.and_eq_true,bne_iff_ne,ne_eq] at h
  have h2:¬ fn.body=none:=by cases hb:fn.body <;> simp_all
  simp [callFunc,hf,h.1,h2]
section
variable {C : Cx} {A : M} {a : Act} {w : World} {S : Nat → Prop} {μ : Mu} {ν : Nat → Bool}
def flat:D→Bool
 | .v _=>true
 | .agg cs=>D1 cs
 | .sl _ _=>false
 | .mp _ _ _=>false
where D1:List D→Bool
 | []=>true
 | .v _ :: r=>D1 r
 | _ :: _=>false
theorem D3:∀ (l:List D) (i:Nat),flat.D1 l=true→i < l.length→∃ x,l.getD i default=.v x
 | [],i,_,hi=>absurd hi (by simp)
 | .v x :: r,0,_,_=>⟨x,rfl⟩
 | .v x :: r,i+1,h,hi=>by simpa using D3 r i (by simpa [flat.D1] using h) (by simpa using hi)
 | .agg _ :: r,_,h,_=>by simp [flat.D1] at h
 | .sl _ _ :: r,_,h,_=>by simp [flat.D1] at h
 | .mp _ _ _ :: r,_,h,_=>by simp [flat.D1] at h
theorem Pw {d:D} (h:flat d=true) {w':World} {S':Nat→Prop} {x:Value} (hr:Rd w S d x):Rd w' S' d x:=by
 cases hr with
 | v _ hs=>exact .v _ hs
 | agg cs vs hl hh =>
  refine .agg cs vs hl (fun i hi=>?_)
  obtain ⟨y,hy⟩:=D3 cs i (by simpa [flat] using h) hi
  have:=hh i hi
  rw [hy] at this ⊢
  cases this with
  | v _ hs=>exact .v _ hs
 | nil=>simp [flat] at h
 | sl=>simp [flat] at h
 | mp=>simp [flat] at h
def eZ:AV→Bool
 | .d x=>flat x
 | .il l=>jF l
 | _=>false
where jF:List AV→Bool
 | []=>true
 | .d x :: r=>flat x&&jF r
 | _ :: _=>false
theorem BP:∀ (l:List AV) (i:Nat),eZ.jF l=true→i < l.length→∃ x,l.getD i default=.d x∧flat x=true
 | [],i,_,hi=>absurd hi (by simp)
 | .d x :: r,0,h,_=>⟨x,rfl,by simp only [eZ.jF,Bool.and_eq_true] at h; exact h.1⟩
 | .d x :: r,i+1,h,hi=>by
  simp only [eZ.jF,Bool.and_eq_true] at h
  simpa using BP r i h.2 (by simpa using hi)
 | .any :: r,_,h,_=>by simp [eZ.jF] at h
 | .own _ _ :: r,_,h,_=>by simp [eZ.jF] at h
 | .ptr _ _ :: r,_,h,_=>by simp [eZ.jF] at h
 | .qQ _ _ _ _ :: r,_,h,_=>by simp [eZ.jF] at h
 | .ref _ :: r,_,h,_=>by simp [eZ.jF] at h
 | .uH _ _ :: r,_,h,_=>by simp [eZ.jF] at h
 | .kD _ :: r,_,h,_=>by simp [eZ.jF] at h
 | .uO _ _ :: r,_,h,_=>by simp [eZ.jF] at h
 | .fn _ _ :: r,_,h,_=>by simp [eZ.jF] at h
 | .il _ :: r,_,h,_=>by simp [eZ.jF] at h
 | .ag _ :: r,_,h,_=>by simp [eZ.jF] at h
 | .g _ _ :: r,_,h,_=>by simp [eZ.jF] at h
theorem QF {x:AV} (h:eZ x=true) {w':World} {S':Nat→Prop} {μ':Mu} {ν':Nat→Bool} {v:Value} (hr:Rel w S μ ν x v):Rel w' S' μ' ν' x v:=by
 cases hr with
 | d hd=>exact .d (Pw (by simpa [eZ] using h) hd)
 | il hl hh =>
  refine .il hl (fun i hi=>?_)
  obtain ⟨y,hy,hf⟩:=BP _ i (by simpa [eZ] using h) hi
  have:=hh i hi
  rw [hy] at this ⊢
  exact .d (Pw hf (eE.1 this))
 | any=>simp [eZ] at h
 | cR=>simp [eZ] at h
 | own=>simp [eZ] at h
 | ptr=>simp [eZ] at h
 | qQ=>simp [eZ] at h
 | ref=>simp [eZ] at h
 | uH=>simp [eZ] at h
 | kD=>simp [eZ] at h
 | uO=>simp [eZ] at h
 | fn=>simp [eZ] at h
 | ag=>simp [eZ] at h
 | g=>simp [eZ] at h
abbrev BR (α:Type):=Option (α × List (Nat × aZ) × Ob)
def IM (lb:List (Nat × aZ)):AV→BR D
 | .d x=>some (x,[],.tt)
 | .uH n f=>some (.sl n f,[],.tt)
 | .own κ n=>(match look lb κ with | some (.row e k m f)=>some (.sl n f,[(κ,.row e k m f)],.ne n m) | _=>none)
 | .kD κ=>(match look lb κ with | some (.mp n f)=>some (.mp n (fun i=>(f i).1) (fun i=>(f i).2),[(κ,.mp n f)],.tt) | _=>none)
 | _=>none
def xk (lb:List (Nat × aZ)):List AV→BR (List D)
 | []=>some ([],[],.tt)
 | x :: r=>(match IM lb x,xk lb r with | some (y,ro,ob),some (l,HG,xj)=>some (y :: l,ro++HG,ob.and xj) | _,_=>none)
def vd (lb:List (Nat × aZ)):AV→BR AV
 | .ref cs=>some (.ref cs,[],.tt)
 | .ptr κ off=>(match look lb κ with
  | some (.box cs)=>(match xk lb cs with | some (ds,ro,ob)=>some (.ref (ds.drop off),(κ,.box cs) :: ro,ob) | none=>none)
  | _=>none)
 | .ag l=>(match xk lb l with | some (ds,ro,ob)=>some (.d (.agg ds),ro,ob) | none=>none)
 | .kD κ=>(match look lb κ with | some (.mp n f)=>some (.uO n f,[(κ,.mp n f)],.tt) | some (.mx _)=>some (.any,[],.tt) | some (.tx _)=>some (.any,[],.tt) | _=>none)
 | .uO n f=>some (.uO n f,[],.tt)
 | x=>(match IM lb x with | some (y,ro,ob)=>some (.d y,ro,ob) | none=>none)
def tR (lb:List (Nat × aZ)):List AV→BR (List AV)
 | []=>some ([],[],.tt)
 | x :: r=>(match vd lb x,tR lb r with | some (y,ro,ob),some (l,HG,xj)=>some (y :: l,ro++HG,ob.and xj) | _,_=>none)
def uR (lb:List (Nat × aZ)):AV→BR AV
 | .fn f cF=>(match tR lb cF with | some (l,ro,ob)=>some (.fn f l,ro,ob) | none=>none)
 | x=>vd lb x
def sq (lb:List (Nat × aZ)):List AV→BR (List AV)
 | []=>some ([],[],.tt)
 | x :: r=>(match uR lb x,sq lb r with | some (y,ro,ob),some (l,HG,xj)=>some (y :: l,ro++HG,ob.and xj) | _,_=>none)
theorem Px (hs:cG C A a w S μ ν) {S':Nat→Prop} (hS:∀ b,S b→S' b) (hO:∀ κ b g c,A.lb κ=some b→μ κ=some (some (g,c))→S' g) {lb:List (Nat × aZ)} {x:AV} {y:D} {ro:List (Nat × aZ)} {ob:Ob} (h:IM lb x=some (y,ro,ob)) (iq:∀ p,p∈ro→A.lb p.1=some p.2) (bz:ob.den) {v:Value} (hr:Rel w S μ ν x v):Rd w S' y v:=by
 unfold IM at h
 split at h
 ·simp only [Option.some.injEq,Prod.mk.injEq] at h
  obtain ⟨rfl,-,-⟩:=h
  exact (eE.1 hr).mono hS (fun _ _=>rfl)
 ·simp only [Option.some.injEq,Prod.mk.injEq] at h
  obtain ⟨rfl,-,-⟩:=h
  cases hr with
  | uH hd=>exact hd.mono hS (fun _ _=>rfl)
 ·rename_i κ n
  split at h
  ·rename_i e k m f hl
   simp only [Option.some.injEq,Prod.mk.injEq] at h
   obtain ⟨rfl,rfl,rfl⟩:=h
   simp only [Ob.den] at bz
   have hm:=hs.mem κ _ (iq (κ,.row e k m f) (by simp))
   cases hr with
   | @cR _ ad =>
    cases ad with
    | none=>exact .nil f
    | some ad=>exact .sl 0 f ad 0 0 (fun _ _=>undef) (Nat.le_refl _) (by simp [maxLen]) (.inl rfl) (fun i hi=>absurd hi (by omega)) (fun i j hi=>absurd hi (by omega)) (fun i j hi=>absurd hi (by omega))
   | @own _ _ g cap hμ =>
    rw [hμ] at hm
    have cI:=hO κ _ g cap (iq (κ,.row e k m f) (by simp)) hμ
    obtain ⟨cur,hg,_,dK,hn,hc,kJ⟩:=hm.at
    refine .sl n f ⟨g,0,none⟩ cap k (fun i j=>(cur[i * k+j]?).getD undef) (by omega) hc (.inr rfl) (fun i hi=>(kJ i (by omega)).1) (fun i j hi hj=>⟨cI,?_⟩) (fun i j hi hj=>?_)
    ·obtain ⟨u,hu,_⟩:=(kJ i (by omega)).2 j hj
     rw [Nat.zero_add,kN w g _ cur e _ hg,hu]
     rfl
    ·obtain ⟨u,hu,NI⟩:=(kJ i (by omega)).2 j hj
     rw [hu]
     exact NI.mono hS (fun _ _=>rfl)
  ·cases h
 ·rename_i κ
  split at h
  ·rename_i n f hl
   simp only [Option.some.injEq,Prod.mk.injEq] at h
   obtain ⟨rfl,rfl,rfl⟩:=h
   have hm:=hs.mem κ _ (iq (κ,.mp n f) (by simp))
   cases hr with
   | @kD _ g cap hμ =>
    rw [hμ] at hm
    have cI:=hO κ _ g cap (iq (κ,.mp n f) (by simp)) hμ
    obtain ⟨cur,hg,_,dK,aJ⟩:=hm.at
    refine .mp n _ _ g cur (fun i=>((cur[i]?).map (·.val)).getD undef) cI hg dK (fun i hi=>?_) (fun i hi=>?_)
    ·obtain ⟨e,q1,q2,q3,q4,q5⟩:=aJ i hi
     exact ⟨e,q1,q2,q3,q4,by rw [q1]; rfl⟩
    ·obtain ⟨e,q1,q2,q3,q4,q5⟩:=aJ i hi
     rw [q1]
     exact q5.mono hS (fun _ _=>rfl)
  ·cases h
 ·cases h
theorem D4 (hs:cG C A a w S μ ν) {S':Nat→Prop} (hS:∀ b,S b→S' b) (hO:∀ κ b g c,A.lb κ=some b→μ κ=some (some (g,c))→S' g) {lb:List (Nat × aZ)}:∀ {xs:List AV} {ys:List D} {ro:List (Nat × aZ)} {ob:Ob},xk lb xs=some (ys,ro,ob)→(∀ p,p∈ro→A.lb p.1=some p.2)→ob.den→∀ {vs:List Value},dq w S μ ν xs vs →
  ys.length=xs.length∧∀ i,i < ys.length→Rd w S' (ys.getD i default) (vs.getD i undef)
 | [],ys,ro,ob,h,_,_,vs,_=>by
  simp only [xk,Option.some.injEq,Prod.mk.injEq] at h
  obtain ⟨rfl,-,-⟩:=h
  exact ⟨rfl,fun i hi=>absurd hi (by simp)⟩
 | x :: r,ys,ro,ob,h,iq,bz,vs,hr=>by
  simp only [xk] at h
  cases h1:IM lb x with
  | none=>rw [h1] at h; cases h
  | some p =>
   obtain ⟨y,ZY,we⟩:=p
   cases h2:xk lb r with
   | none=>rw [h1,h2] at h; cases h
   | some q =>
    obtain ⟨l,ro2,AA⟩:=q
    rw [h1,h2] at h
    simp only [Option.some.injEq,Prod.mk.injEq] at h
    obtain ⟨rfl,rfl,rfl⟩:=h
    have hr0:=hr.2 0 (by simp)
    match vs,hr with
    | [],hr=>have:=hr.1; simp at this
    | v :: vs,hr =>
     have ht:dq w S μ ν r vs:=⟨by simpa using hr.1,fun i hi=>by simpa using hr.2 (i+1) (by simpa using hi)⟩
     obtain ⟨i1,i2⟩:=D4 hs hS hO h2 (fun p hp=>iq p (List.mem_append.2 (.inr hp))) (Ob.bR bz).2 ht
     refine ⟨by simp [i1],fun i hi=>?_⟩
     cases i with
     | zero=>simpa using Px hs hS hO h1 (fun p hp=>iq p (List.mem_append.2 (.inl hp))) (Ob.bR bz).1 (by simpa using hr.2 0 (by simp))
     | succ i=>simpa using i2 i (by simpa using hi)
theorem fF (hs:cG C A a w S μ ν) {S':Nat→Prop} (hS:∀ b,S b→S' b) (hO:∀ κ b g c,A.lb κ=some b→μ κ=some (some (g,c))→S' g) {lb:List (Nat × aZ)} {x y:AV} {ro:List (Nat × aZ)} {ob:Ob} (h:vd lb x=some (y,ro,ob)) (iq:∀ p,p∈ro→A.lb p.1=some p.2) (bz:ob.den) {v:Value} (hr:Rel w S μ ν x v) (μ':Mu) (ν':Nat→Bool):Rel w S' μ' ν' y v:=by
 have other:(match IM lb x with | some (y,ro,ob)=>some (AV.d y,ro,ob) | none=>none)=some (y,ro,ob)→Rel w S' μ' ν' y v:=fun h=>by
  cases h1:IM lb x with
  | none=>rw [h1] at h; cases h
  | some p =>
   obtain ⟨y',ZY,we⟩:=p
   rw [h1] at h
   simp only [Option.some.injEq,Prod.mk.injEq] at h
   obtain ⟨rfl,rfl,rfl⟩:=h
   exact .d (Px hs hS hO h1 iq bz hr)
 cases x with
 | ref cs =>
  simp only [vd,Option.some.injEq,Prod.mk.injEq] at h
  obtain ⟨rfl,-,-⟩:=h
  cases hr with
  | ref cy aJ h=>exact .ref cy (fun j hj=>⟨hS _ (aJ j hj).1,(aJ j hj).2⟩) (fun j hj=>(h j hj).mono hS (fun _ _=>rfl))
 | ptr κ off =>
  simp only [vd] at h
  split at h
  ·rename_i cs hl
   split at h
   ·rename_i ds HG xj hb
    simp only [Option.some.injEq,Prod.mk.injEq] at h
    obtain ⟨rfl,rfl,rfl⟩:=h
    cases hr with
    | @ptr _ _ g cap hμ =>
     have hm:=hs.mem κ _ (iq (κ,.box cs) (by simp))
     rw [hμ] at hm
     have cI:=hO κ _ g cap (iq (κ,.box cs) (by simp)) hμ
     obtain ⟨cur,e,hg,_,dK,kJ⟩:=hm.at
     have Sh:dq w S μ ν cs cur.toList:=⟨by simpa using dK,fun i hi=>by
      obtain ⟨u,hu,NI⟩:=kJ i hi
      rw [show cur.toList.getD i undef=u from by simp [List.getD,hu]]
      exact NI ν⟩
     obtain ⟨i1,i2⟩:=D4 hs hS hO hb (fun p hp=>iq p (List.mem_cons_of_mem _ hp)) bz Sh
     refine .ref (fun j=>cur.toList.getD (off+j) undef) (fun j hj=>⟨cI,?_⟩) (fun j hj=>?_)
     ·simp only [List.length_drop] at hj
      rw [kN w g _ cur e _ hg]
      have:off+j < cur.size:=by omega
      simp [List.getD,this]
     ·simp only [List.length_drop] at hj
      rw [show (ds.drop off).getD j default=ds.getD (off+j) default from by simp [List.getD]]
      exact i2 (off+j) (by omega)
   ·cases h
  ·cases h
 | ag l =>
  simp only [vd] at h
  split at h
  ·rename_i ds HG xj hb
   simp only [Option.some.injEq,Prod.mk.injEq] at h
   obtain ⟨rfl,rfl,rfl⟩:=h
   cases hr with
   | @ag _ vs hl hh =>
    obtain ⟨i1,i2⟩:=D4 hs hS hO hb iq bz (vs:=vs.toList) ⟨by rw [Array.length_toList]; exact hl,fun i hi=>by rw [← cz]; exact hh i hi⟩
    exact .d (.agg ds vs (by omega) (fun i hi=>by rw [cz]; exact i2 i hi))
  ·cases h
 | any=>exact other h
 | d=>exact other h
 | own=>exact other h
 | qQ=>exact other h
 | uH=>exact other h
 | uO n f =>
  simp only [vd,Option.some.injEq,Prod.mk.injEq] at h
  obtain ⟨rfl,-,-⟩:=h
  cases hr with
  | uO h=>exact .uO (h.mono hS (fun _ _=>rfl))
 | kD κ =>
  simp only [vd] at h
  split at h
  ·rename_i n f hl
   simp only [Option.some.injEq,Prod.mk.injEq] at h
   obtain ⟨rfl,rfl,rfl⟩:=h
   have hκ:=iq (κ,.mp n f) (by simp)
   cases hr with
   | @kD _ g cap hμ =>
    have hm:=hs.mem κ _ hκ
    rw [hμ] at hm
    obtain ⟨cur,h1,_,h2,h3⟩:=hm.at
    refine .uO ⟨hO κ _ g cap hκ hμ,cur,h1,h2,fun i hi=>?_⟩
    obtain ⟨e,q1,q2,q3,q4,q5⟩:=h3 i hi
    exact ⟨e,q1,q2,q3,q4,q5.mono hS (fun _ _=>rfl)⟩
  ·simp only [Option.some.injEq,Prod.mk.injEq] at h
   obtain ⟨rfl,-,-⟩:=h
   exact .any _
  ·simp only [Option.some.injEq,Prod.mk.injEq] at h
   obtain ⟨rfl,-,-⟩:=h
   exact .any _
  ·cases h
 | fn=>exact other h
 | il=>exact other h
 | g=>exact other h
theorem D5 (hs:cG C A a w S μ ν) {S':Nat→Prop} (hS:∀ b,S b→S' b) (hO:∀ κ b g c,A.lb κ=some b→μ κ=some (some (g,c))→S' g) {lb:List (Nat × aZ)} (μ':Mu) (ν':Nat→Bool):∀ {xs ys:List AV} {ro:List (Nat × aZ)} {ob:Ob},tR lb xs=some (ys,ro,ob)→(∀ p,p∈ro→A.lb p.1=some p.2)→ob.den→∀ {vs:List Value},dq w S μ ν xs vs →
  dq w S' μ' ν' ys vs
 | [],ys,ro,ob,h,_,_,vs,hr=>by
  simp only [tR,Option.some.injEq,Prod.mk.injEq] at h
  obtain ⟨rfl,-,-⟩:=h
  exact ⟨hr.1,fun i hi=>absurd hi (by simp)⟩
 | x :: r,ys,ro,ob,h,iq,bz,vs,hr=>by
  simp only [tR] at h
  cases h1:vd lb x with
  | none=>rw [h1] at h; cases h
  | some p =>
   obtain ⟨y,ZY,we⟩:=p
   cases h2:tR lb r with
   | none=>rw [h1,h2] at h; cases h
   | some q =>
    obtain ⟨l,ro2,AA⟩:=q
    rw [h1,h2] at h
    simp only [Option.some.injEq,Prod.mk.injEq] at h
    obtain ⟨rfl,rfl,rfl⟩:=h
    match vs,hr with
    | [],hr=>have:=hr.1; simp at this
    | v :: vs,hr =>
     have ht:dq w S μ ν r vs:=⟨by simpa using hr.1,fun i hi=>by simpa using hr.2 (i+1) (by simpa using hi)⟩
     have ih:=D5 hs hS hO μ' ν' h2 (fun p hp=>iq p (List.mem_append.2 (.inr hp))) (Ob.bR bz).2 ht
     refine ⟨by simpa using ih.1,fun i hi=>?_⟩
     cases i with
     | zero=>simpa using fF hs hS hO h1 (fun p hp=>iq p (List.mem_append.2 (.inl hp))) (Ob.bR bz).1 (by simpa using hr.2 0 (by simp)) μ' ν'
     | succ i=>simpa using ih.2 i (by simpa using hi)
theorem SJ (hs:cG C A a w S μ ν) {S':Nat→Prop} (hS:∀ b,S b→S' b) (hO:∀ κ b g c,A.lb κ=some b→μ κ=some (some (g,c))→S' g) {lb:List (Nat × aZ)} {x y:AV} {ro:List (Nat × aZ)} {ob:Ob} (h:uR lb x=some (y,ro,ob)) (iq:∀ p,p∈ro→A.lb p.1=some p.2) (bz:ob.den) {v:Value} (hr:Rel w S μ ν x v) (μ':Mu) (ν':Nat→Bool):Rel w S' μ' ν' y v:=by
 cases x with
 | fn f cF =>
  simp only [uR] at h
  split at h
  ·rename_i l HG xj hb
   simp only [Option.some.injEq,Prod.mk.injEq] at h
   obtain ⟨rfl,rfl,rfl⟩:=h
   cases hr with
   | @fn _ _ vs hl hh =>
    obtain ⟨i1,i2⟩:=D5 hs hS hO μ' ν' hb iq bz (vs:=vs.toList) ⟨by simpa using hl,fun i hi=>by rw [← cz]; exact hh i hi⟩
    exact .fn (by simpa using i1) (fun i hi=>by rw [cz]; exact i2 i hi)
  ·cases h
 | any=>exact fF hs hS hO (lb:=lb) (by simpa only [uR] using h) iq bz hr μ' ν'
 | d=>exact fF hs hS hO (lb:=lb) (by simpa only [uR] using h) iq bz hr μ' ν'
 | own=>exact fF hs hS hO (lb:=lb) (by simpa only [uR] using h) iq bz hr μ' ν'
 | ptr=>exact fF hs hS hO (lb:=lb) (by simpa only [uR] using h) iq bz hr μ' ν'
 | qQ=>exact fF hs hS hO (lb:=lb) (by simpa only [uR] using h) iq bz hr μ' ν'
 | ref=>exact fF hs hS hO (lb:=lb) (by simpa only [uR] using h) iq bz hr μ' ν'
 | uH=>exact fF hs hS hO (lb:=lb) (by simpa only [uR] using h) iq bz hr μ' ν'
 | kD=>exact fF hs hS hO (lb:=lb) (by simpa only [uR] using h) iq bz hr μ' ν'
 | uO=>exact fF hs hS hO (lb:=lb) (by simpa only [uR] using h) iq bz hr μ' ν'
 | il=>exact fF hs hS hO (lb:=lb) (by simpa only [uR] using h) iq bz hr μ' ν'
 | ag=>exact fF hs hS hO (lb:=lb) (by simpa only [uR] using h) iq bz hr μ' ν'
 | g=>exact fF hs hS hO (lb:=lb) (by simpa only [uR] using h) iq bz hr μ' ν'
theorem AB (hs:cG C A a w S μ ν) {S':Nat→Prop} (hS:∀ b,S b→S' b) (hO:∀ κ b g c,A.lb κ=some b→μ κ=some (some (g,c))→S' g) {lb:List (Nat × aZ)} (μ':Mu) (ν':Nat→Bool):∀ {xs ys:List AV} {ro:List (Nat × aZ)} {ob:Ob},sq lb xs=some (ys,ro,ob)→(∀ p,p∈ro→A.lb p.1=some p.2)→ob.den→∀ {vs:List Value},dq w S μ ν xs vs →
  dq w S' μ' ν' ys vs
 | [],ys,ro,ob,h,_,_,vs,hr=>by
  simp only [sq,Option.some.injEq,Prod.mk.injEq] at h
  obtain ⟨rfl,-,-⟩:=h
  exact ⟨hr.1,fun i hi=>absurd hi (by simp)⟩
 | x :: r,ys,ro,ob,h,iq,bz,vs,hr=>by
  simp only [sq] at h
  cases h1:uR lb x with
  | none=>rw [h1] at h; cases h
  | some p =>
   obtain ⟨y,ZY,we⟩:=p
   cases h2:sq lb r with
   | none=>rw [h1,h2] at h; cases h
   | some q =>
    obtain ⟨l,ro2,AA⟩:=q
    rw [h1,h2] at h
    simp only [Option.some.injEq,Prod.mk.injEq] at h
    obtain ⟨rfl,rfl,rfl⟩:=h
    match vs,hr with
    | [],hr=>have:=hr.1; simp at this
    | v :: vs,hr =>
     have ht:dq w S μ ν r vs:=⟨by simpa using hr.1,fun i hi=>by simpa using hr.2 (i+1) (by simpa using hi)⟩
     have ih:=AB hs hS hO μ' ν' h2 (fun p hp=>iq p (List.mem_append.2 (.inr hp))) (Ob.bR bz).2 ht
     refine ⟨by simpa using ih.1,fun i hi=>?_⟩
     cases i with
     | zero=>simpa using SJ hs hS hO h1 (fun p hp=>iq p (List.mem_append.2 (.inl hp))) (Ob.bR bz).1 (by simpa using hr.2 0 (by simp)) μ' ν'
     | succ i=>simpa using ih.2 i (by simpa using hi)
theorem tS {P:Program} {o:Oper} {cf:Operand} {xs:Array Operand} {ts:Array TypeId} (ho:o.op=.call { callee:=.value cf,args:=xs,argTypes:=ts }) {f:FuncId} {xl:Array Value} (QG:a.eval cf=.func (.func f) #[] xl) (hc:dX P f=true) :
  (execOp a.eval o).run P w=.ok (.enter f (xs.map a.eval++xl)) w:=by
 simp only [execOp,ho,resolve,QG,Deferred.ofValue,Sem.run_bind,Sem.run_pure,Result.andThen_ok,invoke,Array.empty_append]
 exact tQ hc _
theorem D6 {o:Oper} {cf:Operand} {xs:Array Operand} {ts:Array TypeId} {f:FuncId} {args cF BQ:List AV} {res:AV} {ro:List (Nat × aZ)} {ob:Ob} {lb:List (Nat × aZ)} {τ:Tr}
  (hs:cG C A a w S μ ν) (hd:∀ t,o.dst=some t→t < C.nt) (ho:o.op=.call { callee:=.value cf,args:=xs,argTypes:=ts }) (QG:Rel w S μ ν (.fn f cF) (a.eval cf)) (iP:dq w S μ ν args (xs.toList.map a.eval))
  (hb:sq lb (args++cF)=some (BQ,ro,ob)) (iq:∀ p,p∈ro→A.lb p.1=some p.2) (bz:ob.den) (NL:kE C.P f BQ [] res []) (Cd:eZ res=true)
  (h0:τ.v=res) (h1:τ.dst=o.dst) (h2:τ.mem=[]) (h3:τ.cS=[]) :
  o.wp C.P a w (fun a' w'=>∃ S' μ',cG C (τ.apply A) a' w' S' μ' ν) (fun _ _ _=>False):=by
 generalize Vt:a.eval cf=cv at QG
 cases QG with
 | @fn _ _ xl hl hh =>
  unfold Oper.wp
  rw [tS ho Vt NL.1]
  have oe:dq w S μ ν (args++cF) (xs.map a.eval++xl).toList:=by
   rw [Array.toList_append,Array.toList_map]
   exact iP.append ⟨by simpa using hl,fun i hi=>by rw [← cz]; exact hh i hi⟩
  refine (NL.2 w (fun b=>b < w.heap.size) (fun _=>none) (xs.map a.eval++xl) (fun b hb=>hb) (hs.wT.mono hs.bound (fun _ _=>rfl)) (fun ν'=>AB hs hs.bound (fun κ b g c h1 h2=>by have:=hs.mem κ b h1; rw [h2] at this; exact this.at.lt) _ ν' hb iq bz oe) (fun κ b hk=>by simp [look] at hk) (fun κ κ' b b' g c c' hk=>by simp [look] at hk)).mono ?_
  rintro e w' ⟨v,S',μ',rfl,B⟩
  have hk:Kept w w' (fun _=>False):=⟨B.kept.os,B.kept.tape,B.kept.output,B.kept.size,fun b hb _=>B.kept.block b hb (fun ⟨κ,b',c,hx,_⟩=>by simp [look] at hx)⟩
  have h4:=hs.world (S':=S) (fun _ x=>x) (fun _ x=>.inl x) hk
  have h5:=h4.put (dst:=o.dst) (x:=res) (v:=v) hd (QF Cd (B.res ν))
  refine ⟨S,μ,?_⟩
  have e:τ.apply A=A.uP o.dst res:=by
   unfold Tr.apply M.uP M.put
   rw [h0,h1,h2,h3]
   cases ho:o.dst with
   | none=>simp [look]
   | some d =>
    simp only [look,List.map_nil,List.not_mem_nil,if_false,Option.some.injEq]
    congr 1
    funext t
    by_cases c:d=t
    ·simp [c]
    ·have:¬ t=d:=fun e=>c e.symm
     simp [c,this]
  rw [e]
  exact h5
end
section
variable {C : Cx} {A : M} {a : Act} {w : World} {S : Nat → Prop} {μ : Mu} {ν : Nat → Bool}
theorem AV.sr {k:Nat}:∀ (l:List AV) (i:Nat),i < l.length→k∈(l.getD i default).keys→k∈AV.nZ l
 | [],i,hi,_=>absurd hi (by simp)
 | a :: r,0,_,h=>by simp only [AV.nZ,List.mem_append]; exact .inl (by simpa using h)
 | a :: r,i+1,hi,h=>by simp only [AV.nZ,List.mem_append]; exact .inr (AV.sr r i (by simpa using hi) (by simpa using h))
theorem Rel.agree {μ':Mu} {x:AV} {v:Value} (h:Rel w S μ ν x v) (hk:∀ k,k∈x.keys→μ' k=μ k):Rel w S μ' ν x v:=by
 induction h with
 | any x=>exact .any x
 | d h=>exact .d h
 | @cR key _ h=>exact .cR (by rw [hk key (by simp [AV.keys])]; exact h)
 | @own key _ _ _ h=>exact .own (by rw [hk key (by simp [AV.keys])]; exact h)
 | @ptr key _ _ _ h=>exact .ptr (by rw [hk key (by simp [AV.keys])]; exact h)
 | @qQ key _ _ _ _ _ h=>exact .qQ (by rw [hk key (by simp [AV.keys])]; exact h)
 | ref cy aJ h=>exact .ref cy aJ h
 | uH h=>exact .uH h
 | @kD key _ _ h=>exact .kD (by rw [hk key (by simp [AV.keys])]; exact h)
 | uO h=>exact .uO h
 | @fn _ cF _ hl _ ih=>exact .fn hl (fun i hi=>ih i hi (fun k eD=>hk k (by simp only [AV.keys]; exact AV.sr cF i hi eD)))
 | @il l _ hl _ ih=>exact .il hl (fun i hi=>ih i hi (fun k eD=>hk k (by simp only [AV.keys]; exact AV.sr l i hi eD)))
 | @ag l _ hl _ ih=>exact .ag hl (fun i hi=>ih i hi (fun k eD=>hk k (by simp only [AV.keys]; exact AV.sr l i hi eD)))
 | g _ h0 ih=>exact .g (fun hp=>ih hp (fun k eD=>hk k (by simpa [AV.keys] using eD))) h0
theorem cx.agree {μ':Mu} {b:aZ} {g cap:Nat} (h:cx w S μ b g cap) (hk:∀ k,k∈b.keys→μ' k=μ k):cx w S μ' b g cap:=by
 cases b with
 | box cs =>
  obtain ⟨cur,e,h1,h0,h2,h6⟩:=h
  refine ⟨cur,e,h1,h0,h2,fun j hj=>?_⟩
  obtain ⟨x,hx,hr⟩:=h6 j hj
  exact ⟨x,hx,fun ν=>(hr ν).agree (fun k eD=>hk k (AV.sr _ j hj eD))⟩
 | row e k n f=>exact h
 | mp n f=>exact h
 | it mk n seen =>
  obtain ⟨mg,c,h0,h1⟩:=h
  exact ⟨mg,c,by rw [hk mk (by simp [aZ.keys])]; exact h0,h1⟩
 | mx=>exact h
 | tx=>exact h
 | rx=>exact h
 | ml=>exact h
theorem ew.agree {μ':Mu} {b:aZ} {y:Option (Option (Nat × Nat))} (h:ew w S μ b y) (hk:∀ k,k∈b.keys→μ' k=μ k):ew w S μ' b y:=by
 cases y with
 | none=>cases b <;> exact h
 | some y =>
  cases y with
  | none=>cases b <;> exact h
  | some gc=>obtain ⟨g,c⟩:=gc; exact (h.at.agree hk).ok
theorem dq.nu {ν':Nat→Bool} {l:List AV} {vs:List Value} (h:dq w S μ ν l vs) (hn:qM.kP l=true):dq w S μ ν' l vs:=⟨h.1,fun i hi=>(h.2 i hi).nu (na l i hn hi)⟩
theorem QH {o:Oper} {cf:Operand} {xs:Array Operand} {ts:Array TypeId} {f:FuncId} {args cF:List AV} {res:AV} {cj eH:List (Nat × aZ)} {need:List (Nat × AV)} {ro:List (Nat × aZ)} {gs:List (Nat × Bool)}
  (hs:cG C A a w S μ ν) (hd:∀ t,o.dst=some t→t < C.nt) (ho:o.op=.call { callee:=.value cf,args:=xs,argTypes:=ts }) (QG:Rel w S μ ν (.fn f cF) (a.eval cf)) (iP:dq w S μ ν args (xs.toList.map a.eval)) (hn:qM.kP (args++cF)=true)
  (NL:kE C.P f (args++cF) cj res eH) (Nu:∀ p,p∈cj→A.lb p.1=some p.2) (pP:∀ k,k∈eH.map (·.1)→gL A k) (U1:∀ k,k∈res.keys→k∈eH.map (·.1)) (NM:∀ p,p∈eH→∀ k,k∈p.2.keys→k∈eH.map (·.1)) :
  o.wp C.P a w (fun a' w'=>∃ S' μ',cG C ((Tr.mk need o.dst res ro cj eH gs).apply A) a' w' S' μ' ν) (fun _ _ _=>False):=by
 generalize Vt:a.eval cf=cv at QG
 cases QG with
 | @fn _ _ xl hl hh =>
  unfold Oper.wp
  rw [tS ho Vt NL.1]
  have oe:dq w S μ ν (args++cF) (xs.map a.eval++xl).toList:=by
   rw [Array.toList_append,Array.toList_map]
   exact iP.append ⟨by simpa using hl,fun i hi=>by rw [← cz]; exact hh i hi⟩
  have vZ:∀ κ b,look cj κ=some b→A.lb κ=some b:=fun κ b h=>Nu (κ,b) (fN h)
  refine (NL.2 w S μ (xs.map a.eval++xl) hs.bound hs.wT (fun ν'=>oe.nu hn) (fun κ b hk=>hs.mem κ b (vZ κ b hk)) (fun κ κ' b b' g c c' h1 h2 h3 h4=>hs.inj κ κ' b b' g c c' (vZ _ _ h1) (vZ _ _ h2) h3 h4)).mono ?_
  rintro e w' ⟨v,S',μ',rfl,B⟩
  have hT:∀ q,Handed cj μ q→C.w0.heap.size≤q∨C.T0 q:=fun q ⟨κ,b,c,h1,h2⟩=>hs.own κ b q c (vZ κ b h1) h2
  have hTs:∀ q,Handed cj μ q→¬ S q:=fun q ⟨κ,b,c,h1,h2⟩=>by
   have:=hs.mem κ b (vZ κ b h1)
   rw [h2] at this
   exact this.at.not
  have hw:∀ q,S q→w'.heap[q]? = w.heap[q]?:=fun q hq=>B.kept.block q (hs.bound q hq) (fun ht=>hTs q ht hq)
  let μ'':Mu:=fun k=>if k∈eH.map (·.1) then μ' k else μ k
  have ag:∀ k,k ∉ eH.map (·.1)→μ'' k=μ k:=fun k hk=>by simp only [μ'',hk,if_false]
  have R6:∀ k,k∈eH.map (·.1)→μ'' k=μ' k:=fun k hk=>by simp only [μ'',hk,if_true]
  have old:∀ x v,Rel w S μ ν x v→(∀ k,k∈eH.map (·.1)→k ∉ x.keys)→Rel w' S' μ'' ν x v:=fun x v hr hk =>
   (hr.mono B.sub hw (fun _ _ e=>e)).agree (fun k hkx=>ag k (fun eD=>hk k eD hkx))
  refine ⟨S',μ'',?_⟩
  have D7:∀ κ b,((Tr.mk need o.dst res ro cj eH gs).apply A).lb κ=some b→(look eH κ=some b∧κ∈eH.map (·.1))∨(κ ∉ eH.map (·.1)∧κ ∉ cj.map (·.1)∧A.lb κ=some b):=by
   intro κ b hb
   simp only [Tr.apply] at hb
   cases HC:look eH κ with
   | some b' =>
    rw [HC] at hb
    simp only [Option.some.injEq] at hb
    subst hb
    exact .inl ⟨rfl,mX HC⟩
   | none =>
    rw [HC] at hb
    simp only at hb
    have hnk:κ ∉ eH.map (·.1):=fun hk=>by
     obtain ⟨p,hp,e⟩:=List.mem_map.1 hk
     have:∀ (l:List (Nat × aZ)),p∈l→look l κ≠none:=by
      intro l
      induction l with
      | nil=>intro h; cases h
      | cons q r ih =>
       intro h hn
       obtain ⟨q1,q2⟩:=q
       simp only [look] at hn
       cases hq:Nat.beq q1 κ with
       | true=>rw [hq] at hn; cases hn
       | false =>
        rw [hq] at hn
        rcases List.mem_cons.1 h with h' | h'
        ·subst h'
         simp only at e
         rw [e,Nat.beq_refl] at hq
         cases hq
        ·exact ih h' (by simpa using hn)
     exact this eH hp HC
    split at hb
    ·cases hb
    ·rename_i R5
     exact .inr ⟨hnk,R5,hb⟩
  have Ya:∀ κ b g c,κ ∉ cj.map (·.1)→A.lb κ=some b→μ κ=some (some (g,c))→¬ Handed cj μ g∧g < w.heap.size∧¬ S g:=by
   intro κ b g c R5 hb hμ
   have hm:=hs.mem κ b hb
   rw [hμ] at hm
   refine ⟨fun ⟨κ2,b2,c2,h1,h2⟩=>?_,hm.at.lt,hm.at.not⟩
   have:=hs.inj κ κ2 b b2 g c c2 hb (vZ _ _ h1) hμ h2
   rw [this] at R5
   exact R5 (mX h1)
  refine ⟨?_,?_,fun t=>?_,fun κ b hb=>?_,fun κ1 κ2 b1 b2 g c c' h1 h2 h3 h4=>?_,fun κ b g c hb hμ=>?_,fun b hb=>B.sub b (hs.dR b hb),fun b hb=>?_,B.bound,?_⟩
  ·simp only [Act.put]; split <;> simp [hs.tmps]
  ·simp only [Act.put]; split <;> exact hs.defers
  ·simp only [Tr.apply]
   by_cases c:o.dst=some t
   ·simp only [c,if_true,Act.put]
    rw [gF _ _ _ (by rw [hs.tmps]; exact hd t c)]
    exact (B.res ν).agree (fun k hk=>R6 k (U1 k hk))
   ·simp only [c,if_false]
    have e:(a.put o.dst v).tmps.getD t undef=a.tmps.getD t undef:=by
     cases cu:o.dst with
     | none=>rfl
     | some d =>
      simp only [Act.put]
      exact cX _ _ _ _ (fun e=>c (by rw [cu,e]))
    rw [e]
    exact old _ _ (hs.dN t) (fun k hk=>(pP k hk).sl t)
  ·rcases D7 κ b hb with ⟨h1,h2⟩ | ⟨h1,h2,h3⟩
   ·rw [R6 κ h2]
    exact (B.mem κ b h1).agree (fun k hk=>R6 k (NM (κ,b) (fN h1) k hk))
   ·rw [ag κ h1]
    have hm:=hs.mem κ b h3
    refine (hm.mono B.sub hw (fun _ _ e=>e) (fun g c e=>?_)).agree (fun k hk=>ag k (fun eD=>(pP k eD).bl κ b h3 hk))
    obtain ⟨q1,q2,q3⟩:=Ya κ b g c h2 h3 e
    refine ⟨B.kept.block g q2 q1,fun sh=>?_⟩
    rcases B.new g sh with h | h | h
    ·exact q3 h
    ·omega
    ·exact q1 h
  ·rcases D7 κ1 b1 h1 with ⟨x1,x2⟩ | ⟨x1,x2,x3⟩
   ·rw [R6 κ1 x2] at h3
    rcases D7 κ2 b2 h2 with ⟨y1,y2⟩ | ⟨y1,y2,y3⟩
    ·rw [R6 κ2 y2] at h4
     exact B.inj κ1 κ2 b1 b2 g c c' x1 y1 h3 h4
    ·rw [ag κ2 y1] at h4
     obtain ⟨q1,q2,q3⟩:=Ya κ2 b2 g c' y2 y3 h4
     rcases B.own κ1 b1 g c x1 h3 with h | h
     ·omega
     ·exact absurd h q1
   ·rw [ag κ1 x1] at h3
    obtain ⟨q1,q2,q3⟩:=Ya κ1 b1 g c x2 x3 h3
    rcases D7 κ2 b2 h2 with ⟨y1,y2⟩ | ⟨y1,y2,y3⟩
    ·rw [R6 κ2 y2] at h4
     rcases B.own κ2 b2 g c' y1 h4 with h | h
     ·omega
     ·exact absurd h q1
    ·rw [ag κ2 y1] at h4
     exact hs.inj κ1 κ2 b1 b2 g c c' x3 y3 h3 h4
  ·rcases D7 κ b hb with ⟨h1,h2⟩ | ⟨h1,h2,h3⟩
   ·rw [R6 κ h2] at hμ
    rcases B.own κ b g c h1 hμ with h | h
    ·exact .inl (Nat.le_trans hs.kept.size h)
    ·exact hT g h
   ·rw [ag κ h1] at hμ
    exact hs.own κ b g c h3 hμ
  ·rcases B.new b hb with h | h | h
   ·exact hs.fresh b h
   ·exact .inr (.inl (Nat.le_trans hs.kept.size h))
   ·rcases hT b h with h' | h'
    ·exact .inr (.inl h')
    ·exact .inr (.inr h')
  ·refine hs.kept.trans B.kept (fun b hb h=>?_)
   rcases hT b h with h' | h'
   ·omega
   ·exact h'
def SK (P:Program) (f:FuncId) (args:List AV) (cj:List (Nat × aZ)) (res:AV) (eH:List (Nat × aZ)) (fX:List (Nat × Nat)):Prop :=
 dX P f=true∧∀ (w:World) (S:Nat→Prop) (μ:Mu) (vs:Array Value),(∀ b,S b→b < w.heap.size)→iA w S→(∀ ν,dq w S μ ν args vs.toList)→(∀ κ b,look cj κ=some b→ew w S μ b (μ κ))→SH cj μ →
  Calls P f vs w fun e w'=>∃ v S' μ',e=.returned v∧NK w S (Handed cj μ) res eH v S' μ' w'∧∀ p,p∈fX→∀ ν,Rel w' S' μ' ν (.ptr p.2 0) (vs.toList.getD p.1 undef)
theorem IP {fX:List (Nat × Nat)} {o:Oper} {cf:Operand} {xs:Array Operand} {ts:Array TypeId} {f:FuncId} {args cF:List AV} {res:AV} {cj eH:List (Nat × aZ)} {need:List (Nat × AV)} {ro:List (Nat × aZ)} {gs:List (Nat × Bool)}
  (hs:cG C A a w S μ ν) (hd:∀ t,o.dst=some t→t < C.nt) (ho:o.op=.call { callee:=.value cf,args:=xs,argTypes:=ts }) (QG:Rel w S μ ν (.fn f cF) (a.eval cf)) (iP:dq w S μ ν args (xs.toList.map a.eval)) (hn:qM.kP (args++cF)=true)
  (NL:SK C.P f (args++cF) cj res eH fX) (Yb:∀ p,p∈fX→p.1 < (args++cF).length∧(args++cF).getD p.1 default=.ptr p.2 0∧(∃ cs,look cj p.2=some (.box cs))∧∃ cs,look eH p.2=some (.box cs)) (Nu:∀ p,p∈cj→A.lb p.1=some p.2) (pP:∀ k,k∈eH.map (·.1)→k ∉ fX.map (·.2)→gL A k) (U1:∀ k,k∈res.keys→k∈eH.map (·.1)∧k ∉ fX.map (·.2)) (NM:∀ p,p∈eH→∀ k,k∈p.2.keys→k∈eH.map (·.1)∧k ∉ fX.map (·.2)) :
  o.wp C.P a w (fun a' w'=>∃ S' μ',cG C ((Tr.mk need o.dst res ro cj eH gs).apply A) a' w' S' μ' ν) (fun _ _ _=>False):=by
 generalize Vt:a.eval cf=cv at QG
 cases QG with
 | @fn _ _ xl hl hh =>
  unfold Oper.wp
  rw [tS ho Vt NL.1]
  have oe:dq w S μ ν (args++cF) (xs.map a.eval++xl).toList:=by
   rw [Array.toList_append,Array.toList_map]
   exact iP.append ⟨by simpa using hl,fun i hi=>by rw [← cz]; exact hh i hi⟩
  have vZ:∀ κ b,look cj κ=some b→A.lb κ=some b:=fun κ b h=>Nu (κ,b) (fN h)
  refine (NL.2 w S μ (xs.map a.eval++xl) hs.bound hs.wT (fun ν'=>oe.nu hn) (fun κ b hk=>hs.mem κ b (vZ κ b hk)) (fun κ κ' b b' g c c' h1 h2 h3 h4=>hs.inj κ κ' b b' g c c' (vZ _ _ h1) (vZ _ _ h2) h3 h4)).mono ?_
  rintro e w' ⟨v,S',μ',rfl,B,ha⟩
  have aav:∀ κ,κ∈fX.map (·.2)→κ∈eH.map (·.1)∧(∃ cs,look eH κ=some (.box cs))∧∃ g c c',μ κ=some (some (g,c))∧μ' κ=some (some (g,c')):=by
   intro κ hκ
   obtain ⟨p,hp,rfl⟩:=List.mem_map.1 hκ
   obtain ⟨h1,h2,-,cs,h4⟩:=Yb p hp
   have h5:=oe.2 p.1 h1
   rw [h2] at h5
   have h6:=ha p hp ν
   generalize (xs.map a.eval++xl).toList.getD p.1 undef=u at h5 h6
   refine ⟨mX h4,⟨cs,h4⟩,?_⟩
   cases h5 with
   | @ptr _ _ g c hμ =>
    cases h6 with
    | @ptr _ _ _ c' IQ=>exact ⟨g,c,c',hμ,IQ⟩
  have hT:∀ q,Handed cj μ q→C.w0.heap.size≤q∨C.T0 q:=fun q ⟨κ,b,c,h1,h2⟩=>hs.own κ b q c (vZ κ b h1) h2
  have hTs:∀ q,Handed cj μ q→¬ S q:=fun q ⟨κ,b,c,h1,h2⟩=>by
   have:=hs.mem κ b (vZ κ b h1)
   rw [h2] at this
   exact this.at.not
  have hw:∀ q,S q→w'.heap[q]? = w.heap[q]?:=fun q hq=>B.kept.block q (hs.bound q hq) (fun ht=>hTs q ht hq)
  let μ'':Mu:=fun k=>if k∈fX.map (·.2) then μ k else if k∈eH.map (·.1) then μ' k else μ k
  have ag:∀ k,(k∈eH.map (·.1)→k∈fX.map (·.2))→μ'' k=μ k:=fun k hk=>by
   simp only [μ'']
   by_cases h1:k∈fX.map (·.2)
   ·rw [if_pos h1]
   ·rw [if_neg h1,if_neg (fun h=>h1 (hk h))]
  have R6:∀ k,k∈eH.map (·.1)→k ∉ fX.map (·.2)→μ'' k=μ' k:=fun k hk hn=>by simp only [μ'']; rw [if_neg hn,if_pos hk]
  have tr:∀ k g c,k∈eH.map (·.1)→μ'' k=some (some (g,c))→∃ c',μ' k=some (some (g,c')):=fun k g c hk h=>by
   by_cases h1:k∈fX.map (·.2)
   ·obtain ⟨-,-,g',c1,c2,e1,e2⟩:=aav k h1
    rw [ag k (fun _=>h1),e1] at h
    simp only [Option.some.injEq,Prod.mk.injEq] at h
    obtain ⟨rfl,rfl⟩:=h
    exact ⟨c2,e2⟩
   ·rw [R6 k hk h1] at h
    exact ⟨c,h⟩
  have old:∀ x v,Rel w S μ ν x v→(∀ k,k∈eH.map (·.1)→k ∉ fX.map (·.2)→k ∉ x.keys)→Rel w' S' μ'' ν x v:=fun x v hr hk =>
   (hr.mono B.sub hw (fun _ _ e=>e)).agree (fun k hkx=>ag k (fun eD=>Classical.byContradiction (fun hn=>hk k eD hn hkx)))
  refine ⟨S',μ'',?_⟩
  have D7:∀ κ b,((Tr.mk need o.dst res ro cj eH gs).apply A).lb κ=some b→(look eH κ=some b∧κ∈eH.map (·.1))∨(κ ∉ eH.map (·.1)∧κ ∉ cj.map (·.1)∧A.lb κ=some b):=by
   intro κ b hb
   simp only [Tr.apply] at hb
   cases HC:look eH κ with
   | some b' =>
    rw [HC] at hb
    simp only [Option.some.injEq] at hb
    subst hb
    exact .inl ⟨rfl,mX HC⟩
   | none =>
    rw [HC] at hb
    simp only at hb
    have hnk:κ ∉ eH.map (·.1):=fun hk=>by
     obtain ⟨p,hp,e⟩:=List.mem_map.1 hk
     have:∀ (l:List (Nat × aZ)),p∈l→look l κ≠none:=by
      intro l
      induction l with
      | nil=>intro h; cases h
      | cons q r ih =>
       intro h hn
       obtain ⟨q1,q2⟩:=q
       simp only [look] at hn
       cases hq:Nat.beq q1 κ with
       | true=>rw [hq] at hn; cases hn
       | false =>
        rw [hq] at hn
        rcases List.mem_cons.1 h with h' | h'
        ·subst h'
         simp only at e
         rw [e,Nat.beq_refl] at hq
         cases hq
        ·exact ih h' (by simpa using hn)
     exact this eH hp HC
    split at hb
    ·cases hb
    ·rename_i R5
     exact .inr ⟨hnk,R5,hb⟩
  have Ya:∀ κ b g c,κ ∉ cj.map (·.1)→A.lb κ=some b→μ κ=some (some (g,c))→¬ Handed cj μ g∧g < w.heap.size∧¬ S g:=by
   intro κ b g c R5 hb hμ
   have hm:=hs.mem κ b hb
   rw [hμ] at hm
   refine ⟨fun ⟨κ2,b2,c2,h1,h2⟩=>?_,hm.at.lt,hm.at.not⟩
   have:=hs.inj κ κ2 b b2 g c c2 hb (vZ _ _ h1) hμ h2
   rw [this] at R5
   exact R5 (mX h1)
  refine ⟨?_,?_,fun t=>?_,fun κ b hb=>?_,fun κ1 κ2 b1 b2 g c c' h1 h2 h3 h4=>?_,fun κ b g c hb hμ=>?_,fun b hb=>B.sub b (hs.dR b hb),fun b hb=>?_,B.bound,?_⟩
  ·simp only [Act.put]; split <;> simp [hs.tmps]
  ·simp only [Act.put]; split <;> exact hs.defers
  ·simp only [Tr.apply]
   by_cases c:o.dst=some t
   ·simp only [c,if_true,Act.put]
    rw [gF _ _ _ (by rw [hs.tmps]; exact hd t c)]
    exact (B.res ν).agree (fun k hk=>R6 k (U1 k hk).1 (U1 k hk).2)
   ·simp only [c,if_false]
    have e:(a.put o.dst v).tmps.getD t undef=a.tmps.getD t undef:=by
     cases cu:o.dst with
     | none=>rfl
     | some d =>
      simp only [Act.put]
      exact cX _ _ _ _ (fun e=>c (by rw [cu,e]))
    rw [e]
    exact old _ _ (hs.dN t) (fun k hk hn=>(pP k hk hn).sl t)
  ·rcases D7 κ b hb with ⟨h1,h2⟩ | ⟨h1,h2,h3⟩
   ·have hm:=B.mem κ b h1
    have Py:∀ k,k∈b.keys→μ'' k=μ' k:=fun k hk=>R6 k (NM (κ,b) (fN h1) k hk).1 (NM (κ,b) (fN h1) k hk).2
    by_cases hn:κ∈fX.map (·.2)
    ·obtain ⟨-,⟨cs,e0⟩,g',c1,c2,e1,e2⟩:=aav κ hn
     rw [h1] at e0
     simp only [Option.some.injEq] at e0
     subst e0
     rw [ag κ (fun _=>hn),e1]
     rw [e2] at hm
     have h3:cx w' S' μ' (.box cs) g' c1:=hm.at
     exact cx.ok (b:=.box cs) (h3.agree Py)
    ·rw [R6 κ h2 hn]
     exact hm.agree Py
   ·rw [ag κ (fun h=>absurd h h1)]
    have hm:=hs.mem κ b h3
    refine (hm.mono B.sub hw (fun _ _ e=>e) (fun g c e=>?_)).agree (fun k hk=>ag k (fun eD=>Classical.byContradiction (fun hn=>(pP k eD hn).bl κ b h3 hk)))
    obtain ⟨q1,q2,q3⟩:=Ya κ b g c h2 h3 e
    refine ⟨B.kept.block g q2 q1,fun sh=>?_⟩
    rcases B.new g sh with h | h | h
    ·exact q3 h
    ·omega
    ·exact q1 h
  ·rcases D7 κ1 b1 h1 with ⟨x1,x2⟩ | ⟨x1,x2,x3⟩
   ·obtain ⟨d1,h3⟩:=tr κ1 g c x2 h3
    rcases D7 κ2 b2 h2 with ⟨y1,y2⟩ | ⟨y1,y2,y3⟩
    ·obtain ⟨d2,h4⟩:=tr κ2 g c' y2 h4
     exact B.inj κ1 κ2 b1 b2 g d1 d2 x1 y1 h3 h4
    ·rw [ag κ2 (fun h=>absurd h y1)] at h4
     obtain ⟨q1,q2,q3⟩:=Ya κ2 b2 g c' y2 y3 h4
     rcases B.own κ1 b1 g d1 x1 h3 with h | h
     ·omega
     ·exact absurd h q1
   ·rw [ag κ1 (fun h=>absurd h x1)] at h3
    obtain ⟨q1,q2,q3⟩:=Ya κ1 b1 g c x2 x3 h3
    rcases D7 κ2 b2 h2 with ⟨y1,y2⟩ | ⟨y1,y2,y3⟩
    ·obtain ⟨d2,h4⟩:=tr κ2 g c' y2 h4
     rcases B.own κ2 b2 g d2 y1 h4 with h | h
     ·omega
     ·exact absurd h q1
    ·rw [ag κ2 (fun h=>absurd h y1)] at h4
     exact hs.inj κ1 κ2 b1 b2 g c c' x3 y3 h3 h4
  ·rcases D7 κ b hb with ⟨h1,h2⟩ | ⟨h1,h2,h3⟩
   ·obtain ⟨d1,hμ⟩:=tr κ g c h2 hμ
    rcases B.own κ b g d1 h1 hμ with h | h
    ·exact .inl (Nat.le_trans hs.kept.size h)
    ·exact hT g h
   ·rw [ag κ (fun h=>absurd h h1)] at hμ
    exact hs.own κ b g c h3 hμ
  ·rcases B.new b hb with h | h | h
   ·exact hs.fresh b h
   ·exact .inr (.inl (Nat.le_trans hs.kept.size h))
   ·rcases hT b h with h' | h'
    ·exact .inr (.inl h')
    ·exact .inr (.inr h')
  ·refine hs.kept.trans B.kept (fun b hb h=>?_)
   rcases hT b h with h' | h'
   ·omega
   ·exact h'
def ZZ (P:Program) (f:FuncId) (args:List AV) (κ:Nat) (b b':aZ):Prop :=
 dX P f=true∧∀ (w:World) (S:Nat→Prop) (μ:Mu) (vs:Array Value),(∀ b,S b→b < w.heap.size)→iA w S→(∀ ν,dq w S μ ν args vs.toList)→ew w S μ b (μ κ) →
  Calls P f vs w fun e w'=>(∃ v,e=.returned v)∧ew w' S μ b' (μ κ)∧Kept w w' (fun q=>∃ c,μ κ=some (some (q,c)))
theorem D8 {o:Oper} {cf:Operand} {xs:Array Operand} {ts:Array TypeId} {f:FuncId} {args cF:List AV} {κ:Nat} {b b':aZ} {need:List (Nat × AV)} {ro:List (Nat × aZ)} {gs:List (Nat × Bool)}
  (hs:cG C A a w S μ ν) (hd:∀ t,o.dst=some t→t < C.nt) (ho:o.op=.call { callee:=.value cf,args:=xs,argTypes:=ts }) (QG:Rel w S μ ν (.fn f cF) (a.eval cf)) (iP:dq w S μ ν args (xs.toList.map a.eval)) (hn:qM.kP (args++cF)=true)
  (NL:ZZ C.P f (args++cF) κ b b') (hκ:A.lb κ=some b) :
  o.wp C.P a w (fun a' w'=>∃ S' μ',cG C ((Tr.mk need o.dst .any ro [(κ,b)] [(κ,b')] gs).apply A) a' w' S' μ' ν) (fun _ _ _=>False):=by
 generalize Vt:a.eval cf=cv at QG
 cases QG with
 | @fn _ _ xl hl hh =>
  unfold Oper.wp
  rw [tS ho Vt NL.1]
  have oe:dq w S μ ν (args++cF) (xs.map a.eval++xl).toList:=by
   rw [Array.toList_append,Array.toList_map]
   exact iP.append ⟨by simpa using hl,fun i hi=>by rw [← cz]; exact hh i hi⟩
  refine (NL.2 w S μ (xs.map a.eval++xl) hs.bound hs.wT (fun ν'=>oe.nu hn) (hs.mem κ b hκ)).mono ?_
  rintro e w' ⟨⟨v,rfl⟩,iu,hk⟩
  have hg:∀ q,(∃ c,μ κ=some (some (q,c)))→¬ S q:=fun q ⟨c,hc⟩=>by
   have:=hs.mem κ b hκ
   rw [hc] at this
   exact this.at.not
  have hw:∀ q,S q→w'.heap[q]? = w.heap[q]?:=fun q hq=>hk.block q (hs.bound q hq) (fun h=>hg q h hq)
  have h1:cG C (A.set κ (some b')) a w' S μ ν:=by
   refine ⟨hs.tmps,hs.defers,fun t=>(hs.dN t).mono (fun _ x=>x) hw (fun _ _ e=>e),fun κ' bk Z0=>?_,fun κ1 κ2 b1 b2 g c c' h1 h2 h3 h4=>?_,fun κ' bk g c h1 h2=>?_,hs.dR,hs.fresh,fun q hq=>Nat.lt_of_lt_of_le (hs.bound q hq) hk.size,?_⟩
   ·simp only [M.set] at Z0
    by_cases e:κ'=κ
    ·subst e
     simp only [if_true,Option.some.injEq] at Z0
     subst Z0
     exact iu
    ·simp only [e,if_false] at Z0
     have hm:=hs.mem κ' bk Z0
     refine hm.mono (fun _ x=>x) hw (fun _ _ e=>e) (fun g c hgc=>?_)
     rw [hgc] at hm
     exact ⟨hk.block g hm.at.lt (fun ⟨c',R7⟩=>e (hs.inj κ' κ bk b g c c' Z0 hκ hgc R7)),hm.at.not⟩
   ·have get:∀ k bk,(A.set κ (some b')).lb k=some bk→∃ bk',A.lb k=some bk':=fun k bk h=>by
     simp only [M.set] at h
     by_cases e:k=κ
     ·subst e; exact ⟨b,hκ⟩
     ·simp only [e,if_false] at h; exact ⟨bk,h⟩
    obtain ⟨b1',q1⟩:=get _ _ h1
    obtain ⟨b2',q2⟩:=get _ _ h2
    exact hs.inj κ1 κ2 b1' b2' g c c' q1 q2 h3 h4
   ·simp only [M.set] at h1
    by_cases e:κ'=κ
    ·subst e; exact hs.own κ' b g c hκ h2
    ·simp only [e,if_false] at h1; exact hs.own κ' bk g c h1 h2
   ·exact hs.kept.trans hk (fun q hq ⟨c,hc⟩=>by
     rcases hs.own κ b q c hκ hc with h | h
     ·omega
     ·exact h)
  refine ⟨S,μ,?_⟩
  have e:(Tr.mk need o.dst .any ro [(κ,b)] [(κ,b')] gs).apply A=(A.set κ (some b')).uP o.dst .any:=by
   cases cu:o.dst with
   | none=>exact eT _
   | some d =>
    have:=eT (A:=A) (κ:=κ) (b:=b) (b':=b') (need:=need) (ro:=ro) (gs:=gs) .any
    unfold Tr.apply at this ⊢
    simp only [M.uP,M.put,M.set,M.mk.injEq,Option.some.injEq] at this ⊢
    refine ⟨?_,this.2⟩
    funext t
    by_cases c:t=d
    ·simp [c]
    ·have:¬ d=t:=fun e=>c e.symm
     simp [c,this]
  rw [e]
  exact h1.put hd (.any _)
end
def AD (n k:Nat) (z:List D):List AV:=(List.range n).map fun q=>.d (z.getD (q % k) default)
section
variable {C : Cx} {A : M} {a : Act} {w : World} {S : Nat → Prop} {μ : Mu} {ν : Nat → Bool}
def unN (ρ:Operand→Option AV) (x:Operand):Option AV:=match ρ x with
 | some (.uH n f)=>some (.d (.sl n f))
 | y=>y
theorem SL {ρ:Operand→Option AV} (h:∀ x y,ρ x=some y→Rel w S μ ν y (a.eval x)):∀ x y,unN ρ x=some y→Rel w S μ ν y (a.eval x):=by
 intro x y hy
 unfold unN at hy
 split at hy
 ·rename_i n f hx
  have h1:=h x _ hx
  obtain rfl:=Option.some.inj hy
  generalize a.eval x=v at h1
  cases h1 with
  | uH hd=>exact .d hd
 ·exact h x y hy
def qe (T:List (Nat × TI)) (ρ:Operand→Option AV) (t len:Nat) (ps:List (Nat × Operand)):Option (Nat × Nat × List D) :=
 match look T t,va ρ ps with
 | some { kind:=.slice e,.. },some vs=>(match look T e with
  | some i=>bif Nat.ble (len * i.size) 16777216&&Nat.ble 1 i.size then (match DU (fun q=>some (q * i.size,i.size)) (AD (len * i.size) i.size i.zero) vs with
   | some cs=>(match qR cs with | some ds=>bif Nat.beq ds.length (len * i.size) then some (e,i.size,ds) else none | none=>none)
   | none=>none) else none
  | none=>none)
 | _,_=>none
theorem vf {P:Program} {T:List (Nat × TI)} (hT:im P T) {ρ:Operand→Option AV} (hρ:∀ x y,ρ x=some y→Rel w S μ ν y (a.eval x)) {t len:Nat} {ps:Array (Nat × Operand)} {e k:Nat} {ds:List D} (h:qe T ρ t len ps.toList=some (e,k,ds)) :
  ∃ cells:Array Value,(Instr.buildSlice t len (ps.map fun (i,x)=>(i,a.eval x))).run P w=.ok (.slice (some ⟨w.heap.size,0,none⟩) len len) (w.alloc (.cells cells e))∧cells.size=len * k∧gv w S k len (xK k len ds) cells.toList∧ds.length=len * k∧len≤maxLen:=by
 unfold qe at h
 split at h
 ·rename_i e' _ _ _ _ vs hl hv
  split at h
  ·rename_i i hi
   cases hb:(Nat.ble (len * i.size) 16777216&&Nat.ble 1 i.size) with
   | false=>rw [hb] at h; cases h
   | true =>
    rw [hb] at h
    simp only [Bool.and_eq_true] at hb
    have hle:=Nat.le_of_ble_eq_true hb.1
    have IU:=Nat.le_of_ble_eq_true hb.2
    simp only [cond_true] at h
    split at h
    ·rename_i cs Au
     split at h
     ·rename_i ds' hp
      cases tD:Nat.beq ds'.length (len * i.size) with
      | false=>rw [tD] at h; cases h
      | true =>
       rw [tD] at h
       have hdl:=Nat.eq_of_beq_eq_true tD
       simp only [cond_true,Option.some.injEq,Prod.mk.injEq] at h
       obtain ⟨rfl,rfl,rfl⟩:=h
       have ecs:=mY hp
       subst ecs
       obtain ⟨ti,z,F⟩:=ar (hT t _ hl)
       have hu:=dp F.kind
       obtain ⟨tj,zj,G⟩:=ar (hT e' _ hi)
       obtain ⟨q1,q2⟩:=ga (w:=w) (S:=S) G.Sq
       have hzs:zj.cells.size=i.size:=by rw [← G.xH,← q1]; simp
       have hz:dq w S μ ν (AD (len * i.size) i.size i.zero) ((Array.range (len * i.size)).map (zj.cells[· % zj.cells.size]!)).toList:=by
        refine ⟨by simp [AD],fun q hq=>?_⟩
        have Nt:q < len * i.size:=by simpa [AD] using hq
        have hm:q % i.size < i.size:=Nat.mod_lt _ IU
        have e1:(AD (len * i.size) i.size i.zero).getD q default=.d (i.zero.getD (q % i.size) default):=by simp [AD,List.getD,Nt]
        have e2:((Array.range (len * i.size)).map (zj.cells[· % zj.cells.size]!)).toList.getD q undef=zj.cells.toList.getD (q % i.size) undef:=by
         have h1:q % i.size < zj.cells.size:=by omega
         simp only [List.getD,Array.getElem?_toList,Array.getElem?_map,Array.getElem?_range,Nt,if_true,Option.map_some,Option.getD_some,hzs]
         rw [getElem!_pos zj.cells _ h1,Array.getElem?_eq_getElem h1]
         rfl
        rw [e1,e2]
        exact .d (q2 _ (by rw [G.xH]; exact hm))
       obtain ⟨v1,v2⟩:=tN hρ ps.toList vs hv
       obtain ⟨DV,hf,hr⟩:=v8 (fun q=>some (q * i.size,i.size)) vs (ps.toList.map fun p=>(p.1,a.eval p.2)) _ _ ((Array.range (len * i.size)).map (zj.cells[· % zj.cells.size]!)) hz v1 v2 Au
       have pZ:DV.size=len * i.size:=by have:=hr.1; simp at this; omega
       refine ⟨DV,?_,pZ,⟨by simpa using pZ,fun q hq=>⟨(vb hdl hq).1,fun j hj=>?_⟩⟩,hdl,?_⟩
       ·have Xf:(ps.map fun (i,x)=>(i,a.eval x)).toList=ps.toList.map fun p=>(p.1,a.eval p.2):=by simp
        have hn:¬ len * i.size > 2 ^ 24:=by omega
        simp only [Instr.buildSlice,Sem.run_bind,run_underlying hu,Result.andThen_ok,sizeOf,typeInfo,run_program,G.info,Sem.run_pure,G.size,Sem.run_ite,hn,if_false,Xf]
        by_cases h0:len * i.size=0
        ·rw [h0] at pZ hf
         simp only [h0,if_true]
         have:∀ (g g':Nat→Value),(Array.range 0).map g=(Array.range 0).map g':=fun g g'=>by simp
         rw [this _ (zj.cells[· % zj.cells.size]!),hf]
         simp [newRow]
        ·simp only [h0,if_false,zeroValue,typeInfo,Sem.run_bind,run_program,Result.andThen_ok,G.info,Sem.run_pure,G.zero]
         rw [hf]
         simp [newRow]
       ·rw [(vb hdl hq).2 j hj]
        have cI:q * i.size+j < ds'.length:=by
         rw [hdl]
         calc q * i.size+j < q * i.size+i.size:=by omega
          _=(q+1) * i.size:=by rw [Nat.add_mul,Nat.one_mul]
          _≤len * i.size:=Nat.mul_le_mul_right _ hq
        have:=hr.2 (q * i.size+j) (by simpa using cI)
        rw [gb _ _ cI] at this
        exact eE.1 this
       ·have:len * 1≤len * i.size:=Nat.mul_le_mul_left len IU
        simp only [maxLen]
        omega
     ·cases h
    ·cases h
  ·cases h
 ·cases h
theorem Ci {T:List (Nat × TI)} (hT:im C.P T) {o:Oper} {dst t len:Nat} {ps:Array (Nat × Operand)} {e k:Nat} {ds:List D} {ρ:Operand→Option AV} {need:List (Nat × AV)} {ro:List (Nat × aZ)} {gs:List (Nat × Bool)}
  (hs:cG C A a w S μ ν) (hd:o.dst=some dst) (UZ:dst < C.nt) (ho:o.op=.buildSlice t len ps) (hρ:∀ x y,ρ x=some y→Rel w S μ ν y (a.eval x)) (h:qe T ρ t len ps.toList=some (e,k,ds)) (hf:gL A dst) :
  o.wp C.P a w (fun a' w'=>∃ S' μ',cG C ((Tr.mk need (some dst) (.own dst len) ro [] [(dst,.row e k len (xK k len ds))] gs).apply A) a' w' S' μ' ν) (fun _ _ _=>False):=by
 obtain ⟨cells,dM,dK,kJ,_,Vu⟩:=vf hT hρ h
 unfold Oper.wp execOp
 simp only [ho,Sem.run_bind,dM,Result.andThen_ok,Sem.run_pure]
 have iw:¬ S w.heap.size:=fun h=>by have:=hs.bound _ h; omega
 have hw:∀ q,S q→(w.alloc (.cells cells e)).heap[q]? = w.heap[q]?:=fun q hq=>heap_alloc_old w _ (hs.bound q hq)
 have h1:=hs.alloc hf (b:=.row e k len (xK k len ds)) (cur:=cells) (e:=e) (cap:=len) (by simp [aZ.keys]) (DZ (heap_alloc_new w _) iw dK (Nat.le_refl _) Vu (by rw [← dK,← Array.length_toList,List.take_length]) (kJ.mono (fun _ x=>x) hw))
 have h2:=h1.put (dst:=some dst) (x:=.own dst len) (v:=.slice (some ⟨w.heap.size,0,none⟩) len len) (fun t ht=>by cases ht; exact UZ) (.own (by simp [cA]))
 rw [lP]
 exact ⟨S,_,by rw [hd]; exact h2⟩
theorem QI {T:List (Nat × TI)} (hT:im C.P T) {o:Oper} {dst t e:Nat} {l c:Operand} {it i:TI} {kl kc:IntKind} {n:Int} {need:List (Nat × AV)} {ro:List (Nat × aZ)} {gs:List (Nat × Bool)}
  (hs:cG C A a w S μ ν) (hd:o.dst=some dst) (UZ:dst < C.nt) (ho:o.op=.makeSlice t l c) (ht:look T t=some it) (hk:it.kind=.slice e) (he:look T e=some i) (hl:a.eval l=.int kl n) (hc:a.eval c=.int kc n)
  (h0:0≤n) (hm:n.toNat≤maxLen) (hb:n.toNat * i.bytes≤140737488355328) (hf:gL A dst) :
  o.wp C.P a w (fun a' w'=>∃ S' μ',cG C ((Tr.mk need (some dst) (.own dst n.toNat) ro [] [(dst,.row e i.size n.toNat fun _=>i.zero)] gs).apply A) a' w' S' μ' ν) (fun _ _ _=>False):=by
 obtain ⟨tj,z,F⟩:=ar (hT _ _ ht)
 obtain ⟨ej,ez,G⟩:=ar (hT _ _ he)
 have mZ:=F.kind
 rw [hk] at mZ
 have hu:=dp mZ
 have Vu:n≤9223372036854775807:=by have:=hm; simp only [maxLen] at this; omega
 have R8:(ej.bytes:Int) * n≤281474976710656:=by
  rw [G.bytes]
  have h1:((i.bytes * n.toNat:Nat):Int)≤281474976710656:=by rw [Nat.mul_comm]; omega
  rw [Int.natCast_mul,Int.toNat_of_nonneg h0] at h1
  exact h1
 have dM:=run_make (P:=C.P) w t e ej ez hu G.info G.zero kl kc n n h0 (Int.le_refl _) R8 Vu
 rw [G.size] at dM
 unfold Oper.wp execOp
 simp only [ho,hl,hc,Sem.run_bind,dM,Result.andThen_ok,Sem.run_pure]
 have iw:¬ S w.heap.size:=fun h=>by have:=hs.bound _ h; omega
 have hw:∀ q,S q→(w.alloc (.cells (madeCells ez.cells (n.toNat * i.size)) e)).heap[q]? = w.heap[q]?:=fun q hq=>heap_alloc_old w _ (hs.bound q hq)
 obtain ⟨q1,q2⟩:=ga (w:=w) (S:=S) G.Sq
 have Vv:ez.cells.size=i.size:=by have:=q1; simp only [Array.length_toList] at this; rw [this,G.xH]
 have kJ:gv w S i.size n.toNat (fun _=>i.zero) (madeCells ez.cells (n.toNat * i.size)).toList:=by
  refine ⟨by simp [size_madeCells],fun q hq=>⟨G.xH,fun j hj=>?_⟩⟩
  have cI:q * i.size+j < n.toNat * i.size:=by
   calc q * i.size+j < q * i.size+i.size:=by omega
    _=(q+1) * i.size:=by rw [Nat.add_mul,Nat.one_mul]
    _≤n.toNat * i.size:=Nat.mul_le_mul_right _ hq
  have e1:(madeCells ez.cells (n.toNat * i.size)).toList.getD (q * i.size+j) undef=ez.cells.toList.getD j undef:=by
   have Ar:j < ez.cells.size:=by omega
   have La:(q * i.size+j) % ez.cells.size=j:=by rw [Vv,Nat.mul_comm,Nat.mul_add_mod,Nat.mod_eq_of_lt hj]
   simp [madeCells,List.getD,cI,La,Ar]
  rw [e1]
  exact q2 j (by rw [G.xH]; exact hj)
 have h1:=hs.alloc hf (b:=.row e i.size n.toNat fun _=>i.zero) (cur:=madeCells ez.cells (n.toNat * i.size)) (e:=e) (cap:=n.toNat) (by simp [aZ.keys]) (DZ (heap_alloc_new w _) iw (size_madeCells _ _) (Nat.le_refl _) hm (List.take_of_length_le (by simp [size_madeCells])) (kJ.mono (fun _ x=>x) hw))
 have h2:=h1.put (dst:=some dst) (x:=.own dst n.toNat) (v:=.slice (some ⟨w.heap.size,0,none⟩) n.toNat n.toNat) (fun t ht=>by cases ht; exact UZ) (.own (by simp [cA]))
 rw [lP]
 exact ⟨S,_,by rw [hd]; exact h2⟩
theorem D9 {T:List (Nat × TI)} (hT:im C.P T) {o:Oper} {t len:Nat} {ps:Array (Nat × Operand)} {e k:Nat} {ds:List D} {ρ:Operand→Option AV} {τ:Tr}
  (hs:cG C A a w S μ ν) (hd:∀ t,o.dst=some t→t < C.nt) (ho:o.op=.buildSlice t len ps) (hρ:∀ x y,ρ x=some y→Rel w S μ ν y (a.eval x)) (h:qe T ρ t len ps.toList=some (e,k,ds))
  (h0:τ.v=.d (.sl len (xK k len ds))) (h1:τ.dst=o.dst) (h2:τ.mem=[]) (h3:τ.cS=[]) :
  o.wp C.P a w (fun a' w'=>∃ S' μ',cG C (τ.apply A) a' w' S' μ' ν) (fun _ _ _=>False):=by
 obtain ⟨cells,dM,dK,kJ,_,Vu⟩:=vf hT hρ h
 unfold Oper.wp execOp
 simp only [ho,Sem.run_bind,dM,Result.andThen_ok,Sem.run_pure]
 let S':Nat→Prop:=fun q=>S q∨q=w.heap.size
 have h4:=hs.world (S':=S') (w':=w.alloc (.cells cells e)) (fun _ x=>.inl x) (fun q hq=>hq.elim .inl (fun e=>.inr ⟨by omega,by rw [e]; simp⟩)) (lF w _ _)
 have Nv:Rd (w.alloc (.cells cells e)) S' (.sl len (xK k len ds)) (.slice (some ⟨w.heap.size,0,none⟩) len len):=by
  refine .sl len _ ⟨w.heap.size,0,none⟩ len k (fun i j=>cells.toList.getD (i * k+j) undef) (Nat.le_refl _) Vu (.inr rfl) (fun i hi=>(kJ.2 i hi).1) (fun i j hi hj=>⟨.inr rfl,?_⟩) (fun i j hi hj=>?_)
  ·have cI:i * k+j < cells.size:=by
    rw [dK]
    calc i * k+j < i * k+k:=by omega
     _=(i+1) * k:=by rw [Nat.add_mul,Nat.one_mul]
     _≤len * k:=Nat.mul_le_mul_right k hi
   rw [kN _ _ _ cells e (0,0) (heap_alloc_new w _)]
   simp [List.getD,cI]
  ·exact ((kJ.2 i hi).2 j hj).mono (fun _ x=>.inl x) (fun q hq=>heap_alloc_old w _ (hs.bound q hq))
 have h5:=h4.put (dst:=o.dst) (x:=.d (.sl len (xK k len ds))) (v:=.slice (some ⟨w.heap.size,0,none⟩) len len) hd (.d Nv)
 refine ⟨S',μ,?_⟩
 have e:τ.apply A=A.uP o.dst (.d (.sl len (xK k len ds))):=by
  unfold Tr.apply M.uP M.put
  rw [h0,h1,h2,h3]
  cases ho:o.dst with
  | none=>simp [look]
  | some d =>
   simp only [look,List.map_nil,List.not_mem_nil,if_false,Option.some.injEq]
   congr 1
   funext t
   by_cases c:d=t
   ·simp [c]
   ·have:¬ t=d:=fun e=>c e.symm
    simp [c,this]
 rw [e]
 exact h5
def IV (T:List (Nat × TI)) (ρ:Operand→Option AV):Op→Option (AV × Ob)
 | .convert src d x=>(match ρ x,look T src,look T d with
  | some (.d (.v (.string s))),some _,some { kind:=.slice e,.. }=>(match look T e with
   | some { kind:=.int .u8,.. }=>some (.d (.sl s.size fun i=>[.v (.int .u8 (s.data.toList.getD i 0).toNat)]),.pr (s.size≤maxLen))
   | _=>none)
  | _,_,_=>none)
 | _=>none
theorem NN {T:List (Nat × TI)} (hT:im C.P T) (hs:cG C A a w S μ ν) {o:Oper} {ρ:Operand→Option AV} (hρ:∀ x y,ρ x=some y→Rel w S μ ν y (a.eval x)) (hd:∀ t,o.dst=some t→t < C.nt) {v:AV} {ob:Ob} (h:IV T ρ o.op=some (v,ob)) (bz:ob.den) (need:List (Nat × AV)) (ro:List (Nat × aZ)) (gs:List (Nat × Bool)) :
  o.wp C.P a w (fun a' w'=>∃ S' μ',cG C ((Tr.mk need o.dst v ro [] [] gs).apply A) a' w' S' μ' ν) (fun _ _ _=>False):=by
 unfold IV at h
 split at h
 ·rename_i src d x ho
  split at h
  ·rename_i s ti e _ _ _ _ hx jh cu
   split at h
   ·rename_i _ _ _ _ he
    simp only [Option.some.injEq,Prod.mk.injEq] at h
    obtain ⟨rfl,rfl⟩:=h
    have bz:s.size≤maxLen:=bz
    have hv:=bG rfl (hρ _ _ hx)
    obtain ⟨ds,hds⟩:∃ q,C.P.underlying src=some q:=by
     obtain ⟨tj,zj,G⟩:=ar (hT _ _ jh)
     have:=G.kind
     cases hu:C.P.underlying src with
     | some q=>exact ⟨q,rfl⟩
     | none=>cases hk:ti.kind <;> rw [hk] at this <;> simp [df,hu] at this
    obtain ⟨t1,z1,F1⟩:=ar (hT _ _ cu)
    obtain ⟨t2,z2,F2⟩:=ar (hT _ _ he)
    have dM:=Lib.run_convert_string_bytes (P:=C.P) w src d e s hds (dp F1.kind) (kO F2.kind)
    unfold Oper.wp execOp
    simp only [ho,hv,Sem.run_bind,dM,Result.andThen_ok,Sem.run_pure]
    let S':Nat→Prop:=fun q=>S q∨q=w.heap.size
    have yQ:Kept w (Lib.bytesWorld w e s) (fun _=>False):=⟨rfl,rfl,rfl,by rw [Lib.bytesWorld_size]; omega,fun b hb _=>Lib.bytesWorld_at_old w e s b hb⟩
    have h4:=hs.world (S':=S') (fun _ x=>.inl x) (fun q hq=>hq.elim .inl (fun e'=>.inr ⟨by omega,by rw [e',Lib.bytesWorld_size]; omega⟩)) yQ
    have Nv:Rd (Lib.bytesWorld w e s) S' (.sl s.size fun i=>[.v (.int .u8 (s.data.toList.getD i 0).toNat)]) (.slice (some ⟨w.heap.size,0,none⟩) s.size (grownCap w s.size 0 e)):=by
     refine .sl s.size _ ⟨w.heap.size,0,none⟩ _ 1 (fun i _=>.int .u8 (s.data.toList.getD i 0).toNat) (grownCap_ge w s.size 0 e) (grownCap_le_maxLen w s.size 0 e bz) (.inr rfl) (fun i hi=>rfl) (fun i j hi hj=>⟨.inr rfl,?_⟩) (fun i j hi hj=>?_)
     ·obtain rfl:j=0:=by omega
      simp only [Nat.mul_one,Nat.add_zero,Nat.zero_add]
      exact Lib.bytesWorld_cell w e s i hi
     ·obtain rfl:j=0:=by omega
      exact .v _ rfl
    have h5:=h4.put (dst:=o.dst) hd (.d Nv)
    refine ⟨S',μ,?_⟩
    have e:(Tr.mk need o.dst (.d (.sl s.size fun i=>[.v (.int .u8 (s.data.toList.getD i 0).toNat)])) ro [] [] gs).apply A=A.uP o.dst (.d (.sl s.size fun i=>[.v (.int .u8 (s.data.toList.getD i 0).toNat)])):=by
     unfold Tr.apply M.uP M.put
     cases ho:o.dst with
     | none=>simp [look]
     | some d =>
      simp only [look,List.map_nil,List.not_mem_nil,if_false,Option.some.injEq]
      congr 1
      funext t
      by_cases c:d=t
      ·simp [c]
      ·have:¬ t=d:=fun e=>c e.symm
       simp [c,this]
    rw [e]
    exact h5
   ·cases h
  ·cases h
 ·cases h
end
section
variable {C : Cx} {A : M} {a : Act} {w : World} {S : Nat → Prop} {μ : Mu} {ν : Nat → Bool}
theorem oj {P:Program} {t k e:Nat} (h:df P t (.map k e)=true):P.underlying t=some (.map k e):=by
 simp only [df] at h
 split at h
 ·rename_i x; simp only [Bool.and_eq_true,beq_iff_eq] at h; obtain ⟨rfl,rfl⟩:=h; exact x
 ·cases h
theorem cG.tT (h:cG C A a w S μ ν) {κ g cap:Nat} {b b':aZ} {w':World} (hκ:A.lb κ=some b) (hμ:μ κ=some (some (g,cap))) (hk:Kept w w' (fun q=>q=g)) (hb:cx w' S μ b' g cap):cG C (A.set κ (some b')) a w' S μ ν:=by
 have QC:=h.mem κ b hκ
 rw [hμ] at QC
 have iw:=QC.at.not
 have hw:∀ q,S q→w'.heap[q]? = w.heap[q]?:=fun q hq=>hk.block q (h.bound q hq) (fun e=>iw (e ▸ hq))
 refine ⟨h.tmps,h.defers,fun t=>(h.dN t).mono (fun _ x=>x) hw (fun _ _ x=>x),fun κ' X6 Ay=>?_,fun κ1 κ2 b1 b2 g' c c' h1 h2 h3 h4=>?_,fun κ' X6 g' c h1 h2=>?_,h.dR,h.fresh,fun q hq=>Nat.lt_of_lt_of_le (h.bound q hq) hk.size,?_⟩
 ·simp only [M.set] at Ay
  by_cases c:κ'=κ
  ·simp only [c,if_true,Option.some.injEq] at Ay
   subst Ay
   rw [c,hμ]
   exact hb.ok
  ·simp only [c,if_false] at Ay
   have hm:=h.mem κ' X6 Ay
   refine hm.mono (fun _ x=>x) hw (fun _ _ x=>x) (fun g' cc e=>?_)
   have X7:=hm
   rw [e] at X7
   exact ⟨hk.block g' X7.at.lt (fun eg=>c (h.inj κ' κ X6 b g' cc cap Ay hκ e (by rw [eg]; exact hμ))),X7.at.not⟩
 ·have q1:∃ x,A.lb κ1=some x:=by
   simp only [M.set] at h1
   by_cases c:κ1=κ
   ·rw [c]; exact ⟨b,hκ⟩
   ·simp only [c,if_false] at h1; exact ⟨_,h1⟩
  have q2:∃ x,A.lb κ2=some x:=by
   simp only [M.set] at h2
   by_cases c:κ2=κ
   ·rw [c]; exact ⟨b,hκ⟩
   ·simp only [c,if_false] at h2; exact ⟨_,h2⟩
  obtain ⟨x1,q1⟩:=q1
  obtain ⟨x2,q2⟩:=q2
  exact h.inj κ1 κ2 x1 x2 g' c c' q1 q2 h3 h4
 ·have q1:∃ x,A.lb κ'=some x:=by
   simp only [M.set] at h1
   by_cases c:κ'=κ
   ·rw [c]; exact ⟨b,hκ⟩
   ·simp only [c,if_false] at h1; exact ⟨_,h1⟩
  obtain ⟨x1,q1⟩:=q1
  exact h.own κ' x1 g' c q1 h2
 ·refine h.kept.trans hk (fun q hq e=>?_)
  subst e
  rcases h.own κ b q cap hκ hμ with h1 | h1
  ·omega
  ·exact h1
def World.nb (w:World) (r:Nat) (o:Obj):World:={ w with heap:=w.heap.setIfInBounds r o }
def IW:Obj→Bool
 | .cells _ _ _=>false
 | _=>true
theorem fq {P:Program} {r:Nat} {o:Obj} (h:w.heap[r]? = some o) (hn:IW o=true:=by rfl):(getObj r).run P w=.ok o w:=by
 cases o <;> first | (simp [IW] at hn; done) | simp [getObj,Sem.run,h]
theorem mc {P:Program} {r:Nat} {x:Obj} (o:Obj) (h:w.heap[r]? = some x) (hn:IW x=true:=by rfl):(setObj r o).run P w=.ok () (World.nb w r o):=by
 cases x <;> first | (simp [IW] at hn; done) | simp [setObj,Sem.run,h,World.nb]
theorem eI (r:Nat) (o:Obj):Kept w (World.nb w r o) (fun q=>q=r):=⟨rfl,rfl,rfl,by simp [World.nb],fun q _ hq=>by
 have:¬ r=q:=fun e=>hq e.symm
 simp [World.nb,Array.getElem?_setIfInBounds,this]⟩
theorem pD {r:Nat} {x:Obj} (o:Obj) (h:w.heap[r]? = some x):(World.nb w r o).heap[r]? = some o:=by
 have hr:=(Array.getElem?_eq_some_iff.1 h).1
 simp [World.nb,hr]
def Ea:Value→Value→Bool
 | .int k a,.int k' b=>decide (k=k')&&!(a == b)
 | _,_=>false
theorem Eb {kk:IntKind} {kv:Value}:∀ (es:List MapEntry) (i:Nat),(∀ e,e∈es→Ea kv e.key=true)→(∃ k n,kv=.int k n)→Instr.findNow (.int kk) kv es i=some none
 | [],_,_,_=>rfl
 | e :: es,i,h,hv=>by
  have h1:=h e (by simp)
  obtain ⟨k,n,rfl⟩:=hv
  have ih:=Eb (kk:=kk) es (i+1) (fun x hx=>h x (by simp [hx])) ⟨k,n,rfl⟩
  cases hk:e.key with
  | int k' m =>
   rw [hk] at h1
   simp only [Ea,Bool.and_eq_true,decide_eq_true_eq,Bool.not_eq_true'] at h1
   obtain ⟨rfl,h2⟩:=h1
   simp only [Instr.findNow,Instr.sameNow,hk,if_true,h2]
   exact ih
  | _=>rw [hk] at h1; simp [Ea] at h1
structure R where
 v:AV
 ro:List (Nat × aZ)
 mem:List (Nat × aZ)
 cS:List (Nat × aZ)
 ob:Ob
theorem j9 {P:Program} {b:Bool} {kt:TypeId} {ik kk:IntKind} {n:Int} (Pz:P.underlying kt=some (.int ik)) (q:Nat):(Instr.checkKey b (q+1) kt (.int kk n)).run P w=.ok () w:=by
 rw [Instr.checkKey]
 simp [run_underlying Pz]
theorem Ec {P:Program} {t kt et:TypeId} {ik kk:IntKind} {n0:Int} {g clock:Nat} {cur:Array MapEntry} {x:Value} (hu:P.underlying t=some (.map kt et)) (Pz:P.underlying kt=some (.int ik)) (hg:w.heap[g]? = some (.map cur clock)) (hf:Instr.findNow (.int ik) (.int kk n0) cur.toList 0=some none) :
  (Instr.mapUpdate t (.map (some g)) (.int kk n0) x).run P w=.ok () (World.nb w g (.map (cur.push { key:=.int kk n0,val:=x,born:=clock }) (clock+1))):=by
 unfold Instr.mapUpdate
 simp only [Sem.run_bind,run_underlying hu,Result.andThen_ok,fq hg,j9 Pz 9999,Instr.findKey,run_underlying Pz,hf,Sem.run_pure,mc _ hg]
def Ed (T:List (Nat × TI)) (lb:List (Nat × aZ)) (ρ:Operand→Option AV) (dst:Option Nat) (quiet:Bool):Op→Option R
 | .makeMap _ none=>(match quiet,dst with
  | false,some d=>some ⟨.kD d,[],[],[(d,.mp 0 fun _=>(.bool false,default))],.tt⟩
  | _,_=>none)
 | .insert t m k x=>(match quiet,dst,ρ m,ρ k,ρ x,look T t with
  | false,none,some (.kD κ),some (.d (.v (.int kk a))),some (.d xd),some { kind:=.map kt _,.. }=>(match look lb κ,look T kt with
   | some (.mp n f),some { kind:=.int _,.. }=>some ⟨.any,[],[(κ,.mp n f)],[(κ,.mp (n+1) fun q=>if q < n then f q else (.int kk a,xd))],.be ((List.range n).all fun i=>Ea (.int kk a) (f i).1) true⟩
   | _,_=>none)
  | _,_,_,_,_,_=>none)
 | .range t m=>(match quiet,dst,ρ m,look T t with
  | false,some d,some (.kD κ),some { kind:=.map _ _,.. }=>(match look lb κ with
   | some (.mp n f)=>bif Nat.beq d κ then none else some ⟨.ptr d 0,[(κ,.mp n f)],[],[(d,.it κ n [])],.tt⟩
   | _=>none)
  | _,_,_,_=>none)
 | .entry it=>(match ρ it with
  | some (.ptr κi 0)=>(match look lb κi with
   | some (.it κ n (i :: s))=>(match look lb κ with
    | some (.mp n' f)=>some ⟨.il [.d (XQ (f i).1),.d (f i).2],[(κi,.it κ n (i :: s)),(κ,.mp n' f)],[],[],(Ob.ne n n').and (.pr (i < n))⟩
    | _=>none)
   | _=>none)
  | _=>none)
 | .slice t x none (some h) none=>(match quiet,dst,ρ x,ρ h,look T t with
  | false,some d,some (.own κ n),some (.d (.v (.int _ hh))),some { kind:=.slice e,.. }=>(match look lb κ,look T e with
   | some (.row e' k n' f),some i=>bif Nat.beq d κ||!Nat.beq e e'||!Nat.beq k i.size then none else some ⟨.own d hh.toNat,[],[(κ,.row e' k n' f)],[(d,.row e' k hh.toNat f)],(Ob.ne n n').and (.pr (0≤hh∧hh≤n))⟩
   | _,_=>none)
  | false,some _,some (.d (.v (.slice none 0 0))),some (.d (.v (.int _ hh))),some { kind:=.slice e,.. }=>(match look T e with
   | some _=>some ⟨.d (.v (.slice none 0 0)),[],[],[],.pr (0≤hh∧hh≤0)⟩
   | none=>none)
  | _,_,_,_,_=>none)
 | .call { callee:=.builtin .cap,args:=xs,argTypes:=ts }=>(match oT ρ xs.toList,ts.toList with
  | some [.d (.v (.slice none 0 0))],[t]=>(match look T t with
   | some { kind:=.slice _,.. }=>some ⟨.d (.v (.int .i64 0)),[],[],[],.tt⟩
   | _=>none)
  | _,_=>none)
 | .call { callee:=.builtin .append,args:=xs,argTypes:=ts }=>(match quiet,dst,oT ρ xs.toList,ts.toList with
  | false,some d,some [.d (.v (.slice none 0 0)),.d (.v (.int .i64 n))],[t,t']=>(match look T t,look T t' with
   | some { kind:=.slice e,.. },some { kind:=.int .i64,.. }=>(match look T e with
    | some i=>some ⟨.own d n.toNat,[],[],[(d,.row e i.size n.toNat fun _=>i.zero)],.pr (0≤n∧n.toNat≤maxLen∧n.toNat * i.bytes≤140737488355328)⟩
    | none=>none)
   | _,_=>none)
  | _,_,_,_=>none)
 | .makeSlice t (.const (.int _ z)) (.tmp c)=>(match quiet,dst,look T t,ρ (.tmp c) with
  | false,some d,some { kind:=.slice e,.. },some (.d (.v (.int _ m)))=>(match look T e with
   | some i=>bif decide (z=0) then some ⟨.own d 0,[],[],[(d,.row e i.size 0 fun _=>i.zero)],.pr (0≤m∧m.toNat≤maxLen∧m.toNat * i.bytes≤140737488355328)⟩ else none
   | none=>none)
  | _,_,_,_=>none)
 | _=>none
theorem Lb {o:Oper} {d:Nat} {v:AV} {x:Value} {b:aZ} {w1:World} {need:List (Nat × AV)} {ro:List (Nat × aZ)} {gs:List (Nat × Bool)} (hs:cG C A a w S μ ν) (cu:o.dst=some d) (UZ:d < C.nt) (hf:gL A d) (hk:d ∉ b.keys)
  (dM:(execOp a.eval o).run C.P w=.ok (.value x) w1) (Yc:Kept w w1 (fun q=>q=w.heap.size)) (hb:∀ c,cx w1 S μ b w.heap.size c) (hv:∀ μ',μ' d=some (some (w.heap.size,0))→Rel w1 S μ' ν v x) :
  o.wp C.P a w (fun a' w'=>∃ S' μ',cG C ((Tr.mk need (some d) v ro [] [(d,b)] gs).apply A) a' w' S' μ' ν) (fun _ _ _=>False):=by
 unfold Oper.wp
 rw [dM]
 have iw:¬ S w.heap.size:=fun h=>by have:=hs.bound _ h; omega
 have h1:=hs.Pv hf (blk:=b) (b:=w.heap.size) (cap:=0) hk Yc iw (fun κ' b' g' c q1 q2 e'=>by
  have:=hs.mem κ' b' q1
  rw [q2] at this
  have:=this.at.lt
  omega) (.inl hs.kept.size) (hb 0)
 have h2:=h1.put (dst:=some d) (x:=v) (v:=x) (fun t ht=>by cases ht; exact UZ) (hv _ (by simp [cA]))
 rw [lP]
 exact ⟨S,_,by rw [cu]; exact h2⟩
theorem IX {T:List (Nat × TI)} (hT:im C.P T) (hs:cG C A a w S μ ν) {lb:List (Nat × aZ)} {o:Oper} {ρ:Operand→Option AV} (hρ:∀ x y,ρ x=some y→Rel w S μ ν y (a.eval x)) (hd:∀ t,o.dst=some t→t < C.nt) {quiet:Bool} {r:R}
  (h:Ed T lb ρ o.dst quiet o.op=some r) (iq:∀ p,p∈r.ro→A.lb p.1=some p.2) (dY:∀ p,p∈r.mem→A.lb p.1=some p.2) (bz:r.ob.den) (pP:∀ κ,κ∈(r.cS.map (·.1)).filter (fun k=>!(r.mem.map (·.1)).contains k)→gL A κ) (need:List (Nat × AV)) (gs:List (Nat × Bool)) :
  o.wp C.P a w (fun a' w'=>∃ S' μ',cG C ((Tr.mk need o.dst r.v r.ro r.mem r.cS gs).apply A) a' w' S' μ' ν) (fun _ _ _=>False):=by
 unfold Ed at h
 split at h
 all_goals rename_i ho
 ·-- makeMap
  split at h
  ·rename_i d cu
   simp only [Option.some.injEq] at h
   subst h
   rw [cu]
   have iw:¬ S w.heap.size:=fun h=>by have:=hs.bound _ h; omega
   refine Lb hs cu (hd d cu) (pP d (by simp)) (by simp [aZ.keys]) (x:=.map (some w.heap.size)) (w1:=w.alloc (.map #[] 0)) ?_ (lF w _ _) (fun c=>⟨#[],heap_alloc_new w _,iw,rfl,fun i hi=>absurd hi (by omega)⟩) (fun μ' hμ=>.kD hμ)
   simp [execOp,ho,Instr.makeMap]
  ·cases h
 ·-- insert
  rename_i t m k x
  split at h
  ·rename_i κ kk n0 xd kt _ _ _ _ _ cu hm hk hx ht
   split at h
   ·rename_i n f ik _ _ _ _ hl xM
    simp only [Option.some.injEq] at h
    subst h
    rw [cu]
    have hκ:=dY (κ,.mp n f) (by simp)
    have tU:=hs.mem κ _ hκ
    have hv:=hρ _ _ hm
    generalize Am:a.eval m=mv at hv
    cases hv with
    | @kD _ g cap hμ =>
     rw [hμ] at tU
     obtain ⟨cur,hg,iw,dK,aJ⟩:=tU.at
     obtain ⟨ti,z,F⟩:=ar (hT _ _ ht)
     obtain ⟨tj,zj,G⟩:=ar (hT _ _ xM)
     have hu:=oj F.kind
     have Pz:=kO G.kind
     have HH:=dh (hρ _ _ hk)
     have bz:(List.range n).all (fun i=>Ea (.int kk n0) (f i).1)=true:=bz
     simp only [List.all_eq_true,List.mem_range] at bz
     have cJ:Instr.findNow (.int ik) (.int kk n0) cur.toList 0=some none:=Eb _ 0 (fun e he=>by
      obtain ⟨q,hq,rfl⟩:=List.getElem_of_mem he
      have Z2:q < n:=by simpa [dK] using hq
      obtain ⟨e,h1,h2,_⟩:=aJ q Z2
      have:cur.toList[q]=e:=by
       have:=Array.getElem?_eq_some_iff.1 h1
       simpa using this.2
      rw [this,h2]
      exact bz q Z2) ⟨kk,n0,rfl⟩
     have dM:(execOp a.eval o).run C.P w=.ok .skip (World.nb w g (.map (cur.push { key:=.int kk n0,val:=a.eval x,born:=n }) (n+1))):=by
      have h1:=Ec (x:=a.eval x) hu Pz hg cJ
      unfold execOp
      rw [ho]
      simp only [Am,HH,Sem.run_bind,h1,Result.andThen_ok,Sem.run_pure]
     unfold Oper.wp
     rw [dM]
     refine ⟨S,μ,?_⟩
     rw [eT,cu]
     refine hs.tT hκ hμ (eI g _) ⟨_,pD _ hg,iw,by simp [dK],fun i hi=>?_⟩
     have hw:∀ q,S q→(World.nb w g (.map (cur.push { key:=.int kk n0,val:=a.eval x,born:=n }) (n+1))).heap[q]? = w.heap[q]?:=fun q hq=>(eI g _).block q (hs.bound q hq) (fun e=>iw (e ▸ hq))
     by_cases c:i < n
     ·obtain ⟨e,h1,h2,h3,h4,h5⟩:=aJ i c
      refine ⟨e,?_,by simp only [c,if_true]; exact h2,h3,h4,by simp only [c,if_true]; exact h5.mono (fun _ x=>x) hw⟩
      rw [Array.getElem?_push,if_neg (by omega)]
      exact h1
     ·obtain rfl:i=n:=by omega
      refine ⟨_,by rw [Array.getElem?_push,if_pos dK.symm],by simp only [c,if_false],rfl,rfl,?_⟩
      simp only [c,if_false]
      exact (eE.1 (hρ _ _ hx)).mono (fun _ x=>x) hw
   ·cases h
  ·cases h
 ·-- range
  rename_i t m
  split at h
  ·rename_i d κ _ _ _ _ _ _ cu hm ht
   split at h
   ·rename_i n f hl
    rw [Bool.cond_eq_ite] at h
    split at h
    ·cases h
    ·rename_i gN
     simp only [Option.some.injEq] at h
     subst h
     rw [cu]
     have hκ:=iq (κ,.mp n f) (by simp)
     have tU:=hs.mem κ _ hκ
     have hv:=hρ _ _ hm
     generalize Am:a.eval m=mv at hv
     cases hv with
     | @kD _ g cap hμ =>
      rw [hμ] at tU
      obtain ⟨cur,hg,aej,dK,aJ⟩:=tU.at
      obtain ⟨ti,z,F⟩:=ar (hT _ _ ht)
      have hu:=oj F.kind
      have iw:¬ S w.heap.size:=fun h=>by have:=hs.bound _ h; omega
      have Z3:d≠κ:=fun e=>by rw [e,Nat.beq_refl] at gN; exact gN rfl
      refine Lb hs cu (hd d cu) (pP d (by simp)) (by simp [aZ.keys,Z3]) (x:=.pointer (some ⟨w.heap.size,0,none⟩)) (w1:=w.alloc (.mapIter (some g) n #[] n)) ?_ (lF w _ _) (fun c=>⟨g,cap,hμ,heap_alloc_new w _,iw⟩) (fun μ' IQ=>.ptr IQ)
      simp [execOp,ho,Am,Instr.range,run_underlying hu,fq hg]
   ·cases h
  ·cases h
 ·-- entry
  rename_i it
  split at h
  ·rename_i κi hit
   split at h
   ·rename_i κ n i s Yd
    split at h
    ·rename_i n' f hl
     simp only [Option.some.injEq] at h
     subst h
     have bz:((Ob.ne n n').and (.pr (i < n))).den:=bz
     obtain ⟨o1,o2⟩:=Ob.bR bz
     have o1:n=n':=o1
     subst o1
     have o2:i < n:=o2
     have hκi:=iq (κi,.it κ n (i :: s)) (by simp)
     have hκ:=iq (κ,.mp n f) (by simp)
     have hv:=hρ _ _ hit
     generalize R9:a.eval it=iv at hv
     cases hv with
     | @ptr _ _ gi ci hμi =>
      have Sl:=hs.mem κi _ hκi
      rw [hμi] at Sl
      obtain ⟨mg,c,hμ,Xh,aaw⟩:=Sl.at
      have tU:=hs.mem κ _ hκ
      rw [hμ] at tU
      obtain ⟨cur,hg,iw,dK,aJ⟩:=tU.at
      obtain ⟨e,h1,h2,h3,h4,h5⟩:=aJ i o2
      have cJ:cur.find? (fun x=>x.born == i)=some e:=by
       rw [Array.find?_eq_some_iff_getElem]
       have hi:i < cur.size:=by omega
       refine ⟨by simp [h4],i,hi,(Array.getElem?_eq_some_iff.1 h1).2,fun j hj=>?_⟩
       obtain ⟨e',q1,_,_,q4,_⟩:=aJ j (by omega)
       have:cur[j]=e':=(Array.getElem?_eq_some_iff.1 q1).2
       rw [this,q4]
       simp
       omega
      refine fk (τ:=Tr.mk need o.dst (.il [.d (XQ (f i).1),.d (f i).2]) [(κi,.it κ n (i :: s)),(κ,.mp n f)] [] [] gs) hs hd (x:=.tuple #[e.key,e.val]) ?_ (.il rfl (fun q hq=>?_)) rfl rfl rfl
      ·simp [execOp,ho,R9,Instr.entry,fq Xh,fq hg,cJ]
      ·match q with
       | 0=>simpa [h2] using Rel.d (μ:=μ) (ν:=ν) (Vg (w:=w) (S:=S) h3)
       | 1=>simpa using Rel.d (μ:=μ) (ν:=ν) h5
       | q+2=>simp at hq; omega
    ·cases h
   ·cases h
  ·cases h
 ·-- slice
  rename_i t x hh0
  split at h
  ·rename_i d κ n kk hh e _ _ _ _ cu hx Vn ht
   split at h
   ·rename_i e' k n' f i hl Vo
    rw [Bool.cond_eq_ite] at h
    split at h
    ·cases h
    ·rename_i gN
     simp only [Bool.or_eq_true,Bool.not_eq_true',not_or,Bool.not_eq_false] at gN
     simp only [Option.some.injEq] at h
     subst h
     rw [cu]
     have bz:((Ob.ne n n').and (.pr (0≤hh∧hh≤n))).den:=bz
     obtain ⟨o1,o2,o3⟩:=Ob.bR bz
     have o1:n=n':=o1
     subst o1
     have Z3:d≠κ:=fun e=>gN.1.1 (by rw [e,Nat.beq_refl])
     have hκ:=dY (κ,.row e' k n f) (by simp)
     have tU:=hs.mem κ _ hκ
     obtain ⟨ti,z,F⟩:=ar (hT _ _ ht)
     have hu:=dp F.kind
     obtain ⟨te,ze,G⟩:=ar (hT _ _ Vo)
     have Cg:(sizeOf e).run C.P w=.ok i.size w:=by simp [sizeOf,typeInfo,G.info,G.size]
     have hhv:=dh (hρ _ _ Vn)
     have hf:gL A d:=pP d (by simp [Z3])
     have hv:=hρ _ _ hx
     generalize U2:a.eval x=xv at hv
     have Xi:=hs.drop κ
     have hfd:=hf.drop κ
     have q1:∀ (k:IntKind) (i:Int) (y:Nat) (c:BoundsCode),0≤i→i≤y→(Instr.sliceBound (.int k i) y c).run C.P w=.ok i.toNat w:=fun k i y c h0 h1=>run_sliceBound w k i y c h0 h1
     cases hv with
     | @cR _ ad hμ =>
      have acr:hh=0:=by omega
      subst acr
      unfold Oper.wp
      have dM:(execOp a.eval o).run C.P w=.ok (.value (.slice ad 0 0)) w:=by
       simp (disch:=omega) [execOp,ho,U2,hhv,Instr.sliceAt,run_underlying hu,Instr.slice,Instr.sliceBounds,q1,Cg]
      rw [dM]
      have h1:=Xi.yR hfd e' k f
      have h2:=h1.put (dst:=some d) (x:=.own d 0) (v:=.slice ad 0 0) (fun t ht=>by cases ht; exact hd d cu) (.cR (by simp [cA]))
      rw [tP Z3]
      exact ⟨S,_,by rw [cu]; exact h2⟩
     | @own _ _ g cap hμ =>
      rw [hμ] at tU
      have iw:=tU.at.not
      obtain ⟨cur,hg,_,h3,h4,h5,h6⟩:=tU.at
      unfold Oper.wp
      have Ye:hh.toNat≤cap:=by omega
      have dM:(execOp a.eval o).run C.P w=.ok (.value (.slice (some ⟨g,0,none⟩) hh.toNat cap)) w:=by
       simp (disch:=omega) [execOp,ho,U2,hhv,Instr.sliceAt,run_underlying hu,Instr.slice,Instr.sliceBounds,q1,Cg,addr_add]
      rw [dM]
      have h1:=Xi.Pv hfd (blk:=.row e' k hh.toNat f) (b:=g) (cap:=cap) (w':=w) (by simp [aZ.keys]) (Kept.refl _ _) iw (fun κ' b' g' c q1 q2 e'=>by
       simp only [M.set] at q1
       by_cases cc:κ'=κ
       ·simp [cc] at q1
       ·simp only [cc,if_false] at q1
        subst e'
        exact cc (hs.inj κ' κ b' _ g' c cap q1 hκ q2 hμ)) (hs.own κ _ g cap hκ hμ) ⟨cur,hg,iw,h3,Ye,h5,fun q hq=>h6 q (by omega)⟩
      have h2:=h1.put (dst:=some d) (x:=.own d hh.toNat) (v:=.slice (some ⟨g,0,none⟩) hh.toNat cap) (fun t ht=>by cases ht; exact hd d cu) (.own (by simp [cA]))
      rw [tP Z3]
      exact ⟨S,_,by rw [cu]; exact h2⟩
   ·cases h
  ·rename_i d kk hh e _ _ _ _ cu hx Vn ht
   split at h
   ·rename_i i Vo
    simp only [Option.some.injEq] at h
    subst h
    have bz:0≤hh∧hh≤0:=bz
    obtain rfl:hh=0:=by omega
    obtain ⟨ti,z,F⟩:=ar (hT _ _ ht)
    have hu:=dp F.kind
    obtain ⟨te,ze,G⟩:=ar (hT _ _ Vo)
    have Cg:(sizeOf e).run C.P w=.ok i.size w:=by simp [sizeOf,typeInfo,G.info,G.size]
    have hhv:=dh (hρ _ _ Vn)
    have U2:=bG rfl (hρ _ _ hx)
    have q1:∀ (k:IntKind) (i:Int) (y:Nat) (c:BoundsCode),0≤i→i≤y→(Instr.sliceBound (.int k i) y c).run C.P w=.ok i.toNat w:=fun k i y c h0 h1=>run_sliceBound w k i y c h0 h1
    refine fk (τ:=Tr.mk need o.dst (.d (.v (.slice none 0 0))) [] [] [] gs) hs hd (x:=.slice none 0 0) ?_ (fO rfl) rfl rfl rfl
    simp (disch:=omega) [execOp,ho,U2,hhv,Instr.sliceAt,run_underlying hu,Instr.slice,Instr.sliceBounds,q1,Cg]
   ·cases h
  ·cases h
 ·-- cap
  rename_i xs ts
  split at h
  ·rename_i t QB Kz
   split at h
   ·rename_i _ _ _ _ _ ht
    simp only [Option.some.injEq] at h
    subst h
    obtain ⟨ti,z,F⟩:=ar (hT _ _ ht)
    have hu:=dp F.kind
    have iP:=jE hρ xs.toList _ QB
    have PA:xs.map a.eval = #[.slice none 0 0]:=by
     have hl:(xs.map a.eval).toList.length=1:=by simpa using iP.1
     have h0:=iP.2 0 (by simp)
     have h0:=bG rfl h0
     apply Array.ext'
     rw [Array.toList_map] at hl ⊢
     match hq:xs.toList.map a.eval,hl with
     | [y],_=>rw [hq] at h0; simpa using h0
    have NP:ts = #[t]:=by cases ts; simpa using Kz
    refine fk (τ:=Tr.mk need o.dst (.d (.v (.int .i64 0))) [] [] [] gs) hs hd (x:=.int .i64 0) ?_ (fO rfl) rfl rfl rfl
    simp [execOp,ho,resolve,invoke,builtin,PA,NP,Builtin.cap_,run_underlying hu,goInt]
   ·cases h
  ·cases h
 ·-- append of ad2
  rename_i xs ts
  split at h
  ·rename_i d n t t' cu QB Kz
   split at h
   ·rename_i e _ _ _ _ _ _ _ _ ht ht'
    split at h
    ·rename_i i Vo
     simp only [Option.some.injEq] at h
     subst h
     have bz:0≤n∧n.toNat≤maxLen∧n.toNat * i.bytes≤140737488355328:=bz
     obtain ⟨o1,o2,o3⟩:=bz
     rw [cu]
     obtain ⟨ti,z,F⟩:=ar (hT _ _ ht)
     have hu:=dp F.kind
     obtain ⟨ti',z',F'⟩:=ar (hT _ _ ht')
     have Yf:=kO F'.kind
     obtain ⟨te,ze,G⟩:=ar (hT _ _ Vo)
     have iP:=jE hρ xs.toList _ QB
     have PA:xs.map a.eval = #[.slice none 0 0,.int .i64 n]:=by
      have hl:(xs.map a.eval).toList.length=2:=by simpa using iP.1
      have h0:=bG rfl (iP.2 0 (by simp))
      have h1:=bG rfl (iP.2 1 (by simp))
      apply Array.ext'
      rw [Array.toList_map] at hl ⊢
      match hq:xs.toList.map a.eval,hl with
      | [y,y'],_=>rw [hq] at h0 h1; simp only [List.getD_cons_zero,List.getD_cons_succ] at h0 h1; rw [h0,h1]
     have NP:ts = #[t,t']:=by cases ts; simpa using Kz
     have Vu:n≤9223372036854775807:=by have:=o2; simp only [maxLen] at this; omega
     have hwr:IntKind.i64.wrap n=n:=IntWalk.i64_in n ⟨by omega,Vu⟩
     obtain ⟨q1,q2⟩:=ga (w:=w) (S:=S) G.Sq
     have Vv:ze.cells.size=i.size:=by have:=q1; simp only [Array.length_toList] at this; rw [this,G.xH]
     have hf:gL A d:=pP d (by simp)
     by_cases h0:n=0
     ·subst h0
      have dM:(execOp a.eval o).run C.P w=.ok (.value (.slice none 0 0)) w:=by
       simp [execOp,ho,resolve,invoke,builtin,PA,NP,Builtin.append_,run_underlying hu,run_underlying Yf,sizeOf,typeInfo,G.info,asInt,asIntOf,hwr]
      unfold Oper.wp
      rw [dM]
      have h1:=hs.yR hf e i.size (fun _=>i.zero)
      have h2:=h1.put (dst:=some d) (x:=.own d 0) (v:=.slice none 0 0) (fun t ht=>by cases ht; exact hd d cu) (.cR (by simp [cA]))
      rw [lP]
      exact ⟨S,_,by rw [cu]; exact h2⟩
     ·have hn1:0 < n.toNat:=by omega
      have Az:=grownCap_ge w n.toNat 0 e
      have Cc:grownCap w n.toNat 0 e≤maxLen:=grownCap_le_maxLen w n.toNat 0 e o2
      have U3:¬ (281474976710656 < Builtin.nextslicecap n.toNat 0 * te.bytes):=by rw [nextslicecap_zero hn1,G.bytes]; omega
      have aax:¬ (281474976710656 < n * (te.bytes:Int)):=by
       rw [G.bytes]
       have h1:((n.toNat * i.bytes:Nat):Int)≤140737488355328:=by omega
       rw [Int.natCast_mul,Int.toNat_of_nonneg o1] at h1
       omega
      have dM:∃ cells:Array Value,(execOp a.eval o).run C.P w=.ok (.value (.slice (some ⟨w.heap.size,0,none⟩) n.toNat (grownCap w n.toNat 0 e))) (w.drew.alloc (.cells cells e))∧cells=Builtin.zeroCells ze.cells n.toNat++Builtin.zeroCells ze.cells (grownCap w n.toNat 0 e - n.toNat):=by
       refine ⟨_,?_,rfl⟩
       have hn0:¬ n.toNat=0:=by omega
       have aay:¬ n < 0:=by omega
       have hle:¬ n≤0:=by omega
       have X8:¬ (9223372036854775807 < n):=by omega
       have hmx:max n 0=n:=by omega
       by_cases dK:i.size=0
       ·have hz0:ze.cells.size=0:=by omega
        have hze:Builtin.zeroCells ze.cells n.toNat = #[]:=by simp [Builtin.zeroCells,hz0]
        rw [hze]
        simp [execOp,ho,resolve,invoke,builtin,PA,NP,Builtin.append_,run_underlying hu,run_underlying Yf,sizeOf,typeInfo,G.info,asInt,asIntOf,hwr,aay,hle,U3,aax,X8,hmx,Question.forced,Builtin.firstCells,newRow,grownCap,zeroValue,G.zero,G.size,dK]
       ·simp [execOp,ho,resolve,invoke,builtin,PA,NP,Builtin.append_,run_underlying hu,run_underlying Yf,sizeOf,typeInfo,G.info,asInt,asIntOf,hwr,aay,hle,U3,aax,X8,hmx,Question.forced,Builtin.firstCells,newRow,grownCap,zeroValue,G.zero,G.size]
        intro hc
        rcases Nat.mul_eq_zero.1 hc with hc | hc
        ·exact absurd hc hn0
        ·exact absurd hc dK
      obtain ⟨cells,dM,IY⟩:=dM
      have Ye:cells.size=grownCap w n.toNat 0 e * i.size:=by
       rw [IY]
       simp only [Array.size_append,size_zeroCells,Vv,← Nat.add_mul]
       congr 1
       omega
      unfold Oper.wp
      rw [dM]
      have iw:¬ S w.heap.size:=fun h=>by have:=hs.bound _ h; omega
      have hw:∀ q,S q→(w.drew.alloc (.cells cells e)).heap[q]? = w.heap[q]?:=fun q hq=>heap_alloc_old w.drew _ (hs.bound q hq)
      have h1:=hs.Pv hf (blk:=.row e i.size n.toNat fun _=>i.zero) (b:=w.heap.size) (cap:=grownCap w n.toNat 0 e) (w':=w.drew.alloc (.cells cells e)) (by simp [aZ.keys]) ⟨rfl,rfl,rfl,by simp,fun k hk _=>heap_alloc_old w.drew _ hk⟩ iw (fun κ' b' g' c q1 q2 e'=>by
       have:=hs.mem κ' b' q1
       rw [q2] at this
       have:=this.at.lt
       omega) (.inl hs.kept.size) ⟨cells,heap_alloc_new w.drew _,iw,Ye,Az,Cc,fun q hq=>⟨G.xH,fun j hj=>?_⟩⟩
      ·have h2:=h1.put (dst:=some d) (x:=.own d n.toNat) (v:=.slice (some ⟨w.heap.size,0,none⟩) n.toNat (grownCap w n.toNat 0 e)) (fun t ht=>by cases ht; exact hd d cu) (.own (by simp [cA]))
       rw [lP]
       exact ⟨S,_,by rw [cu]; exact h2⟩
      ·have cI:q * i.size+j < n.toNat * i.size:=by
        calc q * i.size+j < q * i.size+i.size:=by omega
         _=(q+1) * i.size:=by rw [Nat.add_mul,Nat.one_mul]
         _≤n.toNat * i.size:=Nat.mul_le_mul_right _ hq
       have Ar:j < ze.cells.size:=by omega
       have La:(q * i.size+j) % ze.cells.size=j:=by rw [Vv,Nat.mul_comm,Nat.mul_add_mod,Nat.mod_eq_of_lt hj]
       refine ⟨ze.cells[j],?_,?_⟩
       ·rw [IY,Array.getElem?_append_left (by rw [size_zeroCells,Vv]; exact cI)]
        have Gx:q * i.size+j < n.toNat * ze.cells.size:=by rw [Vv]; exact cI
        simp only [Builtin.zeroCells,Array.getElem?_map,Array.getElem?_range,Gx,if_true,Option.map_some,La]
        rw [getElem!_pos ze.cells j Ar]
       ·have:=(q2 j (by rw [G.xH]; exact hj)).mono (S':=S) (w':=w.drew.alloc (.cells cells e)) (fun _ x=>x) hw
        rw [show ze.cells.toList.getD j undef=ze.cells[j] from by simp [List.getD,Ar]] at this
        exact this
    ·cases h
   ·cases h
  ·cases h
 ·-- make,with a capacity
  rename_i t kz z c
  split at h
  ·rename_i d e _ _ _ _ km m cu ht hc
   split at h
   ·rename_i i hi
    rw [Bool.cond_eq_ite] at h
    split at h
    ·rename_i hz
     have hz:z=0:=by simpa using hz
     subst hz
     simp only [Option.some.injEq] at h
     subst h
     rw [cu]
     obtain ⟨o1,o2,o3⟩:0≤m∧m.toNat≤maxLen∧m.toNat * i.bytes≤140737488355328:=bz
     obtain ⟨tj,z,F⟩:=ar (hT _ _ ht)
     obtain ⟨ej,ez,G⟩:=ar (hT _ _ hi)
     have hu:=dp F.kind
     have Vu:m≤9223372036854775807:=by simp only [maxLen] at o2; omega
     have R8:(ej.bytes:Int) * m≤281474976710656:=by
      rw [G.bytes]
      have h1:((i.bytes * m.toNat:Nat):Int)≤281474976710656:=by rw [Nat.mul_comm]; omega
      rw [Int.natCast_mul,Int.toNat_of_nonneg o1] at h1
      exact h1
     have dM:=run_make (P:=C.P) w t e ej ez hu G.info G.zero kz km 0 m (Int.le_refl _) o1 R8 Vu
     rw [G.size] at dM
     have iw:¬ S w.heap.size:=fun h=>by have:=hs.bound _ h; omega
     have hf:gL A d:=pP d (by simp)
     have h1:=hs.alloc hf (b:=.row e i.size 0 fun _=>i.zero) (cur:=madeCells ez.cells (m.toNat * i.size)) (e:=e) (cap:=m.toNat) (by simp [aZ.keys]) ⟨_,heap_alloc_new w _,iw,size_madeCells _ _,Nat.zero_le _,o2,fun q hq=>absurd hq (by omega)⟩
     have h2:=h1.put (dst:=some d) (x:=.own d 0) (v:=.slice (some ⟨w.heap.size,0,none⟩) 0 m.toNat) (fun t ht=>by cases ht; exact hd d cu) (.own (by simp [cA]))
     unfold Oper.wp execOp
     have Vt:=dh (hρ _ _ hc)
     have Yg:a.eval (.const (.int kz 0))=.int kz 0:=rfl
     simp only [ho,Yg,Vt,Sem.run_bind,dM,Result.andThen_ok,Sem.run_pure]
     rw [lP]
     exact ⟨S,_,by rw [cu]; exact h2⟩
    ·cases h
   ·cases h
  ·cases h
 ·cases h
theorem QJ {T:List (Nat × TI)} {lb:List (Nat × aZ)} {ρ:Operand→Option AV} {dst:Option Nat} {quiet:Bool} {op:Op} {r:R} (h:Ed T lb ρ dst quiet op=some r) :
  (∀ p,p∈r.ro→look lb p.1=some p.2)∧(∀ p,p∈r.mem→look lb p.1=some p.2)∧(quiet=true→r.mem=[]∧r.cS=[]):=by
 unfold Ed at h
 have nil:∀ {p:Nat × aZ},p∈([]:List (Nat × aZ))→look lb p.1=some p.2:=fun h=>by cases h
 have one:∀ {κ:Nat} {b:aZ},look lb κ=some b→∀ p,p∈[(κ,b)]→look lb p.1=some p.2:=fun h p hp=>by simp only [List.mem_singleton] at hp; subst hp; exact h
 split at h
 ·split at h
  ·simp only [Option.some.injEq] at h; subst h; exact ⟨fun _=>nil,fun _=>nil,fun hq=>by cases hq⟩
  ·cases h
 ·split at h
  ·split at h
   ·rename_i hl _; simp only [Option.some.injEq] at h; subst h; exact ⟨fun _=>nil,one hl,fun hq=>by cases hq⟩
   ·cases h
  ·cases h
 ·split at h
  ·split at h
   ·rename_i hl
    rw [Bool.cond_eq_ite] at h
    split at h
    ·cases h
    ·simp only [Option.some.injEq] at h; subst h; exact ⟨one hl,fun _=>nil,fun hq=>by cases hq⟩
   ·cases h
  ·cases h
 ·split at h
  ·split at h
   ·rename_i Yd
    split at h
    ·rename_i hl
     simp only [Option.some.injEq] at h; subst h
     exact ⟨fun p hp=>by
      simp only [List.mem_cons,List.not_mem_nil,or_false] at hp
      rcases hp with rfl | rfl
      ·exact Yd
      ·exact hl,fun _=>nil,fun _=>⟨rfl,rfl⟩⟩
    ·cases h
   ·cases h
  ·cases h
 ·split at h
  ·split at h
   ·rename_i hl _
    rw [Bool.cond_eq_ite] at h
    split at h
    ·cases h
    ·simp only [Option.some.injEq] at h; subst h; exact ⟨fun _=>nil,one hl,fun hq=>by cases hq⟩
   ·cases h
  ·split at h
   ·simp only [Option.some.injEq] at h; subst h; exact ⟨fun _=>nil,fun _=>nil,fun hq=>by cases hq⟩
   ·cases h
  ·cases h
 ·split at h
  ·split at h
   ·simp only [Option.some.injEq] at h; subst h; exact ⟨fun _=>nil,fun _=>nil,fun _=>⟨rfl,rfl⟩⟩
   ·cases h
  ·cases h
 ·split at h
  ·split at h
   ·split at h
    ·simp only [Option.some.injEq] at h; subst h; exact ⟨fun _=>nil,fun _=>nil,fun hq=>by cases hq⟩
    ·cases h
   ·cases h
  ·cases h
 ·split at h
  ·split at h
   ·rw [Bool.cond_eq_ite] at h
    split at h
    ·simp only [Option.some.injEq] at h; subst h; exact ⟨fun _=>nil,fun _=>nil,fun hq=>by cases hq⟩
    ·cases h
   ·cases h
  ·cases h
 ·cases h
end
def Vw:List Value→List Value→Bool
 | .int _ a :: r,.int _ b :: s=>(a == b)&&Vw r s
 | [],[]=>true
 | _,_=>false
def tV:Value→Value→Bool
 | .int k a,.int k' b=>decide (k=k')&&(a == b)
 | .agg a,.agg b=>Vw a.toList b.toList
 | _,_=>false
def cY (k:Value):Nat→(Nat→Value × D)→Option Nat
 | 0,_=>none
 | n+1,f=>bif tV k (f 0).1 then some 0 else (cY k n fun i=>f (i+1)).map (· + 1)
def gM (k:Value) (n:Nat) (f:Nat→Value × D):Bool:=(cY k n f).isSome
def cB (k:Value) (n:Nat) (f:Nat→Value × D) (z:D):D:=match cY k n f with | some p=>(f p).2 | none=>z
def GB (k:Value) (n:Nat) (f:Nat→Value × D):Nat:=match cY k n f with | some _=>n | none=>n+1
def Ao (k:Value) (x:D) (n:Nat) (f:Nat→Value × D):Nat→Value × D:=match cY k n f with
 | some p=>fun q=>if q=p then ((f q).1,x) else f q
 | none=>fun q=>if q < n then f q else (k,x)
def Ee (P:Program) (t:Nat):Option D:=match P.info? t with
 | some j=>(match j.zero with | some (.int k n)=>some (.v (.int k n)) | some (.bool b)=>some (.v (.bool b)) | _=>none)
 | none=>none
def Lc (P:Program) (T:List (Nat × TI)) (lb:List (Nat × aZ)) (ρ:Operand→Option AV) (dst:Option Nat) (quiet:Bool):Op→Option R
 | .mapUpdate t m k x=>(match quiet,dst,ρ m,ρ k,ρ x,look T t with
  | false,none,some (.kD κ),some (.d (.v (.int kk a))),some (.d xd),some { kind:=.map kt _,.. }=>(match look lb κ,look T kt with
   | some (.mp n f),some { kind:=.int _,.. }=>some ⟨.any,[],[(κ,.mp n f)],[(κ,.mp (GB (.int kk a) n f) (Ao (.int kk a) xd n f))],.pr (∀ i,i < n→∃ b,(f i).1=.int kk b)⟩
   | _,_=>none)
  | _,_,_,_,_,_=>none)
 | .lookup t m k ok=>(match ρ m,ρ k,look T t with
  | some (.kD κ),some (.d (.v (.int kk a))),some { kind:=.map kt et,.. }=>(match look lb κ,look T kt,Ee P et with
   | some (.mp n f),some { kind:=.int _,.. },some z=>some ⟨bif ok then .il [.d (cB (.int kk a) n f z),.d (.v (.bool (gM (.int kk a) n f)))] else .d (cB (.int kk a) n f z),[(κ,.mp n f)],[],[],.pr (∀ i,i < n→∃ b,(f i).1=.int kk b)⟩
   | _,_,_=>none)
  | some (.uO n f),some (.d (.v (.int kk a))),some { kind:=.map kt et,.. }=>(match look T kt,Ee P et with
   | some { kind:=.int _,.. },some z=>some ⟨bif ok then .il [.d (cB (.int kk a) n f z),.d (.v (.bool (gM (.int kk a) n f)))] else .d (cB (.int kk a) n f z),[],[],[],.pr (∀ i,i < n→∃ b,(f i).1=.int kk b)⟩
   | _,_=>none)
  | some (.d (.mp n k0 f0)),some (.d (.v (.int kk a))),some { kind:=.map kt et,.. }=>(match look T kt,Ee P et with
   | some { kind:=.int _,.. },some z=>some ⟨bif ok then .il [.d (cB (.int kk a) n (fun i=>(k0 i,f0 i)) z),.d (.v (.bool (gM (.int kk a) n fun i=>(k0 i,f0 i))))] else .d (cB (.int kk a) n (fun i=>(k0 i,f0 i)) z),[],[],[],.pr (∀ i,i < n→∃ b,k0 i=.int kk b)⟩
   | _,_=>none)
  | _,_,_=>none)
 | _=>none
theorem iB {k:Value}:∀ {n:Nat} {f:Nat→Value × D},(∀ p,cY k n f=some p→p < n∧tV k (f p).1=true)∧(cY k n f=none→∀ i,i < n→tV k (f i).1=false)
 | 0,f=>⟨fun p h=>(by cases h),fun _ i hi=>absurd hi (by omega)⟩
 | n+1,f=>by
  have ih:=iB (k:=k) (n:=n) (f:=fun i=>f (i+1))
  simp only [cY]
  cases hk:tV k (f 0).1 with
  | true=>exact ⟨fun p h=>by simp only [cond_true,Option.some.injEq] at h; subst h; exact ⟨by omega,hk⟩,fun h=>(by cases h)⟩
  | false =>
   simp only [cond_false]
   refine ⟨fun p h=>?_,fun h i hi=>?_⟩
   ·cases hq:cY k n (fun i=>f (i+1)) with
    | none=>rw [hq] at h; cases h
    | some q =>
     rw [hq] at h
     simp only [Option.map_some,Option.some.injEq] at h
     subst h
     obtain ⟨h1,h2⟩:=ih.1 q hq
     exact ⟨by omega,h2⟩
   ·have hq:cY k n (fun i=>f (i+1))=none:=by
     cases hq:cY k n (fun i=>f (i+1)) with
     | none=>rfl
     | some q=>rw [hq] at h; cases h
    cases i with
    | zero=>exact hk
    | succ i=>exact ih.2 hq i (by omega)
theorem vg {ik kk:IntKind} {a:Int}:∀ (es:List MapEntry) (f:Nat→Value × D) (j:Nat),(∀ (i:Nat) (h:i < es.length),(es[i]'h).key=(f i).1∧∃ b,(f i).1=.int kk b) →
  Instr.findNow (.int ik) (.int kk a) es j=some (match cY (.int kk a) es.length f with | some p=>(es[p]?).map (fun e=>(p+j,e.val)) | none=>none)
 | [],_,_,_=>rfl
 | e :: es,f,j,h=>by
  obtain ⟨h1,b,h2⟩:=h 0 (by simp)
  have h1:e.key=(f 0).1:=h1
  have ih:=vg (ik:=ik) (kk:=kk) (a:=a) es (fun i=>f (i+1)) (j+1) (fun i hi=>h (i+1) (by simpa using hi))
  simp only [Instr.findNow,Instr.sameNow,h1,h2,if_true,List.length_cons,cY,tV,decide_true,Bool.true_and]
  cases IZ:(a == b) with
  | true=>simp
  | false =>
   simp only [ih,cond_false]
   cases hq:cY (.int kk a) es.length (fun i=>f (i+1)) with
   | none=>simp
   | some q =>
    simp only [Option.map_some,List.getElem?_cons_succ]
    congr 2
    funext e
    simp; omega
section
variable {C : Cx} {A : M} {a : Act} {w : World} {S : Nat → Prop} {μ : Mu} {ν : Nat → Bool}
theorem SM {P:Program} {k:IntKind} {n:Int}:(Instr.keyThatStays (.int k n) (.int k n)).run P w=.ok (.int k n) w:=by
 simp [Instr.keyThatStays,Instr.sameBits]
theorem nc {ok:Bool} {x:D} {b:Bool} {v:Value} (hv:Rel w S μ ν (.d x) v):Rel w S μ ν (bif ok then .il [.d x,.d (.v (.bool b))] else .d x) (bif ok then .tuple #[v,.bool b] else v):=by
 cases ok with
 | false=>exact hv
 | true =>
  refine .il rfl (fun q hq=>?_)
  match q with
  | 0=>simpa using hv
  | 1=>simpa using fO (w:=w) (S:=S) (μ:=μ) (ν:=ν) (x:=.bool b) rfl
  | q+2=>simp at hq; omega
theorem xN {T:List (Nat × TI)} (hT:im C.P T) {t kt et:Nat} {ik kk:IntKind} {n0:Int} {kv:Value} {z:D} {n g:Nat} {f:Nat→Value × D} {cur:Array MapEntry} {ok:Bool} {s1 b1 s2 b2:Nat} {z1 z2:List D} {q1 q2:Bool}
  (HH:kv=.int kk n0) (ht:look T t=some { kind:=.map kt et,size:=s1,bytes:=b1,zero:=z1,eq:=q1 }) (xM:look T kt=some { kind:=.int ik,size:=s2,bytes:=b2,zero:=z2,eq:=q2 }) (hz:Ee C.P et=some z) (bz:(Ob.pr (∀ i,i < n→∃ b,(f i).1=.int kk b)).den)
  (hg:w.heap[g]? = some (.map cur n)) (dK:cur.size=n) (aJ:∀ i,i < n→∃ e,cur[i]? = some e∧e.key=(f i).1∧wS e.key=true∧e.born=i∧Rd w S (f i).2 e.val) :
  ∃ v,(Instr.lookup t (.map (some g)) kv ok).run C.P w=.ok (bif ok then .tuple #[v,.bool (gM (.int kk n0) n f)] else v) w∧Rel w S μ ν (.d (cB (.int kk n0) n f z)) v:=by
 subst HH
 obtain ⟨ti,z0,F⟩:=ar (hT _ _ ht)
 obtain ⟨tj,zj,G⟩:=ar (hT _ _ xM)
 have hu:=oj F.kind
 have Pz:=kO G.kind
 have bz:∀ i,i < n→∃ b,(f i).1=.int kk b:=bz
 have Yh:∀ (i:Nat) (h:i < cur.toList.length),(cur.toList[i]'h).key=(f i).1∧∃ b,(f i).1=.int kk b:=fun i hi=>by
  have Ce:i < n:=by simpa [dK] using hi
  obtain ⟨e,h1,h2,_⟩:=aJ i Ce
  have:cur.toList[i]=e:=by simpa using (Array.getElem?_eq_some_iff.1 h1).2
  rw [this]
  exact ⟨h2,bz i Ce⟩
 have cJ:=vg (ik:=ik) (a:=n0) cur.toList f 0 Yh
 have pZ:cur.toList.length=n:=by simpa using dK
 rw [pZ] at cJ
 have Nw:=fun q=>j9 (w:=w) (P:=C.P) (b:=cur.isEmpty) (kk:=kk) (n:=n0) Pz q
 obtain ⟨zv,Yg,Z4⟩:∃ zv,(zeroValue et).run C.P w=.ok zv w∧Rel w S μ ν (.d z) zv:=by
  unfold Ee at hz
  split at hz
  ·rename_i j hj
   split at hz
   ·rename_i k' n' U4
    simp only [Option.some.injEq] at hz
    subst hz
    exact ⟨.int k' n',by simp only [zeroValue,typeInfo,Sem.run_bind,run_program,Result.andThen_ok,hj,Sem.run_pure,U4],fO rfl⟩
   ·rename_i b U4
    simp only [Option.some.injEq] at hz
    subst hz
    exact ⟨.bool b,by simp only [zeroValue,typeInfo,Sem.run_bind,run_program,Result.andThen_ok,hj,Sem.run_pure,U4],fO rfl⟩
   ·cases hz
  ·cases hz
 cases jG:cY (.int kk n0) n f with
 | some p =>
  obtain ⟨hp,IL⟩:=iB.1 p jG
  obtain ⟨e,h1,h2,h3,h4,h5⟩:=aJ p hp
  have SN:cur.toList[p]? = some e:=by simpa using h1
  rw [jG] at cJ
  simp only [SN,Option.map_some,Nat.add_zero] at cJ
  refine ⟨e.val,?_,by simp only [cB,jG]; exact .d h5⟩
  unfold Instr.lookup
  simp only [Sem.run_bind,run_underlying hu,Result.andThen_ok,fq hg,Sem.run_pure,Nw 9999,Instr.findKey,run_underlying Pz,cJ,gM,jG,Option.isSome_some]
  cases ok <;> rfl
 | none =>
  rw [jG] at cJ
  simp only at cJ
  refine ⟨zv,?_,by simp only [cB,jG]; exact Z4⟩
  unfold Instr.lookup
  simp only [Sem.run_bind,run_underlying hu,Result.andThen_ok,fq hg,Sem.run_pure,Nw 9999,Instr.findKey,run_underlying Pz,cJ,Yg,gM,jG,Option.isSome_none]
  cases ok <;> rfl
theorem Ld {T:List (Nat × TI)} (hT:im C.P T) (hs:cG C A a w S μ ν) {lb:List (Nat × aZ)} {o:Oper} {ρ:Operand→Option AV} (hρ:∀ x y,ρ x=some y→Rel w S μ ν y (a.eval x)) (hd:∀ t,o.dst=some t→t < C.nt) {quiet:Bool} {r:R}
  (h:Lc C.P T lb ρ o.dst quiet o.op=some r) (iq:∀ p,p∈r.ro→A.lb p.1=some p.2) (dY:∀ p,p∈r.mem→A.lb p.1=some p.2) (bz:r.ob.den) (need:List (Nat × AV)) (gs:List (Nat × Bool)) :
  o.wp C.P a w (fun a' w'=>∃ S' μ',cG C ((Tr.mk need o.dst r.v r.ro r.mem r.cS gs).apply A) a' w' S' μ' ν) (fun _ _ _=>False):=by
 unfold Lc at h
 split at h
 all_goals rename_i ho
 ·-- an entry is laid
  rename_i t m k x
  split at h
  ·rename_i κ kk n0 xd kt _ _ _ _ _ cu hm hk hx ht
   split at h
   ·rename_i n f ik _ _ _ _ hl xM
    simp only [Option.some.injEq] at h
    subst h
    rw [cu]
    have hκ:=dY (κ,.mp n f) (by simp)
    have tU:=hs.mem κ _ hκ
    have hv:=hρ _ _ hm
    generalize Am:a.eval m=mv at hv
    cases hv with
    | @kD _ g cap hμ =>
     rw [hμ] at tU
     obtain ⟨cur,hg,iw,dK,aJ⟩:=tU.at
     obtain ⟨ti,z,F⟩:=ar (hT _ _ ht)
     obtain ⟨tj,zj,G⟩:=ar (hT _ _ xM)
     have hu:=oj F.kind
     have Pz:=kO G.kind
     have HH:=dh (hρ _ _ hk)
     have bz:∀ i,i < n→∃ b,(f i).1=.int kk b:=bz
     have Yh:∀ (i:Nat) (h:i < cur.toList.length),(cur.toList[i]'h).key=(f i).1∧∃ b,(f i).1=.int kk b:=fun i hi=>by
      have Ce:i < n:=by simpa [dK] using hi
      obtain ⟨e,h1,h2,_⟩:=aJ i Ce
      have:cur.toList[i]=e:=by simpa using (Array.getElem?_eq_some_iff.1 h1).2
      rw [this]
      exact ⟨h2,bz i Ce⟩
     have cJ:=vg (ik:=ik) (a:=n0) cur.toList f 0 Yh
     have pZ:cur.toList.length=n:=by simpa using dK
     rw [pZ] at cJ
     have hw:∀ o':Obj,∀ q,S q→(World.nb w g o').heap[q]? = w.heap[q]?:=fun o' q hq=>(eI g _).block q (hs.bound q hq) (fun e=>iw (e ▸ hq))
     have Nw:=fun q=>j9 (w:=w) (P:=C.P) (b:=false) (kk:=kk) (n:=n0) Pz q
     cases jG:cY (.int kk n0) n f with
     | some p =>
      obtain ⟨hp,IL⟩:=iB.1 p jG
      obtain ⟨e,h1,h2,h3,h4,h5⟩:=aJ p hp
      have Le:e.key=.int kk n0:=by
       obtain ⟨b,hb⟩:=bz p hp
       rw [hb] at IL h2
       simp only [tV,decide_true,Bool.true_and,beq_iff_eq] at IL
       rw [h2,IL]
      have SN:cur.toList[p]? = some e:=by simpa using h1
      rw [jG] at cJ
      simp only [SN,Option.map_some,Nat.add_zero] at cJ
      have dM:(execOp a.eval o).run C.P w=.ok .skip (World.nb w g (.map (cur.modify p fun e=>{ e with key:=.int kk n0,val:=a.eval x }) n)):=by
       unfold execOp
       rw [ho]
       simp only [Am,HH,Sem.run_bind]
       unfold Instr.mapUpdate
       simp only [Sem.run_bind,run_underlying hu,Result.andThen_ok,fq hg,Nw 9999,Instr.findKey,run_underlying Pz,cJ,Sem.run_pure,h1,Option.map_some,Option.getD_some,Le,SM,mc _ hg]
      unfold Oper.wp
      rw [dM]
      refine ⟨S,μ,?_⟩
      rw [eT,cu]
      have eN:GB (.int kk n0) n f=n:=by simp [GB,jG]
      rw [eN]
      refine hs.tT hκ hμ (eI g _) ⟨_,pD _ hg,iw,by simp [dK],fun i hi=>?_⟩
      obtain ⟨e',q1,q2,q3,q4,q5⟩:=aJ i hi
      have eG:i < cur.size:=by omega
      by_cases c:i=p
      ·subst c
       rw [h1] at q1
       cases q1
       refine ⟨{ e with key:=.int kk n0,val:=a.eval x },?_,?_,rfl,q4,?_⟩
       ·simp [Array.getElem?_modify,h1]
       ·simp only [Ao,jG,if_true]
        rw [← q2,Le]
       ·simp only [Ao,jG,if_true]
        exact (eE.1 (hρ _ _ hx)).mono (fun _ x=>x) (hw _)
      ·refine ⟨e',?_,?_,q3,q4,?_⟩
       ·have c':¬ p=i:=fun e=>c e.symm
        simp [Array.getElem?_modify,c',q1]
       ·simp only [Ao,jG,c,if_false]; exact q2
       ·simp only [Ao,jG,c,if_false]; exact q5.mono (fun _ x=>x) (hw _)
     | none =>
      rw [jG] at cJ
      simp only at cJ
      have dM:(execOp a.eval o).run C.P w=.ok .skip (World.nb w g (.map (cur.push { key:=.int kk n0,val:=a.eval x,born:=n }) (n+1))):=by
       have h1:=Ec (x:=a.eval x) hu Pz hg cJ
       unfold execOp
       rw [ho]
       simp only [Am,HH,Sem.run_bind,h1,Result.andThen_ok,Sem.run_pure]
      unfold Oper.wp
      rw [dM]
      refine ⟨S,μ,?_⟩
      rw [eT,cu]
      have eN:GB (.int kk n0) n f=n+1:=by simp [GB,jG]
      rw [eN]
      refine hs.tT hκ hμ (eI g _) ⟨_,pD _ hg,iw,by simp [dK],fun i hi=>?_⟩
      by_cases c:i < n
      ·obtain ⟨e,h1,h2,h3,h4,h5⟩:=aJ i c
       refine ⟨e,?_,by simp only [Ao,jG,c,if_true]; exact h2,h3,h4,by simp only [Ao,jG,c,if_true]; exact h5.mono (fun _ x=>x) (hw _)⟩
       rw [Array.getElem?_push,if_neg (by omega)]
       exact h1
      ·obtain rfl:i=n:=by omega
       refine ⟨_,by rw [Array.getElem?_push,if_pos dK.symm],by simp only [Ao,jG,c,if_false],rfl,rfl,?_⟩
       simp only [Ao,jG,c,if_false]
       exact (eE.1 (hρ _ _ hx)).mono (fun _ x=>x) (hw _)
   ·cases h
  ·cases h
 ·-- an entry is looked up
  rename_i t m k ok
  split at h
  ·rename_i κ kk n0 kt et _ _ _ _ hm hk ht
   split at h
   ·rename_i n f ik _ _ _ _ z hl xM hz
    simp only [Option.some.injEq] at h
    subst h
    have hκ:=iq (κ,.mp n f) (by simp)
    have tU:=hs.mem κ _ hκ
    have hv:=hρ _ _ hm
    generalize Am:a.eval m=mv at hv
    cases hv with
    | @kD _ g cap hμ =>
     rw [hμ] at tU
     obtain ⟨cur,hg,iw,dK,aJ⟩:=tU.at
     obtain ⟨v,SO,hv⟩:=xN (ok:=ok) hT (dh (hρ _ _ hk)) ht xM hz bz hg dK aJ
     refine fk (τ:=Tr.mk need o.dst (bif ok then .il [.d (cB (.int kk n0) n f z),.d (.v (.bool (gM (.int kk n0) n f)))] else .d (cB (.int kk n0) n f z)) [(κ,.mp n f)] [] [] gs) hs hd (x:=bif ok then .tuple #[v,.bool (gM (.int kk n0) n f)] else v) ?_ (nc hv) rfl rfl rfl
     simp only [execOp,ho,Am,Sem.run_bind,SO,Result.andThen_ok,Sem.run_pure]
   ·cases h
  ·rename_i n f kk n0 kt et _ _ _ _ hm hk ht
   split at h
   ·rename_i ik _ _ _ _ z xM hz
    simp only [Option.some.injEq] at h
    subst h
    have hv:=hρ _ _ hm
    generalize Am:a.eval m=mv at hv
    cases hv with
    | @uO _ _ g hp =>
     obtain ⟨iw,cur,hg,dK,aJ⟩:=hp
     obtain ⟨v,SO,hv⟩:=xN (ok:=ok) hT (dh (hρ _ _ hk)) ht xM hz bz hg dK aJ
     refine fk (τ:=Tr.mk need o.dst (bif ok then .il [.d (cB (.int kk n0) n f z),.d (.v (.bool (gM (.int kk n0) n f)))] else .d (cB (.int kk n0) n f z)) [] [] [] gs) hs hd (x:=bif ok then .tuple #[v,.bool (gM (.int kk n0) n f)] else v) ?_ (nc hv) rfl rfl rfl
     simp only [execOp,ho,Am,Sem.run_bind,SO,Result.andThen_ok,Sem.run_pure]
   ·cases h
  ·rename_i n k0 f0 kk n0 kt et _ _ _ _ hm hk ht
   split at h
   ·rename_i ik _ _ _ _ z xM hz
    simp only [Option.some.injEq] at h
    subst h
    obtain ⟨g,Am,iw,cur,hg,dK,aJ⟩:=(eE.1 (hρ _ _ hm)).pmap
    obtain ⟨v,SO,hv⟩:=xN (ok:=ok) (f:=fun i=>(k0 i,f0 i)) hT (dh (hρ _ _ hk)) ht xM hz bz hg dK aJ
    refine fk (τ:=Tr.mk need o.dst (bif ok then .il [.d (cB (.int kk n0) n (fun i=>(k0 i,f0 i)) z),.d (.v (.bool (gM (.int kk n0) n fun i=>(k0 i,f0 i))))] else .d (cB (.int kk n0) n (fun i=>(k0 i,f0 i)) z)) [] [] [] gs) hs hd (x:=bif ok then .tuple #[v,.bool (gM (.int kk n0) n fun i=>(k0 i,f0 i))] else v) ?_ (nc hv) rfl rfl rfl
    simp only [execOp,ho,Am,Sem.run_bind,SO,Result.andThen_ok,Sem.run_pure]
   ·cases h
  ·cases h
 ·cases h
theorem SP {P:Program} {T:List (Nat × TI)} {lb:List (Nat × aZ)} {ρ:Operand→Option AV} {dst:Option Nat} {quiet:Bool} {op:Op} {r:R} (h:Lc P T lb ρ dst quiet op=some r) :
  (∀ p,p∈r.ro→look lb p.1=some p.2)∧(∀ p,p∈r.mem→look lb p.1=some p.2)∧(quiet=true→r.mem=[]∧r.cS=[])∧∀ k,k∈r.cS.map (·.1)→k∈r.mem.map (·.1):=by
 unfold Lc at h
 have nil:∀ {p:Nat × aZ},p∈([]:List (Nat × aZ))→look lb p.1=some p.2:=fun h=>by cases h
 have one:∀ {κ:Nat} {b:aZ},look lb κ=some b→∀ p,p∈[(κ,b)]→look lb p.1=some p.2:=fun h p hp=>by simp only [List.mem_singleton] at hp; subst hp; exact h
 split at h
 ·split at h
  ·split at h
   ·rename_i hl _; simp only [Option.some.injEq] at h; subst h; exact ⟨fun _=>nil,one hl,fun hq=>(by cases hq),fun k hk=>by simpa using hk⟩
   ·cases h
  ·cases h
 ·split at h
  ·split at h
   ·rename_i hl _ _; simp only [Option.some.injEq] at h; subst h; exact ⟨one hl,fun _=>nil,fun _=>⟨rfl,rfl⟩,fun k hk=>(by cases hk)⟩
   ·cases h
  ·split at h
   ·simp only [Option.some.injEq] at h; subst h; exact ⟨fun _=>nil,fun _=>nil,fun _=>⟨rfl,rfl⟩,fun k hk=>(by cases hk)⟩
   ·cases h
  ·split at h
   ·simp only [Option.some.injEq] at h; subst h; exact ⟨fun _=>nil,fun _=>nil,fun _=>⟨rfl,rfl⟩,fun k hk=>(by cases hk)⟩
   ·cases h
  ·cases h
 ·cases h
end
def bd (cs:List D):Value:=.agg (cs.map eS).toArray
theorem PB:∀ {a b:List D},allI a=true→allI b=true→Vw (a.map eS) (b.map eS)=bZ a b
 | [],[],_,_=>rfl
 | [],.v (.int .i64 _) :: _,_,_=>rfl
 | .v (.int .i64 _) :: _,[],_,_=>rfl
 | .v (.int .i64 x) :: r,.v (.int .i64 y) :: s,h,k=>by
  show ((x == y)&&Vw (r.map eS) (s.map eS))=((x == y)&&bZ r s)
  rw [PB (a:=r) (b:=s) h k]
theorem su {a b:List D} (ha:allI a=true) (hb:allI b=true):tV (bd a) (bd b)=bZ a b:=PB ha hb
theorem kb:∀ {a b:List D},allI a=true→allI b=true→bZ a b=true→a=b
 | [],[],_,_,_=>rfl
 | [],.v (.int .i64 _) :: _,_,_,h=>by cases h
 | .v (.int .i64 _) :: _,[],_,_,h=>by cases h
 | .v (.int .i64 x) :: r,.v (.int .i64 y) :: s,h,k,e=>by
  have e:((x == y)&&bZ r s)=true:=e
  simp only [Bool.and_eq_true,beq_iff_eq] at e
  rw [e.1,kb (a:=r) (b:=s) h k e.2]
theorem SQ:∀ {cs:List D},allI cs=true→wS (bd cs)=true:=fun {cs} h=>by
 show ((cs.map eS).toArray.toList.all scalar)=true
 rw [List.all_eq_true]
 intro x hx
 obtain ⟨a,rfl⟩:=u9 h x (by simpa using hx)
 rfl
def vh (P:Program) (T:List (Nat × TI)) (t:Nat):Option D:=match Ee P t with
 | some z=>some z
 | none=>(match P.info? t with
  | some j=>(match j.zero with | some (.agg _)=>(match look T t with | some i=>some (.agg i.zero) | none=>none) | _=>none)
  | none=>none)
def lG (n c:Nat) (f:Nat→Value × D):Prop:=∀ i,i < n→∃ ds,(f i).1=bd ds∧allI ds=true∧ds.length=c
def yS (k:Value) (n:Nat) (f:Nat→Value × D):Nat:=match cY k n f with | some p=>p | none=>n
def Lf (P:Program) (T:List (Nat × TI)) (lb:List (Nat × aZ)) (ρ:Operand→Option AV) (dst:Option Nat) (quiet:Bool):Op→Option R
 | .mapUpdate t m k x=>(match quiet,dst,ρ m,ρ k,ρ x,look T t with
  | false,none,some (.kD κ),some (.d (.agg cs)),some (.d xd),some { kind:=.map kt _,.. }=>(match look lb κ,oh T kt with
   | some (.mp n f),some c=>bif allI cs&&Nat.beq cs.length c then some ⟨.any,[],[(κ,.mp n f)],[(κ,.mp (GB (bd cs) n f) (Ao (bd cs) xd n f))],.pr (lG n c f)⟩ else none
   | _,_=>none)
  | _,_,_,_,_,_=>none)
 | .lookup t m k ok=>(match ρ m,ρ k,look T t with
  | some (.kD κ),some (.d (.agg cs)),some { kind:=.map kt et,.. }=>(match look lb κ,oh T kt,vh P T et with
   | some (.mp n f),some c,some z=>bif allI cs&&Nat.beq cs.length c then some ⟨bif ok then .il [.d (cB (bd cs) n f z),.d (.v (.bool (gM (bd cs) n f)))] else .d (cB (bd cs) n f z),[(κ,.mp n f)],[],[],.pr (lG n c f)⟩ else none
   | _,_,_=>none)
  | some (.uO n f),some (.d (.agg cs)),some { kind:=.map kt et,.. }=>(match oh T kt,vh P T et with
   | some c,some z=>bif allI cs&&Nat.beq cs.length c then some ⟨bif ok then .il [.d (cB (bd cs) n f z),.d (.v (.bool (gM (bd cs) n f)))] else .d (cB (bd cs) n f z),[],[],[],.pr (lG n c f)⟩ else none
   | _,_=>none)
  | _,_,_=>none)
 | .mapEntry t m k=>(match quiet,dst,ρ m,ρ k,look T t with
  | false,some _,some (.kD κ),some (.d (.agg cs)),some { kind:=.map kt et,.. }=>(match look lb κ,oh T kt,vh P T et with
   | some (.mp n f),some c,some z=>bif allI cs&&Nat.beq cs.length c then some ⟨.il [.d (cB (bd cs) n f z),.d (.v (.int .i64 (yS (bd cs) n f)))],[],[(κ,.mp n f)],[(κ,.mp (GB (bd cs) n f) (Ao (bd cs) (cB (bd cs) n f z) n f))],.pr (lG n c f)⟩ else none
   | _,_,_=>none)
  | _,_,_,_,_=>none)
 | .entryStore _ m s x=>(match quiet,dst,ρ m,ρ s,ρ x with
  | false,none,some (.kD κ),some (.d (.v (.int .i64 q))),some (.d xd)=>(match look lb κ with
   | some (.mp n f)=>some ⟨.any,[],[(κ,.mp n f)],[(κ,.mp n fun i=>bif decide ((i:Int)=q) then ((f i).1,xd) else f i)],.pr (0≤q∧q < n)⟩
   | _=>none)
  | _,_,_,_,_=>none)
 | _=>none
section
variable {P : Program} {w : World} {S : Nat → Prop} {μ : Mu} {ν : Nat → Bool}
theorem pQ {cs:List D} {v:Value} (hc:allI cs=true) (h:Rel w S μ ν (.d (.agg cs)) v):v=bd cs:=by
 cases eE.1 h with
 | agg _ vs hl hr =>
  have:=v7 (xs:=vs.toList) hc (by simpa using hl) (fun i hi=>by rw [← pA]; exact hr i hi)
  unfold bd
  rw [← this]
theorem vi {T:List (Nat × TI)} (hT:im P T) {kt c:Nat} (hk:oh T kt=some c) {cs:List D} (hc:allI cs=true) (lc:cs.length=c):∀ (es:List MapEntry) (f:Nat→Value × D) (j:Nat),(∀ (i:Nat) (h:i < es.length),(es[i]'h).key=(f i).1∧∃ ds,(f i).1=bd ds∧allI ds=true∧ds.length=c) →
  (Instr.findAsking kt (bd cs) es j).run P w=.ok (match cY (bd cs) es.length f with | some p=>(es[p]?).map (fun e=>(p+j,e.val)) | none=>none) w
 | [],_,_,_=>rfl
 | e :: es,f,j,h=>by
  obtain ⟨h1,ds,h2,h3,h4⟩:=h 0 (by simp)
  have h1:e.key=(f 0).1:=h1
  have ih:=vi hT hk hc lc es (fun i=>f (i+1)) (j+1) (fun i hi=>h (i+1) (by simpa using hi))
  have he:(Op.equal kt (bd cs) e.key).run P w=.ok (bZ cs ds) w:=by
   rw [h1,h2]
   exact DT hT hk hc h3 lc h4 10000 (by omega)
  simp only [Instr.findAsking,Sem.run_bind,he,Result.andThen_ok,List.length_cons,cY,h2,su hc h3]
  cases IZ:bZ cs ds with
  | true=>simp
  | false =>
   simp only [Bool.false_eq_true,if_false,ih,cond_false]
   cases hq:cY (bd cs) es.length (fun i=>f (i+1)) with
   | none=>simp
   | some q =>
    simp only [Option.map_some,List.getElem?_cons_succ]
    congr 2
    funext e
    simp; omega
theorem I0 {T:List (Nat × TI)} (hT:im P T) {kt c:Nat} (hk:oh T kt=some c):∃ gs,P.underlying kt=some (.struct gs):=by
 obtain ⟨i,hi,hk,hs,Vk⟩:=tJ hk
 unfold qS at Vk
 rw [hi] at Vk
 split at Vk
 ·rename_i e; simp only [Option.some.injEq] at e; subst e; cases hk
 ·rename_i fs sz bb zz e
  simp only [Option.some.injEq] at e
  subst e
  obtain ⟨j,z,F⟩:=ar (hT _ _ hi)
  obtain ⟨gs,hu,_⟩:=lO F.kind
  exact ⟨gs,hu⟩
 ·cases Vk
theorem qU {T:List (Nat × TI)} (hT:im P T) {kt c:Nat} (hk:oh T kt=some c) {cs:List D} (hc:allI cs=true) (lc:cs.length=c) (es:List MapEntry) (f:Nat→Value × D) (h:∀ (i:Nat) (h:i < es.length),(es[i]'h).key=(f i).1∧∃ ds,(f i).1=bd ds∧allI ds=true∧ds.length=c) :
  (Instr.findKey kt (bd cs) es).run P w=.ok (match cY (bd cs) es.length f with | some p=>(es[p]?).map (fun e=>(p,e.val)) | none=>none) w:=by
 obtain ⟨gs,hu⟩:=I0 hT hk
 unfold Instr.findKey
 simp only [Sem.run_bind,run_underlying hu,Result.andThen_ok]
 cases es with
 | nil=>rfl
 | cons e es =>
  have:Instr.findNow (.struct gs) (bd cs) (e :: es) 0=none:=rfl
  rw [this]
  have:=vi (w:=w) hT hk hc lc (e :: es) f 0 h
  simpa using this
theorem xm {T:List (Nat × TI)} (hT:im P T) (em:Bool):∀ (n t:Nat) (l:List Nat),qS T n t=some l→∀ (d:Nat),n≤d→∀ (u:Value) (xs:List Value),IH T t u xs→(Instr.checkKey em d t u).run P w=.ok () w
 | 0,_,_,h,_,_,_,_,_=>by cases h
 | n+1,t,l,h,d,hd,u,xs,⟨i,hi,hlx,hu,hx⟩=>by
  obtain ⟨d,rfl⟩:∃ q,d=q+1:=⟨d - 1,by omega⟩
  have ht:=hT _ _ hi
  obtain ⟨j,z,F⟩:=ar ht
  cases hk:jC i.kind with
  | false =>
   obtain ⟨h1,h2,h3⟩:=mb h hi hk
   obtain ⟨_,rfl⟩:=hu.resolve_left (fun e=>by rw [hk] at e; cases e.1)
   obtain ⟨a,rfl⟩:=hx u (by simp)
   have mZ:=F.kind
   rw [h2] at mZ
   exact j9 (kO mZ) d
  | true =>
   obtain ⟨_,rfl⟩:=hu.resolve_right (fun e=>by rw [hk] at e; cases e.1)
   unfold qS at h
   rw [hi] at h
   split at h
   ·rename_i e
    simp only [Option.some.injEq] at e
    subst e
    cases hk
   ·rename_i fs sz bb zz e
    simp only [Option.some.injEq] at e
    subst e
    obtain ⟨gs,hug,KV⟩:=lO F.kind
    rw [Instr.checkKey]
    simp only [Sem.run_bind,run_underlying hug,Result.andThen_ok]
    rw [← Array.forIn_toList]
    subst KV
    have key:∀ (gs:List Field) (l:List Nat),xI T (qS T n) sz (gs.map fun f=>(f.offset,f.type))=some l→(forIn (m:=Sem) gs PUnit.unit (fun f _=>if f.name≠ "_" then (do Instr.checkKey em d f.type (← part f.type xs.toArray f.offset); pure (ForInStep.yield PUnit.unit)) else pure (ForInStep.yield PUnit.unit))).run P w=.ok PUnit.unit w:=by
     intro gs
     induction gs with
     | nil=>intro l _; rfl
     | cons g gs ih =>
      intro l h
      simp only [List.map_cons,xI] at h
      split at h
      ·rename_i ig a b X2 ha hb
       rw [Bool.cond_eq_ite] at h
       split at h
       ·rename_i hc
        simp only [Bool.and_eq_true] at hc
        have hle:=Nat.le_of_ble_eq_true hc.1
        simp only at hlx
        obtain ⟨u,p1,s1⟩:=xJ (w:=w) hT X2 (o:=g.offset) (xs:=xs) (by omega) hx (fun hk=>(mb ha X2 hk).1)
        have p3:=xm hT em n g.type a ha d (by omega) u _ s1
        have ih':=ih b hb
        rw [List.forIn_cons]
        simp only [Sem.run_bind,Sem.run_ite,p1,p3,Result.andThen_ok,Sem.run_pure]
        split <;> simp only [Result.andThen_ok] <;> exact ih'
       ·cases h
      ·cases h
    have Py:=key gs.toList l h
    simp at Py ⊢
    rw [Py]
    rfl
   ·cases h
theorem nM {T:List (Nat × TI)} (hT:im P T) {kt c:Nat} (hk:oh T kt=some c) {cs:List D} (hc:allI cs=true) (lc:cs.length=c) (em:Bool):(Instr.checkKey em 10000 kt (bd cs)).run P w=.ok () w:=by
 obtain ⟨i,hi,hka,hs,hl⟩:=tJ hk
 exact xm hT em 8 kt _ hl 10000 (by omega) _ (cs.map eS) ⟨i,hi,by simp [lc,hs],.inl ⟨hka,rfl⟩,u9 hc⟩
theorem xn:∀ {cs:List D},allI cs=true→((cs.map eS).zip (cs.map eS)).all (fun (x,y)=>Instr.sameBits 9999 x y)=true
 | [],_=>rfl
 | .v (.int .i64 a) :: r,h=>by
  simp only [List.map_cons,List.zip_cons_cons,List.all_cons,Bool.and_eq_true]
  exact ⟨by simp [eS,Instr.sameBits],xn (cs:=r) h⟩
theorem HI {cs:List D} (hc:allI cs=true):(Instr.keyThatStays (bd cs) (bd cs)).run P w=.ok (bd cs) w:=by
 have:Instr.sameBits 10000 (bd cs) (bd cs)=true:=by
  show ((cs.map eS).toArray.size == (cs.map eS).toArray.size&&((cs.map eS).toArray.toList.zip (cs.map eS).toArray.toList).all fun (x,y)=>Instr.sameBits 9999 x y)=true
  simp only [beq_self_eq_true,Bool.true_and]
  exact xn hc
 unfold Instr.keyThatStays
 rw [this]
 rfl
theorem Ef {T:List (Nat × TI)} (hT:im P T) {et:Nat} {z:D} (hz:vh P T et=some z):∃ zv,(zeroValue et).run P w=.ok zv w∧Rd w S z zv:=by
 unfold vh at hz
 split at hz
 ·rename_i z' QK
  simp only [Option.some.injEq] at hz
  subst hz
  unfold Ee at QK
  split at QK
  ·rename_i j hj
   split at QK
   ·rename_i k' n' U4
    simp only [Option.some.injEq] at QK
    subst QK
    exact ⟨.int k' n',by simp only [zeroValue,typeInfo,Sem.run_bind,run_program,Result.andThen_ok,hj,Sem.run_pure,U4],.v _ rfl⟩
   ·rename_i b U4
    simp only [Option.some.injEq] at QK
    subst QK
    exact ⟨.bool b,by simp only [zeroValue,typeInfo,Sem.run_bind,run_program,Result.andThen_ok,hj,Sem.run_pure,U4],.v _ rfl⟩
   ·cases QK
  ·cases QK
 ·split at hz
  ·rename_i j hj
   split at hz
   ·rename_i zs U4
    split at hz
    ·rename_i i hi
     simp only [Option.some.injEq] at hz
     subst hz
     obtain ⟨j',z',F⟩:=ar (hT _ _ hi)
     rw [F.info] at hj
     cases hj
     rw [F.zero] at U4
     cases U4
     have hzo:=F.Sq
     obtain ⟨q1,q2⟩:=ga (w:=w) (S:=S) hzo
     refine ⟨.agg zs,by simp only [zeroValue,typeInfo,Sem.run_bind,run_program,Result.andThen_ok,F.info,Sem.run_pure,F.zero],.agg _ _ (by have q1':zs.toList.length=i.zero.length:=q1; simpa using q1') (fun q hq=>?_)⟩
     rw [pA]
     exact q2 q hq
    ·cases hz
   ·cases hz
  ·cases hz
end
section
variable {C : Cx} {A : M} {a : Act} {w : World} {S : Nat → Prop} {μ : Mu} {ν : Nat → Bool}
theorem I1 {n:Nat} {f:Nat→Value × D} {cur:Array MapEntry} (h:∀ i,i < n→∃ e,cur[i]? = some e∧e.key=(f i).1∧wS e.key=true∧e.born=i∧Rd w S (f i).2 e.val):∀ i,i < n→∃ e,cur[i]? = some e∧e.key=(f i).1∧wS e.key=true∧Rd w S (f i).2 e.val :=
 fun i hi=>let ⟨e,h1,h2,h3,_,h5⟩:=h i hi; ⟨e,h1,h2,h3,h5⟩
theorem xO {n c:Nat} {f:Nat→Value × D} {cur:Array MapEntry} (bz:lG n c f) (dK:cur.size=n) (aJ:∀ i,i < n→∃ e,cur[i]? = some e∧e.key=(f i).1∧wS e.key=true∧Rd w S (f i).2 e.val) :
  ∀ (i:Nat) (h:i < cur.toList.length),(cur.toList[i]'h).key=(f i).1∧∃ ds,(f i).1=bd ds∧allI ds=true∧ds.length=c:=fun i hi=>by
 have Ce:i < n:=by simpa [dK] using hi
 obtain ⟨e,h1,h2,_⟩:=aJ i Ce
 have:cur.toList[i]=e:=by simpa using (Array.getElem?_eq_some_iff.1 h1).2
 rw [this]
 exact ⟨h2,bz i Ce⟩
theorem HJ {n c:Nat} {f:Nat→Value × D} {cur:Array MapEntry} (bz:lG n c f) (dK:cur.size=n) (aJ:∀ i,i < n→∃ e,cur[i]? = some e∧e.key=(f i).1∧wS e.key=true∧e.born=i∧Rd w S (f i).2 e.val) :
  ∀ (i:Nat) (h:i < cur.toList.length),(cur.toList[i]'h).key=(f i).1∧∃ ds,(f i).1=bd ds∧allI ds=true∧ds.length=c:=xO bz dK (I1 aJ)
theorem yT {T:List (Nat × TI)} (hT:im C.P T) {t kt et c:Nat} {cs:List D} {z:D} {n g ck:Nat} {f:Nat→Value × D} {cur:Array MapEntry} {ok:Bool} {s1 b1:Nat} {z1:List D} {q1:Bool}
  (hc:allI cs=true) (lc:cs.length=c) (ht:look T t=some { kind:=.map kt et,size:=s1,bytes:=b1,zero:=z1,eq:=q1 }) (xM:oh T kt=some c) (hz:vh C.P T et=some z) (bz:lG n c f)
  (hg:w.heap[g]? = some (.map cur ck)) (dK:cur.size=n) (aJ:∀ i,i < n→∃ e,cur[i]? = some e∧e.key=(f i).1∧wS e.key=true∧Rd w S (f i).2 e.val) :
  ∃ v,(Instr.lookup t (.map (some g)) (bd cs) ok).run C.P w=.ok (bif ok then .tuple #[v,.bool (gM (bd cs) n f)] else v) w∧Rel w S μ ν (.d (cB (bd cs) n f z)) v:=by
 obtain ⟨ti,z0,F⟩:=ar (hT _ _ ht)
 have hu:=oj F.kind
 have cJ:=qU (w:=w) hT xM hc lc cur.toList f (xO bz dK aJ)
 have pZ:cur.toList.length=n:=by simpa using dK
 rw [pZ] at cJ
 have Nw:=nM (w:=w) hT xM hc lc cur.isEmpty
 obtain ⟨zv,Yg,Z4⟩:=Ef (w:=w) (S:=S) hT hz
 cases jG:cY (bd cs) n f with
 | some p =>
  obtain ⟨hp,IL⟩:=iB.1 p jG
  obtain ⟨e,h1,h2,h3,h5⟩:=aJ p hp
  have SN:cur.toList[p]? = some e:=by simpa using h1
  rw [jG] at cJ
  simp only [SN,Option.map_some] at cJ
  refine ⟨e.val,?_,by simp only [cB,jG]; exact .d h5⟩
  unfold Instr.lookup
  simp only [Sem.run_bind,run_underlying hu,Result.andThen_ok,fq hg,Sem.run_pure,Nw,cJ,gM,jG,Option.isSome_some]
  cases ok <;> rfl
 | none =>
  rw [jG] at cJ
  simp only at cJ
  refine ⟨zv,?_,by simp only [cB,jG]; exact .d Z4⟩
  unfold Instr.lookup
  simp only [Sem.run_bind,run_underlying hu,Result.andThen_ok,fq hg,Sem.run_pure,Nw,cJ,Yg,gM,jG,Option.isSome_none]
  cases ok <;> rfl
theorem BS {T:List (Nat × TI)} (hT:im C.P T) {t kt et c:Nat} {cs:List D} {z:D} {n g:Nat} {f:Nat→Value × D} {cur:Array MapEntry} {ok:Bool} {s1 b1:Nat} {z1:List D} {q1:Bool}
  (hc:allI cs=true) (lc:cs.length=c) (ht:look T t=some { kind:=.map kt et,size:=s1,bytes:=b1,zero:=z1,eq:=q1 }) (xM:oh T kt=some c) (hz:vh C.P T et=some z) (bz:lG n c f)
  (hg:w.heap[g]? = some (.map cur n)) (dK:cur.size=n) (aJ:∀ i,i < n→∃ e,cur[i]? = some e∧e.key=(f i).1∧wS e.key=true∧e.born=i∧Rd w S (f i).2 e.val) :
  ∃ v,(Instr.lookup t (.map (some g)) (bd cs) ok).run C.P w=.ok (bif ok then .tuple #[v,.bool (gM (bd cs) n f)] else v) w∧Rel w S μ ν (.d (cB (bd cs) n f z)) v :=
 yT hT hc lc ht xM hz bz hg dK (I1 aJ)
theorem NQ {n g:Nat} {f:Nat→Value × D} {cur:Array MapEntry} {cs:List D} {c:Nat} {x:Value} {xd:D} {o:Obj} (hc:allI cs=true) (bz:lG n c f) (hg:w.heap[g]? = some (.map cur n)) (iw:¬ S g) (hb:∀ q,S q→q < w.heap.size) (dK:cur.size=n)
  (aJ:∀ i,i < n→∃ e,cur[i]? = some e∧e.key=(f i).1∧wS e.key=true∧e.born=i∧Rd w S (f i).2 e.val) (hx:Rd w S xd x)
  (ho:o=match cY (bd cs) n f with | some p=>.map (cur.modify p fun e=>{ e with key:=bd cs,val:=x }) n | none=>.map (cur.push { key:=bd cs,val:=x,born:=n }) (n+1)) :
  ∀ cp,cx (World.nb w g o) S μ (.mp (GB (bd cs) n f) (Ao (bd cs) xd n f)) g cp:=by
 intro cp
 subst ho
 have hw:∀ o':Obj,∀ q,S q→(World.nb w g o').heap[q]? = w.heap[q]?:=fun o' q hq=>(eI g _).block q (hb q hq) (fun e=>iw (e ▸ hq))
 cases jG:cY (bd cs) n f with
 | some p =>
  obtain ⟨hp,IL⟩:=iB.1 p jG
  obtain ⟨e,h1,h2,h3,h4,h5⟩:=aJ p hp
  have Le:(f p).1=bd cs:=by
   obtain ⟨ds,hd,Eg,_⟩:=bz p hp
   rw [hd] at IL ⊢
   rw [su hc Eg] at IL
   rw [kb hc Eg IL]
  have eN:GB (bd cs) n f=n:=by simp [GB,jG]
  rw [eN]
  refine ⟨_,pD _ hg,iw,by simp [dK],fun i hi=>?_⟩
  obtain ⟨e',q1,q2,q3,q4,q5⟩:=aJ i hi
  by_cases c:i=p
  ·subst c
   rw [h1] at q1
   cases q1
   refine ⟨{ e with key:=bd cs,val:=x },?_,?_,SQ hc,q4,?_⟩
   ·simp [Array.getElem?_modify,h1]
   ·simp only [Ao,jG,if_true]
    exact Le.symm
   ·simp only [Ao,jG,if_true]
    exact hx.mono (fun _ x=>x) (hw _)
  ·refine ⟨e',?_,?_,q3,q4,?_⟩
   ·have c':¬ p=i:=fun e=>c e.symm
    simp [Array.getElem?_modify,c',q1]
   ·simp only [Ao,jG,c,if_false]; exact q2
   ·simp only [Ao,jG,c,if_false]; exact q5.mono (fun _ x=>x) (hw _)
 | none =>
  have eN:GB (bd cs) n f=n+1:=by simp [GB,jG]
  rw [eN]
  refine ⟨_,pD _ hg,iw,by simp [dK],fun i hi=>?_⟩
  by_cases c:i < n
  ·obtain ⟨e,h1,h2,h3,h4,h5⟩:=aJ i c
   refine ⟨e,?_,by simp only [Ao,jG,c,if_true]; exact h2,h3,h4,by simp only [Ao,jG,c,if_true]; exact h5.mono (fun _ x=>x) (hw _)⟩
   rw [Array.getElem?_push,if_neg (by omega)]
   exact h1
  ·obtain rfl:i=n:=by omega
   refine ⟨_,by rw [Array.getElem?_push,if_pos dK.symm],by simp only [Ao,jG,c,if_false],SQ hc,rfl,?_⟩
   simp only [Ao,jG,c,if_false]
   exact hx.mono (fun _ x=>x) (hw _)
theorem I2 {A:M} {κ d:Nat} {b b':aZ} {need:List (Nat × AV)} {ro:List (Nat × aZ)} {gs:List (Nat × Bool)} (x:AV):(Tr.mk need (some d) x ro [(κ,b)] [(κ,b')] gs).apply A=(A.set κ (some b')).put d x:=by
 unfold Tr.apply M.put M.set
 simp only [Option.some.injEq]
 congr 1
 ·funext t
  by_cases c:t=d
  ·simp [c]
  ·have:¬ d=t:=fun e=>c e.symm
   simp [c,this]
 ·funext k
  by_cases c:k=κ
  ·subst c; simp [look]
  ·have:Nat.beq κ k=false:=by
    cases hb:Nat.beq κ k with
    | true=>exact absurd (Nat.eq_of_beq_eq_true hb).symm c
    | false=>rfl
   simp [look,this,c]
theorem Lg {T:List (Nat × TI)} (hT:im C.P T) (hs:cG C A a w S μ ν) {lb:List (Nat × aZ)} {o:Oper} {ρ:Operand→Option AV} (hρ:∀ x y,ρ x=some y→Rel w S μ ν y (a.eval x)) (hd:∀ t,o.dst=some t→t < C.nt) {quiet:Bool} {r:R}
  (h:Lf C.P T lb ρ o.dst quiet o.op=some r) (iq:∀ p,p∈r.ro→A.lb p.1=some p.2) (dY:∀ p,p∈r.mem→A.lb p.1=some p.2) (bz:r.ob.den) (need:List (Nat × AV)) (gs:List (Nat × Bool)) :
  o.wp C.P a w (fun a' w'=>∃ S' μ',cG C ((Tr.mk need o.dst r.v r.ro r.mem r.cS gs).apply A) a' w' S' μ' ν) (fun _ _ _=>False):=by
 unfold Lf at h
 split at h
 all_goals rename_i ho
 ·-- mapUpdate
  rename_i t m k x
  split at h
  ·rename_i κ cs xd kt _ _ _ _ _ cu hm hk hx ht
   split at h
   ·rename_i n f c hl xM
    rw [Bool.cond_eq_ite] at h
    split at h
    ·rename_i hc
     simp only [Bool.and_eq_true] at hc
     obtain ⟨hc,lc⟩:=hc
     have lc:=Nat.eq_of_beq_eq_true lc
     simp only [Option.some.injEq] at h
     subst h
     rw [cu]
     have hκ:=dY (κ,.mp n f) (by simp)
     have tU:=hs.mem κ _ hκ
     have hv:=hρ _ _ hm
     generalize Am:a.eval m=mv at hv
     cases hv with
     | @kD _ g cap hμ =>
      rw [hμ] at tU
      obtain ⟨cur,hg,iw,dK,aJ⟩:=tU.at
      obtain ⟨ti,z,F⟩:=ar (hT _ _ ht)
      have hu:=oj F.kind
      have HH:=pQ hc (hρ _ _ hk)
      have bz:lG n c f:=bz
      have Nw:=nM (w:=w) hT xM hc lc false
      have cJ:=qU (w:=w) hT xM hc lc cur.toList f (HJ bz dK aJ)
      have pZ:cur.toList.length=n:=by simpa using dK
      rw [pZ] at cJ
      have hxr:=eE.1 (hρ _ _ hx)
      have Xj:=fun o ho=>NQ (μ:=μ) (o:=o) hc bz hg iw (fun q hq=>hs.bound q hq) dK aJ hxr ho
      unfold Oper.wp
      cases jG:cY (bd cs) n f with
      | some p =>
       obtain ⟨hp,IL⟩:=iB.1 p jG
       obtain ⟨e,h1,h2,h3,h4,h5⟩:=aJ p hp
       have Le:e.key=bd cs:=by
        obtain ⟨ds,hd,Eg,_⟩:=bz p hp
        rw [hd] at IL
        rw [su hc Eg] at IL
        rw [h2,hd,kb hc Eg IL]
       have SN:cur.toList[p]? = some e:=by simpa using h1
       rw [jG] at cJ
       simp only [SN,Option.map_some] at cJ
       have dM:(execOp a.eval o).run C.P w=.ok .skip (World.nb w g (.map (cur.modify p fun e=>{ e with key:=bd cs,val:=a.eval x }) n)):=by
        unfold execOp
        rw [ho]
        simp only [Am,HH,Sem.run_bind]
        unfold Instr.mapUpdate
        simp only [Sem.run_bind,run_underlying hu,Result.andThen_ok,fq hg,Nw,cJ,Sem.run_pure,h1,Option.map_some,Option.getD_some,Le,HI hc,mc _ hg]
       rw [dM]
       refine ⟨S,μ,?_⟩
       rw [eT,cu]
       exact hs.tT hκ hμ (eI g _) (Xj _ (by rw [jG]) _)
      | none =>
       rw [jG] at cJ
       simp only at cJ
       have dM:(execOp a.eval o).run C.P w=.ok .skip (World.nb w g (.map (cur.push { key:=bd cs,val:=a.eval x,born:=n }) (n+1))):=by
        unfold execOp
        rw [ho]
        simp only [Am,HH,Sem.run_bind]
        unfold Instr.mapUpdate
        simp only [Sem.run_bind,run_underlying hu,Result.andThen_ok,fq hg,Nw,cJ,Sem.run_pure,mc _ hg]
       rw [dM]
       refine ⟨S,μ,?_⟩
       rw [eT,cu]
       exact hs.tT hκ hμ (eI g _) (Xj _ (by rw [jG]) _)
    ·cases h
   ·cases h
  ·cases h
 ·-- lookup
  rename_i t m k ok
  split at h
  ·rename_i κ cs kt et _ _ _ _ hm hk ht
   split at h
   ·rename_i n f c z hl xM hz
    rw [Bool.cond_eq_ite] at h
    split at h
    ·rename_i hc
     simp only [Bool.and_eq_true] at hc
     obtain ⟨hc,lc⟩:=hc
     have lc:=Nat.eq_of_beq_eq_true lc
     simp only [Option.some.injEq] at h
     subst h
     have hκ:=iq (κ,.mp n f) (by simp)
     have tU:=hs.mem κ _ hκ
     have hv:=hρ _ _ hm
     generalize Am:a.eval m=mv at hv
     cases hv with
     | @kD _ g cap hμ =>
      rw [hμ] at tU
      obtain ⟨cur,hg,iw,dK,aJ⟩:=tU.at
      have HH:=pQ hc (hρ _ _ hk)
      obtain ⟨v,SO,hv⟩:=BS (ok:=ok) hT hc lc ht xM hz bz hg dK aJ
      refine fk (τ:=Tr.mk need o.dst (bif ok then .il [.d (cB (bd cs) n f z),.d (.v (.bool (gM (bd cs) n f)))] else .d (cB (bd cs) n f z)) [(κ,.mp n f)] [] [] gs) hs hd (x:=bif ok then .tuple #[v,.bool (gM (bd cs) n f)] else v) ?_ (nc hv) rfl rfl rfl
      simp only [execOp,ho,Am,HH,Sem.run_bind,SO,Result.andThen_ok,Sem.run_pure]
    ·cases h
   ·cases h
  ·rename_i n f cs kt et _ _ _ _ hm hk ht
   split at h
   ·rename_i c z xM hz
    rw [Bool.cond_eq_ite] at h
    split at h
    ·rename_i hc
     simp only [Bool.and_eq_true] at hc
     obtain ⟨hc,lc⟩:=hc
     have lc:=Nat.eq_of_beq_eq_true lc
     simp only [Option.some.injEq] at h
     subst h
     have hv:=hρ _ _ hm
     generalize Am:a.eval m=mv at hv
     cases hv with
     | @uO _ _ g hp =>
      obtain ⟨iw,cur,hg,dK,aJ⟩:=hp
      have HH:=pQ hc (hρ _ _ hk)
      obtain ⟨v,SO,hv⟩:=BS (ok:=ok) hT hc lc ht xM hz bz hg dK aJ
      refine fk (τ:=Tr.mk need o.dst (bif ok then .il [.d (cB (bd cs) n f z),.d (.v (.bool (gM (bd cs) n f)))] else .d (cB (bd cs) n f z)) [] [] [] gs) hs hd (x:=bif ok then .tuple #[v,.bool (gM (bd cs) n f)] else v) ?_ (nc hv) rfl rfl rfl
      simp only [execOp,ho,Am,HH,Sem.run_bind,SO,Result.andThen_ok,Sem.run_pure]
    ·cases h
   ·cases h
  ·cases h
 ·-- mapEntry
  rename_i t m k
  split at h
  ·rename_i d κ cs kt et _ _ _ _ cu hm hk ht
   split at h
   ·rename_i n f c z hl xM hz
    rw [Bool.cond_eq_ite] at h
    split at h
    ·rename_i hc
     simp only [Bool.and_eq_true] at hc
     obtain ⟨hc,lc⟩:=hc
     have lc:=Nat.eq_of_beq_eq_true lc
     simp only [Option.some.injEq] at h
     subst h
     rw [cu]
     have hκ:=dY (κ,.mp n f) (by simp)
     have tU:=hs.mem κ _ hκ
     have hv:=hρ _ _ hm
     generalize Am:a.eval m=mv at hv
     cases hv with
     | @kD _ g cap hμ =>
      rw [hμ] at tU
      obtain ⟨cur,hg,iw,dK,aJ⟩:=tU.at
      obtain ⟨ti,z0,F⟩:=ar (hT _ _ ht)
      have hu:=oj F.kind
      have HH:=pQ hc (hρ _ _ hk)
      have bz:lG n c f:=bz
      have Nw:=nM (w:=w) hT xM hc lc false
      have cJ:=qU (w:=w) hT xM hc lc cur.toList f (HJ bz dK aJ)
      have pZ:cur.toList.length=n:=by simpa using dK
      rw [pZ] at cJ
      obtain ⟨zv,Yg,Z4⟩:=Ef (w:=w) (S:=S) hT hz
      have fin:∀ (x:Value) (q:Nat) (o':Obj),Rd w S (cB (bd cs) n f z) x→q=yS (bd cs) n f→(execOp a.eval o).run C.P w=.ok (.value (.tuple #[x,.int .i64 q])) (World.nb w g o') →
        (∀ cp,cx (World.nb w g o') S μ (.mp (GB (bd cs) n f) (Ao (bd cs) (cB (bd cs) n f z) n f)) g cp)→o.wp C.P a w (fun a' w'=>∃ S' μ',cG C ((Tr.mk need (some d) (.il [.d (cB (bd cs) n f z),.d (.v (.int .i64 (yS (bd cs) n f)))]) [] [(κ,.mp n f)] [(κ,.mp (GB (bd cs) n f) (Ao (bd cs) (cB (bd cs) n f z) n f))] gs).apply A) a' w' S' μ' ν) (fun _ _ _=>False):=fun x q o' hx hq dM hb=>by
       unfold Oper.wp
       rw [dM]
       have h1:=hs.tT hκ hμ (eI g o') (hb cap)
       have hw:∀ q,S q→(World.nb w g o').heap[q]? = w.heap[q]?:=fun q hq=>(eI g _).block q (hs.bound q hq) (fun e=>iw (e ▸ hq))
       have h2:=h1.put (dst:=some d) (x:=.il [.d (cB (bd cs) n f z),.d (.v (.int .i64 (yS (bd cs) n f)))]) (v:=.tuple #[x,.int .i64 q]) (fun t ht=>by cases ht; exact hd d cu) (.il rfl (fun j hj=>by
        match j with
        | 0=>simpa using Rel.d (μ:=μ) (ν:=ν) (hx.mono (fun _ x=>x) hw)
        | 1=>subst hq; simpa using fO (S:=S) (μ:=μ) (ν:=ν) (x:=.int .i64 (yS (bd cs) n f)) rfl
        | j+2=>simp at hj; omega))
       rw [I2,Oper.upon_value,cu]
       exact ⟨S,μ,h2⟩
      cases jG:cY (bd cs) n f with
      | some p =>
       obtain ⟨hp,IL⟩:=iB.1 p jG
       obtain ⟨e,h1,h2,h3,h4,h5⟩:=aJ p hp
       have Le:e.key=bd cs:=by
        obtain ⟨ds,hd,Eg,_⟩:=bz p hp
        rw [hd] at IL
        rw [su hc Eg] at IL
        rw [h2,hd,kb hc Eg IL]
       have SN:cur.toList[p]? = some e:=by simpa using h1
       rw [jG] at cJ
       simp only [SN,Option.map_some] at cJ
       have eg:cB (bd cs) n f z=(f p).2:=by simp [cB,jG]
       have ea:yS (bd cs) n f=p:=by simp [yS,jG]
       have Xj:=NQ (μ:=μ) hc bz hg iw (fun q hq=>hs.bound q hq) dK aJ (xd:=cB (bd cs) n f z) (x:=e.val) (by rw [eg]; exact h5) rfl
       rw [jG] at Xj
       have La:(cur.modify p fun e=>{ e with key:=bd cs })=(cur.modify p fun e'=>{ e' with key:=bd cs,val:=e.val }):=by
        apply Array.ext (by simp)
        intro i h1' h2'
        simp only [Array.getElem_modify]
        split
        ·rename_i hpi
         subst hpi
         have:cur[p]=e:=(Array.getElem?_eq_some_iff.1 h1).2
         rw [this]
        ·rfl
       refine fin e.val p _ (by rw [eg]; exact h5) ea.symm ?_ Xj
       unfold execOp
       rw [ho]
       simp only [Am,HH,Sem.run_bind]
       unfold Instr.mapEntry
       simp only [Sem.run_bind,run_underlying hu,Result.andThen_ok,fq hg,Nw,cJ,Sem.run_pure,h1,Option.map_some,Option.getD_some,Le,HI hc,mc _ hg,La,h4,goInt]
      | none =>
       rw [jG] at cJ
       simp only at cJ
       have eg:cB (bd cs) n f z=z:=by simp [cB,jG]
       have ea:yS (bd cs) n f=n:=by simp [yS,jG]
       have Xj:=NQ (μ:=μ) hc bz hg iw (fun q hq=>hs.bound q hq) dK aJ (xd:=cB (bd cs) n f z) (x:=zv) (by rw [eg]; exact Z4) rfl
       rw [jG] at Xj
       refine fin zv n _ (by rw [eg]; exact Z4) ea.symm ?_ Xj
       unfold execOp
       rw [ho]
       simp only [Am,HH,Sem.run_bind]
       unfold Instr.mapEntry
       simp only [Sem.run_bind,run_underlying hu,Result.andThen_ok,fq hg,Nw,cJ,Sem.run_pure,Yg,mc _ hg,goInt]
    ·cases h
   ·cases h
  ·cases h
 ·-- entryStore
  rename_i t m s x
  split at h
  ·rename_i κ q xd cu hm hq hx
   split at h
   ·rename_i n f hl
    simp only [Option.some.injEq] at h
    subst h
    rw [cu]
    have hκ:=dY (κ,.mp n f) (by simp)
    have tU:=hs.mem κ _ hκ
    have hv:=hρ _ _ hm
    generalize Am:a.eval m=mv at hv
    cases hv with
    | @kD _ g cap hμ =>
     rw [hμ] at tU
     obtain ⟨cur,hg,iw,dK,aJ⟩:=tU.at
     obtain ⟨hq0,Z2⟩:0≤q∧q < n:=bz
     have hqv:=dh (hρ _ _ hq)
     have hxr:=eE.1 (hρ _ _ hx)
     obtain ⟨p,rfl⟩:∃ p:Nat,q=p:=⟨q.toNat,by omega⟩
     have hp:p < n:=by omega
     obtain ⟨e,h1,h2,h3,h4,h5⟩:=aJ p hp
     have hfi:cur.findIdx? (fun e=>(e.born:Int) == (p:Int))=some p:=by
      rw [Array.findIdx?_eq_some_iff_getElem]
      refine ⟨by omega,?_,fun j hj=>?_⟩
      ·have:cur[p]=e:=(Array.getElem?_eq_some_iff.1 h1).2
       rw [this,h4]
       simp
      ·obtain ⟨e',q1,_,_,q4,_⟩:=aJ j (by omega)
       have:cur[j]=e':=(Array.getElem?_eq_some_iff.1 q1).2
       rw [this,q4]
       simp
       omega
     have dM:(execOp a.eval o).run C.P w=.ok .skip (World.nb w g (.map (cur.modify p fun e=>{ e with val:=a.eval x }) n)):=by
      unfold execOp
      rw [ho]
      simp only [Am,hqv,Sem.run_bind]
      unfold Instr.entryStore
      simp only [Sem.run_bind,Sem.run_pure,Result.andThen_ok,fq hg,asInt,asIntOf,hfi,mc _ hg]
     unfold Oper.wp
     rw [dM]
     refine ⟨S,μ,?_⟩
     rw [eT,cu]
     have hw:∀ o':Obj,∀ q,S q→(World.nb w g o').heap[q]? = w.heap[q]?:=fun o' q hq=>(eI g _).block q (hs.bound q hq) (fun e=>iw (e ▸ hq))
     refine hs.tT hκ hμ (eI g _) ⟨_,pD _ hg,iw,by simp [dK],fun i hi=>?_⟩
     obtain ⟨e',q1,q2,q3,q4,q5⟩:=aJ i hi
     by_cases c:i=p
     ·subst c
      rw [h1] at q1
      cases q1
      refine ⟨{ e with val:=a.eval x },by simp [Array.getElem?_modify,h1],by simp [q2],q3,q4,?_⟩
      simp only [decide_true,cond_true]
      exact hxr.mono (fun _ x=>x) (hw _)
     ·have c':¬ p=i:=fun e=>c e.symm
      have c2:¬ (i:Int)=(p:Int):=by omega
      refine ⟨e',by simp [Array.getElem?_modify,c',q1],by simp [c2,q2],q3,q4,?_⟩
      simp only [c2,decide_false,cond_false]
      exact q5.mono (fun _ x=>x) (hw _)
   ·cases h
  ·cases h
 ·cases h
theorem SR {P:Program} {T:List (Nat × TI)} {lb:List (Nat × aZ)} {ρ:Operand→Option AV} {dst:Option Nat} {quiet:Bool} {op:Op} {r:R} (h:Lf P T lb ρ dst quiet op=some r) :
  (∀ p,p∈r.ro→look lb p.1=some p.2)∧(∀ p,p∈r.mem→look lb p.1=some p.2)∧(quiet=true→r.mem=[]∧r.cS=[])∧∀ k,k∈r.cS.map (·.1)→k∈r.mem.map (·.1):=by
 unfold Lf at h
 have nil:∀ {p:Nat × aZ},p∈([]:List (Nat × aZ))→look lb p.1=some p.2:=fun h=>by cases h
 have one:∀ {κ:Nat} {b:aZ},look lb κ=some b→∀ p,p∈[(κ,b)]→look lb p.1=some p.2:=fun h p hp=>by simp only [List.mem_singleton] at hp; subst hp; exact h
 split at h
 ·split at h
  ·split at h
   ·rename_i hl _
    rw [Bool.cond_eq_ite] at h
    split at h
    ·simp only [Option.some.injEq] at h; subst h; exact ⟨fun _=>nil,one hl,fun hq=>(by cases hq),fun k hk=>by simpa using hk⟩
    ·cases h
   ·cases h
  ·cases h
 ·split at h
  ·split at h
   ·rename_i hl _ _
    rw [Bool.cond_eq_ite] at h
    split at h
    ·simp only [Option.some.injEq] at h; subst h; exact ⟨one hl,fun _=>nil,fun _=>⟨rfl,rfl⟩,fun k hk=>(by cases hk)⟩
    ·cases h
   ·cases h
  ·split at h
   ·rw [Bool.cond_eq_ite] at h
    split at h
    ·simp only [Option.some.injEq] at h; subst h; exact ⟨fun _=>nil,fun _=>nil,fun _=>⟨rfl,rfl⟩,fun k hk=>(by cases hk)⟩
    ·cases h
   ·cases h
  ·cases h
 ·split at h
  ·split at h
   ·rename_i hl _ _
    rw [Bool.cond_eq_ite] at h
    split at h
    ·simp only [Option.some.injEq] at h; subst h; exact ⟨fun _=>nil,one hl,fun hq=>(by cases hq),fun k hk=>by simpa using hk⟩
    ·cases h
   ·cases h
  ·cases h
 ·split at h
  ·split at h
   ·rename_i hl
    simp only [Option.some.injEq] at h; subst h; exact ⟨fun _=>nil,one hl,fun hq=>(by cases hq),fun k hk=>by simpa using hk⟩
   ·cases h
  ·cases h
 ·cases h
def Sa (k:Value) (n:Nat) (f:Nat→Value × D):Nat:=match cY k n f with | some _=>n - 1 | none=>n
def Xk (k:Value) (n:Nat) (f:Nat→Value × D):Nat→Value × D:=match cY k n f with | some p=>fun i=>if i < p then f i else f (i+1) | none=>f
def Vx:aZ→Option (Nat × (Nat→Value × D))
 | .mp n f=>some (n,f)
 | .ml n f=>some (n,f)
 | _=>none
theorem Vy {b:aZ} {n g cp:Nat} {f:Nat→Value × D} (h:Vx b=some (n,f)) (hb:cx w S μ b g cp):cx w S μ (.ml n f) g cp:=by
 cases b with
 | mp=>simp only [Vx,Option.some.injEq,Prod.mk.injEq] at h; obtain ⟨rfl,rfl⟩:=h; obtain ⟨cur,h1,h2,h3,h4⟩:=hb; exact ⟨cur,_,h1,h2,h3,I1 h4⟩
 | ml=>simp only [Vx,Option.some.injEq,Prod.mk.injEq] at h; obtain ⟨rfl,rfl⟩:=h; exact hb
 | _=>cases h
def Lh (P:Program) (T:List (Nat × TI)) (lb:List (Nat × aZ)) (ρ:Operand→Option AV) (dst:Option Nat) (quiet:Bool):Op→Option R
 | .call { callee:=.builtin .delete,args:=xs,argTypes:=ts }=>(match quiet,dst,xs.toList,ts.toList with
  | false,none,[m,k],[t,_]=>(match ρ m,ρ k,look T t with
   | some (.kD κ),some (.d (.agg cs)),some { kind:=.map kt _,.. }=>(match look lb κ,oh T kt with
    | some b,some c=>(match Vx b with
     | some (n,f)=>bif allI cs&&Nat.beq cs.length c then some ⟨.any,[],[(κ,b)],[(κ,.ml (Sa (bd cs) n f) (Xk (bd cs) n f))],.pr (lG n c f)⟩ else none
     | none=>none)
    | _,_=>none)
   | _,_,_=>none)
  | _,_,_,_=>none)
 | .lookup t m k ok=>(match ρ m,ρ k,look T t with
  | some (.kD κ),some (.d (.agg cs)),some { kind:=.map kt et,.. }=>(match look lb κ,oh T kt,vh P T et with
   | some (.ml n f),some c,some z=>bif allI cs&&Nat.beq cs.length c then some ⟨bif ok then .il [.d (cB (bd cs) n f z),.d (.v (.bool (gM (bd cs) n f)))] else .d (cB (bd cs) n f z),[(κ,.ml n f)],[],[],.pr (lG n c f)⟩ else none
   | _,_,_=>none)
  | _,_,_=>none)
 | _=>none
theorem Li {T:List (Nat × TI)} (hT:im C.P T) (hs:cG C A a w S μ ν) {lb:List (Nat × aZ)} {o:Oper} {ρ:Operand→Option AV} (hρ:∀ x y,ρ x=some y→Rel w S μ ν y (a.eval x)) (hd:∀ t,o.dst=some t→t < C.nt) {quiet:Bool} {r:R}
  (h:Lh C.P T lb ρ o.dst quiet o.op=some r) (iq:∀ p,p∈r.ro→A.lb p.1=some p.2) (dY:∀ p,p∈r.mem→A.lb p.1=some p.2) (bz:r.ob.den) (need:List (Nat × AV)) (gs:List (Nat × Bool)) :
  o.wp C.P a w (fun a' w'=>∃ S' μ',cG C ((Tr.mk need o.dst r.v r.ro r.mem r.cS gs).apply A) a' w' S' μ' ν) (fun _ _ _=>False):=by
 unfold Lh at h
 split at h
 ·rename_i xs ts ho
  split at h
  ·rename_i m k t t' cu QB Kz
   split at h
   ·rename_i κ cs kt _ _ _ _ _ hm hk ht
    split at h
    ·rename_i b c hl xM
     split at h
     ·rename_i n f hb
      rw [Bool.cond_eq_ite] at h
      split at h
      ·rename_i hc
       simp only [Bool.and_eq_true] at hc
       obtain ⟨hc,lc⟩:=hc
       have lc:=Nat.eq_of_beq_eq_true lc
       simp only [Option.some.injEq] at h
       subst h
       have hκ:=dY (κ,b) (by simp)
       have tU:=hs.mem κ _ hκ
       have hv:=hρ _ _ hm
       generalize Am:a.eval m=mv at hv
       cases hv with
       | @kD _ g cap hμ =>
        rw [hμ] at tU
        obtain ⟨cur,ck,hg,iw,dK,aJ⟩:=Vy hb tU.at
        obtain ⟨ti,z,F⟩:=ar (hT _ _ ht)
        have hu:=oj F.kind
        have HH:=pQ hc (hρ _ _ hk)
        have bz:lG n c f:=bz
        have Nw:=nM (w:=w) hT xM hc lc cur.isEmpty
        have cJ:=qU (w:=w) hT xM hc lc cur.toList f (xO bz dK aJ)
        have pZ:cur.toList.length=n:=by simpa using dK
        rw [pZ] at cJ
        have acs:xs = #[m,k]:=by apply Array.toList_inj.1; simpa using QB
        have NP:ts = #[t,t']:=by apply Array.toList_inj.1; simpa using Kz
        subst acs NP
        have fin:∀ (o':Obj),(Builtin.delete_ #[t,t'] o.type #[.map (some g),bd cs]).run C.P w=.ok (.tuple #[]) (World.nb w g o')→(∀ cp,cx (World.nb w g o') S μ (.ml (Sa (bd cs) n f) (Xk (bd cs) n f)) g cp) →
          o.wp C.P a w (fun a' w'=>∃ S' μ',cG C ((Tr.mk need o.dst .any [] [(κ,b)] [(κ,.ml (Sa (bd cs) n f) (Xk (bd cs) n f))] gs).apply A) a' w' S' μ' ν) (fun _ _ _=>False):=fun o' dM U5=>by
         unfold Oper.wp execOp
         simp only [ho,resolve,invoke,builtin,Sem.run_bind,Sem.run_pure,Result.andThen_ok,List.map_toArray,List.map_cons,List.map_nil,Am,HH,dM]
         refine ⟨S,μ,?_⟩
         rw [cu,eT]
         exact hs.tT hκ hμ (eI g _) (U5 _)
        have hw:∀ o':Obj,∀ q,S q→(World.nb w g o').heap[q]? = w.heap[q]?:=fun o' q hq=>(eI g _).block q (hs.bound q hq) (fun e=>iw (e ▸ hq))
        cases jG:cY (bd cs) n f with
        | some p =>
         obtain ⟨hp,IL⟩:=iB.1 p jG
         obtain ⟨e,h1,h2,h3,h5⟩:=aJ p hp
         have SN:cur.toList[p]? = some e:=by simpa using h1
         rw [jG] at cJ
         simp only [SN,Option.map_some] at cJ
         refine fin (.map (cur.eraseIdxIfInBounds p) ck) ?_ (fun cp=>⟨_,_,pD _ hg,iw,?_,fun i hi=>?_⟩)
         ·unfold Builtin.delete_
          simp only [List.getElem?_toArray,List.getElem?_cons_zero,List.getElem?_cons_succ,Sem.run_bind,run_underlying hu,Result.andThen_ok,fq hg,Nw,cJ,Sem.run_pure,mc _ hg]
         ·have Xe:p < cur.size:=by omega
          simp only [Sa,jG,Array.eraseIdxIfInBounds,Xe,dif_pos]
          rw [Array.size_eraseIdx,dK]
         ·have Xe:p < cur.size:=by omega
          simp only [Sa,jG] at hi
          simp only [Xk,jG,Array.eraseIdxIfInBounds,Xe,dif_pos]
          rw [Array.getElem?_eraseIdx]
          by_cases c:i < p
          ·obtain ⟨e',q1,q2,q3,q5⟩:=aJ i (by omega)
           simp only [c,if_true]
           exact ⟨e',q1,q2,q3,q5.mono (fun _ x=>x) (hw _)⟩
          ·obtain ⟨e',q1,q2,q3,q5⟩:=aJ (i+1) (by omega)
           simp only [c,if_false]
           exact ⟨e',q1,q2,q3,q5.mono (fun _ x=>x) (hw _)⟩
        | none =>
         rw [jG] at cJ
         simp only at cJ
         refine fin (.map cur ck) ?_ (fun cp=>⟨_,_,pD _ hg,iw,by simp [Sa,jG,dK],fun i hi=>?_⟩)
         ·unfold Builtin.delete_
          simp only [List.getElem?_toArray,List.getElem?_cons_zero,List.getElem?_cons_succ,Sem.run_bind,run_underlying hu,Result.andThen_ok,fq hg,Nw,cJ,Sem.run_pure,mc _ hg]
         ·simp only [Sa,jG] at hi
          obtain ⟨e',q1,q2,q3,q5⟩:=aJ i hi
          simp only [Xk,jG]
          exact ⟨e',q1,q2,q3,q5.mono (fun _ x=>x) (hw _)⟩
      ·cases h
     ·cases h
    ·cases h
   ·cases h
  ·cases h
 ·rename_i t m k ok ho
  split at h
  ·rename_i κ cs kt et _ _ _ _ hm hk ht
   split at h
   ·rename_i n f c z hl xM hz
    rw [Bool.cond_eq_ite] at h
    split at h
    ·rename_i hc
     simp only [Bool.and_eq_true] at hc
     obtain ⟨hc,lc⟩:=hc
     have lc:=Nat.eq_of_beq_eq_true lc
     simp only [Option.some.injEq] at h
     subst h
     have hκ:=iq (κ,.ml n f) (by simp)
     have tU:=hs.mem κ _ hκ
     have hv:=hρ _ _ hm
     generalize Am:a.eval m=mv at hv
     cases hv with
     | @kD _ g cap hμ =>
      rw [hμ] at tU
      obtain ⟨cur,ck,hg,iw,dK,aJ⟩:=tU.at
      have HH:=pQ hc (hρ _ _ hk)
      obtain ⟨v,SO,hv⟩:=yT (ok:=ok) hT hc lc ht xM hz bz hg dK aJ
      refine fk (τ:=Tr.mk need o.dst (bif ok then .il [.d (cB (bd cs) n f z),.d (.v (.bool (gM (bd cs) n f)))] else .d (cB (bd cs) n f z)) [(κ,.ml n f)] [] [] gs) hs hd (x:=bif ok then .tuple #[v,.bool (gM (bd cs) n f)] else v) ?_ (nc hv) rfl rfl rfl
      simp only [execOp,ho,Am,HH,Sem.run_bind,SO,Result.andThen_ok,Sem.run_pure]
    ·cases h
   ·cases h
  ·cases h
 ·cases h
theorem SS {P:Program} {T:List (Nat × TI)} {lb:List (Nat × aZ)} {ρ:Operand→Option AV} {dst:Option Nat} {quiet:Bool} {op:Op} {r:R} (h:Lh P T lb ρ dst quiet op=some r) :
  (∀ p,p∈r.ro→look lb p.1=some p.2)∧(∀ p,p∈r.mem→look lb p.1=some p.2)∧(quiet=true→r.mem=[]∧r.cS=[])∧∀ k,k∈r.cS.map (·.1)→k∈r.mem.map (·.1):=by
 unfold Lh at h
 have nil:∀ {p:Nat × aZ},p∈([]:List (Nat × aZ))→look lb p.1=some p.2:=fun h=>by cases h
 have one:∀ {κ:Nat} {b:aZ},look lb κ=some b→∀ p,p∈[(κ,b)]→look lb p.1=some p.2:=fun h p hp=>by simp only [List.mem_singleton] at hp; subst hp; exact h
 split at h
 ·split at h
  ·split at h
   ·split at h
    ·rename_i hl _
     split at h
     ·rw [Bool.cond_eq_ite] at h
      split at h
      ·simp only [Option.some.injEq] at h; subst h; exact ⟨fun _=>nil,one hl,fun hq=>(by cases hq),fun k hk=>by simpa using hk⟩
      ·cases h
     ·cases h
    ·cases h
   ·cases h
  ·cases h
 ·split at h
  ·split at h
   ·rename_i hl _ _
    rw [Bool.cond_eq_ite] at h
    split at h
    ·simp only [Option.some.injEq] at h; subst h; exact ⟨one hl,fun _=>nil,fun _=>⟨rfl,rfl⟩,fun k hk=>(by cases hk)⟩
    ·cases h
   ·cases h
  ·cases h
 ·cases h
def Eh (P:Program) (T:List (Nat × TI)) (lb:List (Nat × aZ)) (ρ:Operand→Option AV) (dst:Option Nat) (quiet:Bool) (op:Op):Option R:=match Lc P T lb ρ dst quiet op with
 | some r=>some r
 | none=>(match Lf P T lb ρ dst quiet op with | some r=>some r | none=>Lh P T lb ρ dst quiet op)
theorem I3 {T:List (Nat × TI)} (hT:im C.P T) (hs:cG C A a w S μ ν) {lb:List (Nat × aZ)} {o:Oper} {ρ:Operand→Option AV} (hρ:∀ x y,ρ x=some y→Rel w S μ ν y (a.eval x)) (hd:∀ t,o.dst=some t→t < C.nt) {quiet:Bool} {r:R}
  (h:Eh C.P T lb ρ o.dst quiet o.op=some r) (iq:∀ p,p∈r.ro→A.lb p.1=some p.2) (dY:∀ p,p∈r.mem→A.lb p.1=some p.2) (bz:r.ob.den) (need:List (Nat × AV)) (gs:List (Nat × Bool)) :
  o.wp C.P a w (fun a' w'=>∃ S' μ',cG C ((Tr.mk need o.dst r.v r.ro r.mem r.cS gs).apply A) a' w' S' μ' ν) (fun _ _ _=>False):=by
 unfold Eh at h
 split at h
 ·rename_i hm
  simp only [Option.some.injEq] at h
  subst h
  exact Ld hT hs hρ hd hm iq dY bz need gs
 ·split at h
  ·rename_i hm
   simp only [Option.some.injEq] at h
   subst h
   exact Lg hT hs hρ hd hm iq dY bz need gs
  ·exact Li hT hs hρ hd h iq dY bz need gs
theorem AE {P:Program} {T:List (Nat × TI)} {lb:List (Nat × aZ)} {ρ:Operand→Option AV} {dst:Option Nat} {quiet:Bool} {op:Op} {r:R} (h:Eh P T lb ρ dst quiet op=some r) :
  (∀ p,p∈r.ro→look lb p.1=some p.2)∧(∀ p,p∈r.mem→look lb p.1=some p.2)∧(quiet=true→r.mem=[]∧r.cS=[])∧∀ k,k∈r.cS.map (·.1)→k∈r.mem.map (·.1):=by
 unfold Eh at h
 split at h
 ·rename_i hm
  simp only [Option.some.injEq] at h
  subst h
  exact SP hm
 ·split at h
  ·rename_i hm
   simp only [Option.some.injEq] at h
   subst h
   exact SR hm
  ·exact SS h
end
structure pg where
 n:Nat
 n':Nat
 f:Nat→List D
 f':Nat→List D
 eq:n=n'∧∀ i,i < n→tF (f i) (f' i)
structure xo where
 x:AV
 y:AV
 le:∀ w S μ ν v,Rel w S μ ν x v→Rel w S μ ν y v
structure vj where
 n:Nat
 n':Nat
 f:Nat→Value × D
 f':Nat→Value × D
 eq:n=n'∧∀ i,i < n→f i=f' i
inductive xP where
 | flat (res:AV)
 | gen (hand:List Nat) (res:AV) (back:List (Nat × aZ))
 | dU (c:pg)
 | xQ (c:vj)
 | cast (d:Nat) (c:xo)
 | pur (d:Nat)
 | same (κ:Nat) (b':aZ)
 | bx (hand:List Nat) (fX:List (Nat × Nat)) (res:AV) (back:List (Nat × aZ))
 | alt (i0 j0 d:Nat) (c:xo)
def looks (lb:List (Nat × aZ)):List Nat→Option (List (Nat × aZ))
 | []=>some []
 | k :: r=>(match look lb k,looks lb r with | some b,some l=>some ((k,b) :: l) | _,_=>none)
def Dv (res:AV) (back:List (Nat × aZ)):Bool :=
 res.keys.all (fun k=>(back.map (·.1)).contains k)&&back.all (fun p=>p.2.keys.all fun k=>(back.map (·.1)).contains k)
def I4 (T:List (Nat × TI)) (lb:List (Nat × aZ)) (t:Nat) (ad v:AV):Option R :=
 match look T t,v.cells with
 | some i,some xs=>(match ad with
  | .ptr κ off=>(match look lb κ with
   | some (.box cs)=>bif Nat.beq xs.length i.size&&Nat.ble (off+i.size) cs.length&&qM.kP xs&&xs.all xL then some ⟨.any,[],[(κ,.box cs)],[(κ,.box (cs.take off++xs++cs.drop (off+i.size)))],.tt⟩ else none
   | _=>none)
  | .qQ κ k p off=>(match look lb κ,qR xs with
   | some (.row e k' n f),some ds=>bif Nat.beq k k'&&Nat.beq ds.length i.size&&Nat.ble (off+i.size) k&&ds.all uQ then
     some ⟨.any,[],[(κ,.row e k n f)],[(κ,.row e k n fun q=>if q=p then (f p).take off++ds++(f p).drop (off+i.size) else f q)],.pr (p < n)⟩ else none
   | _,_=>none)
  | _=>none)
 | _,_=>none
def SU (lb:List (Nat × aZ)) (k:Nat):AV→Option (Nat × (Nat→List D) × List (Nat × aZ) × Ob)
 | .d (.sl m g)=>some (m,g,[],.pr ((∀ i,i < m→(g i).length=k)∧∀ i,i < m→(g i).all uQ=true))
 | .d (.v (.slice none 0 0))=>some (0,fun _=>[],[],.tt)
 | .uH m g=>some (m,g,[],.pr ((∀ i,i < m→(g i).length=k)∧∀ i,i < m→(g i).all uQ=true))
 | .own κ m=>(match look lb κ with | some (.row e k' m' g)=>bif Nat.beq k k' then some (m,g,[(κ,.row e k' m' g)],(Ob.ne m m').and (.pr (∀ i,i < m→(g i).all uQ=true))) else none | _=>none)
 | _=>none
def Ei (T:List (Nat × TI)) (lb:List (Nat × aZ)) (dst t:Nat) (dv sv:AV):Option R :=
 match look T t with
 | some { kind:=.slice e,.. }=>(match look T e with
  | some i=>(match SU lb i.size sv with
   | some (m,g,ro,ob)=>(match dv with
    | .d (.v (.slice none 0 0))=>some ⟨.own dst (0+m),ro,[],[(dst,.row e i.size (0+m) fun q=>if q < 0 then [] else g (q - 0))],ob.and (.pr (0+m≤maxLen∧(0+m) * i.bytes≤140737488355328))⟩
    | .own κ n=>(match look lb κ with
     | some (.row e' k n' f)=>bif Nat.beq e e'&&Nat.beq k i.size&&!Nat.beq dst κ then some ⟨.own dst (n+m),ro,[(κ,.row e' k n' f)],[(dst,.row e i.size (n+m) fun q=>if q < n then f q else g (q - n))],ob.and ((Ob.ne n n').and (.pr (n+m≤maxLen∧(n+m) * i.bytes≤140737488355328)))⟩ else none
     | _=>none)
    | _=>none)
   | none=>none)
  | none=>none)
 | _=>none
def Dw (lb:List (Nat × aZ)) (κ:Nat):Bool:=match look lb κ with | some (.box _)=>true | _=>false
def SV (κ:Nat):AV→Bool
 | .ptr k 0=>Nat.beq k κ
 | _=>false
def Vz (args:List AV) (hand:List Nat) (cj:List (Nat × aZ)) (fX:List (Nat × Nat)) (res:AV) (back:List (Nat × aZ)):Bool :=
 fX.all (fun p=>Nat.ble (p.1+1) args.length&&SV p.2 (args.getD p.1 default)&&Dw cj p.2&&Dw back p.2) &&
 back.all (fun q=>(fX.map (·.2)).contains q.1||!hand.contains q.1) &&
 res.keys.all (fun k=>(back.map (·.1)).contains k&&!(fX.map (·.2)).contains k) &&
 back.all (fun q=>q.2.keys.all fun k=>(back.map (·.1)).contains k&&!(fX.map (·.2)).contains k)
def NR (P:Program) (lb:List (Nat × aZ)) (quiet:Bool) (cf:AV) (args:List AV):List xP→Option (R × List xP)
 | .flat res :: ji=>(match cf with
  | .fn f cF=>(match sq lb (args++cF) with
   | some (BQ,ro,ob)=>bif eZ res then some (⟨res,ro,[],[],ob.and (.pr (kE P f BQ [] res []))⟩,ji) else none
   | none=>none)
  | _=>none)
 | .gen hand res back :: ji=>(match cf with
  | .fn f cF=>(match looks lb hand with
   | some cj=>bif qM.kP (args++cF)&&Dv res back&&qM res&&(!quiet||(hand.isEmpty&&back.isEmpty))&&back.all (fun p=>!hand.contains p.1) then some (⟨res,[],cj,back,.pr (kE P f (args++cF) cj res back)⟩,ji) else none
   | none=>none)
  | _=>none)
 | .same κ b' :: ji=>(match cf with
  | .fn f cF=>(match look lb κ with
   | some b=>bif qM.kP (args++cF)&&!quiet then some (⟨.any,[],[(κ,b)],[(κ,b')],.pr (ZZ P f (args++cF) κ b b')⟩,ji) else none
   | none=>none)
  | _=>none)
 | .bx hand fX res back :: ji=>(match cf with
  | .fn f cF=>(match looks lb hand with
   | some cj=>bif qM.kP (args++cF)&&Vz (args++cF) hand cj fX res back&&qM res&&!quiet then some (⟨res,[],cj,back,.pr (SK P f (args++cF) cj res back fX)⟩,ji) else none
   | none=>none)
  | _=>none)
 | _=>none
def Xl (quiet:Bool) (dst:Option Nat) (ji:List xP):Option (List xP) :=
 match quiet with
 | true=>some ji
 | false=>(match dst,ji with
  | some t,.pur d :: r=>bif Nat.beq t d then some r else none
  | _,_=>none)
def Lj (P:Program) (T:List (Nat × TI)) (lb:List (Nat × aZ)) (ρ:Operand→Option AV) (dst:Option Nat) (quiet:Bool) (ji:List xP) (op:Op):Option (R × List xP) :=
 match op with
 | .alloc t=>(match quiet,dst,look T t with | false,some d,some i=>some (⟨.ptr d 0,[],[],[(d,.box (i.zero.map .d))],.tt⟩,ji) | _,_,_=>none)
 | .box _ x=>(match quiet,dst,ρ x with
  | false,some d,some v=>(match v.cells with
   | some cs=>(match Xl false (some d) ji,qR cs with
    | some pE,some ds=>some (⟨.ref ds,[],[],[],.tt⟩,pE)
    | _,_=>bif qM.kP cs&&!(AV.nZ cs).contains d then some (⟨.ptr d 0,[],[],[(d,.box cs)],.tt⟩,ji) else none)
   | none=>none)
  | _,_,_=>none)
 | .buildSlice t len ps=>(match qe T (unN ρ) t len ps.toList with
  | some (e,k,ds)=>(match Xl quiet dst ji with
   | some ji=>some (⟨.d (.sl len (xK k len ds)),[],[],[],.tt⟩,ji)
   | none=>(match quiet,dst with
    | false,some d=>some (⟨.own d len,[],[],[(d,.row e k len (xK k len ds))],.tt⟩,ji)
    | _,_=>none))
  | none=>none)
 | .store t ad x=>(match quiet,dst,ρ ad,ρ x with
  | false,none,some av,some v=>(match I4 T lb t av v with | some r=>some (r,ji) | none=>none)
  | _,_,_,_=>none)
 | .call { callee:=.builtin .append,args:=xs,argTypes:=ts }=>(match quiet,dst,xs.toList,ts.toList with
  | false,some d,[s,x],[t,t']=>(match Nat.beq t t',ρ s,ρ x with
   | true,some dv,some sv=>(match Ei T lb d t dv sv with | some r=>some (r,ji) | none=>none)
   | _,_,_=>none)
  | _,_,_,_=>none)
 | .call { callee:=.value cf,args:=xs,.. }=>(match ρ cf,oT ρ xs.toList with
  | some c,some l=>NR P lb quiet c l ji
  | _,_=>none)
 | .makeSlice t l c=>(match quiet,dst,look T t,ρ l,ρ c with
  | false,some d,some { kind:=.slice e,.. },some (.d (.v (.int _ n))),some (.d (.v (.int _ m)))=>(match look T e with
   | some i=>some (⟨.own d n.toNat,[],[],[(d,.row e i.size n.toNat fun _=>i.zero)],(Ob.ze n m).and (.pr (0≤n∧n.toNat≤maxLen∧n.toNat * i.bytes≤140737488355328))⟩,ji)
   | none=>none)
  | _,_,_,_,_=>none)
 | op=>(match IV T ρ op with
  | some (v,ob)=>some (⟨v,[],[],[],ob⟩,ji)
  | none=>(match ZT T lb ρ op with | some (v,ro,ob)=>some (⟨v,ro,[],[],ob⟩,ji) | none=>none))
def SX (T:List (Nat × TI)) (ρ:Operand→Option AV):Op→Option (AV × Ob)
 | .build t ps=>(match look T t,va ρ ps.toList with
  | some { kind:=.array _ e,zero:=z,.. },some vs=>(match look T e with
   | some ie=>(match DU (fun q=>some (q * ie.size,ie.size)) (z.map .d) vs with | some cs=>some (KM cs,.tt) | none=>none)
   | none=>none)
  | _,_=>none)
 | .indexAddr t x i=>(match look T t,ρ x,ρ i with
  | some { kind:=.array n e,.. },some (.ptr κ off),some (.d (.v (.int _ q)))=>(match look T e with | some ie=>some (.ptr κ (off+q.toNat * ie.size),.pr (0≤q∧q < n)) | none=>none)
  | some { kind:=.array n e,.. },some (.ref cs),some (.d (.v (.int _ q)))=>(match look T e with | some ie=>some (.ref (cs.drop (q.toNat * ie.size)),.pr (0≤q∧q < n)) | none=>none)
  | _,_,_=>none)
 | _=>none
def Lk (P:Program) (T:List (Nat × TI)) (lb:List (Nat × aZ)) (ρ:Operand→Option AV) (dst:Option Nat) (quiet:Bool) (ji:List xP) (op:Op):Option (R × List xP) :=
 match Eh P T lb ρ dst quiet op with
 | some r=>some (r,ji)
 | none=>(match Ed T lb ρ dst quiet op with
 | some r=>some (r,ji)
 | none=>(match SX T ρ op with
 | some (v,ob)=>some (⟨v,[],[],[],ob⟩,ji)
 | none=>Lj P T lb ρ dst quiet ji op))
def acu:Op→Bool
 | .buildSlice .. | .slice .. | .store .. | .makeSlice .. | .convert ..=>true
 | .call { callee:=.builtin .append,.. }=>true
 | _=>false
def Ll (c:pg) (r:R):Option R :=
 match r.cS with
 | [(κ,.row e k n f)]=>(match r.v with
  | .own κ' m=>bif Nat.beq κ' κ then some ⟨.own κ' c.n',r.ro,r.mem,[(κ,.row e k c.n' c.f')],r.ob.and ((Ob.ne m c.n).and ((Ob.ne n c.n).and (.fe f c.f)))⟩ else none
  | .any=>some ⟨.any,r.ro,r.mem,[(κ,.row e k c.n' c.f')],r.ob.and ((Ob.ne n c.n).and (.fe f c.f))⟩
  | _=>none)
 | []=>(match r.v with
  | .d (.sl n f)=>some ⟨.d (.sl c.n' c.f'),r.ro,r.mem,[],r.ob.and ((Ob.ne n c.n).and (.fe f c.f))⟩
  | _=>none)
 | _=>none
def Lm (c:vj) (r:R):Option R :=
 match r.cS with
 | [(κ,.mp n f)]=>(match r.v with
  | .any=>some ⟨.any,r.ro,r.mem,[(κ,.mp c.n' c.f')],r.ob.and ((Ob.ne n c.n).and (.me f c.f))⟩
  | .kD q=>some ⟨.kD q,r.ro,r.mem,[(κ,.mp c.n' c.f')],r.ob.and ((Ob.ne n c.n).and (.me f c.f))⟩
  | .il l=>some ⟨.il l,r.ro,r.mem,[(κ,.mp c.n' c.f')],r.ob.and ((Ob.ne n c.n).and (.me f c.f))⟩
  | _=>none)
 | [(κ,.ml n f)]=>(match r.v with
  | .any=>some ⟨.any,r.ro,r.mem,[(κ,.ml c.n' c.f')],r.ob.and ((Ob.ne n c.n).and (.me f c.f))⟩
  | _=>none)
 | _=>none
def Xm (c:xo) (r:R):R:=⟨c.y,r.ro,r.mem,r.cS,r.ob.and (.ve r.v c.x)⟩
def SY (P:Program) (T:List (Nat × TI)) (lb:List (Nat × aZ)) (ρ:Operand→Option AV) (dst:Option Nat) (quiet:Bool) (ji:List xP) (op:Op):Option (R × List xP) :=
 match Lk P T lb ρ dst quiet ji op with
 | some (r,GC)=>(match acu op,GC with
  | true,.dU c :: NS=>(match Ll c r with | some r'=>some (r',NS) | none=>some (r,GC))
  | _,.xQ c :: NS=>(match Lm c r with | some r'=>some (r',NS) | none=>some (r,GC))
  | _,.cast d c :: NS=>(match dst with | some t=>bif Nat.beq t d then some (Xm c r,NS) else some (r,GC) | none=>some (r,GC))
  | _,_=>some (r,GC))
 | none=>none
section
variable {C : Cx} {A : M} {a : Act} {w : World} {S : Nat → Prop} {μ : Mu} {ν : Nat → Bool}
theorem AF {lb:List (Nat × aZ)}:∀ {ks:List Nat} {l:List (Nat × aZ)},looks lb ks=some l→l.map (·.1)=ks
 | [],l,h=>by simp only [looks,Option.some.injEq] at h; subst h; rfl
 | k :: r,l,h=>by
  simp only [looks] at h
  cases h1:look lb k with
  | none=>rw [h1] at h; cases h
  | some b =>
   cases h2:looks lb r with
   | none=>rw [h1,h2] at h; cases h
   | some l' =>
    rw [h1,h2] at h
    simp only [Option.some.injEq] at h
    subst h
    simp [AF h2]
theorem Yi {T:List (Nat × TI)} (hT:im C.P T) (hs:cG C A a w S μ ν) {lb:List (Nat × aZ)} {o:Oper} {ρ:Operand→Option AV} (hρ:∀ x y,ρ x=some y→Rel w S μ ν y (a.eval x)) (hd:∀ t,o.dst=some t→t < C.nt)
  {v:AV} {ro:List (Nat × aZ)} {ob:Ob} (h:ZT T lb ρ o.op=some (v,ro,ob)) (iq:∀ p,p∈ro→A.lb p.1=some p.2) (bz:ob.den) (need:List (Nat × AV)) (gs:List (Nat × Bool)) :
  o.wp C.P a w (fun a' w'=>∃ S' μ',cG C ((Tr.mk need o.dst v ro [] [] gs).apply A) a' w' S' μ' ν) (fun _ _ _=>False):=by
 obtain ⟨x,h1,h2⟩:=QA hT hs hρ h iq bz
 exact fk hs hd h1 h2 rfl rfl rfl
theorem I5 {o:Oper} {t:TypeId} {ds:List D} {τ:Tr} (hs:cG C A a w S μ ν) (hd:∀ t,o.dst=some t→t < C.nt) {vs:Array Value}
  (dM:(execOp a.eval o).run C.P w=.ok (.value (.pointer (some ⟨w.heap.size,0,none⟩))) (w.alloc (.cells vs t))) (hr:dq w S μ ν (ds.map .d) vs.toList)
  (h0:τ.v=.ref ds) (h1:τ.dst=o.dst) (h2:τ.mem=[]) (h3:τ.cS=[]) :
  o.wp C.P a w (fun a' w'=>∃ S' μ',cG C (τ.apply A) a' w' S' μ' ν) (fun _ _ _=>False):=by
 unfold Oper.wp
 rw [dM]
 let S':Nat→Prop:=fun q=>S q∨q=w.heap.size
 have h4:=hs.world (S':=S') (w':=w.alloc (.cells vs t)) (fun _ x=>.inl x) (fun q hq=>hq.elim .inl (fun e=>.inr ⟨by omega,by rw [e]; simp⟩)) (lF w _ _)
 have hl:=hr.1
 simp only [List.length_map,Array.length_toList] at hl
 have Nv:∀ ν,Rel (w.alloc (.cells vs t)) S' μ ν (.ref ds) (.pointer (some ⟨w.heap.size,0,none⟩)):=fun ν'=>by
  refine .ref (fun j=>vs.toList.getD j undef) (fun j hj=>⟨.inr rfl,?_⟩) (fun j hj=>?_)
  ·rw [kN _ _ _ vs t (0,0) (heap_alloc_new w _)]
   have cI:j < vs.size:=by omega
   simp [List.getD,cI]
  ·have:=hr.2 j (by simpa using hj)
   rw [gb _ j hj] at this
   exact (eE.1 this).mono (fun _ x=>.inl x) (fun q hq=>heap_alloc_old w _ (hs.bound q hq))
 have h5:=h4.put (dst:=o.dst) (x:=.ref ds) (v:=.pointer (some ⟨w.heap.size,0,none⟩)) hd (Nv ν)
 refine ⟨S',μ,?_⟩
 have e:τ.apply A=A.uP o.dst (.ref ds):=by
  unfold Tr.apply M.uP M.put
  rw [h0,h1,h2,h3]
  cases ho:o.dst with
  | none=>simp [look]
  | some d =>
   simp only [look,List.map_nil,List.not_mem_nil,if_false,Option.some.injEq]
   congr 1
   funext t
   by_cases c:d=t
   ·simp [c]
   ·have:¬ t=d:=fun e=>c e.symm
    simp [c,this]
 rw [e]
 exact h5
theorem Ln {T:List (Nat × TI)} (hT:im C.P T) (hs:cG C A a w S μ ν) {lb:List (Nat × aZ)} {o:Oper} {ρ:Operand→Option AV} (hρ:∀ x y,ρ x=some y→Rel w S μ ν y (a.eval x)) (hd:∀ t,o.dst=some t→t < C.nt) {quiet:Bool} {ji pE:List xP} {r:R}
  (h:Lj C.P T lb ρ o.dst quiet ji o.op=some (r,pE)) (iq:∀ p,p∈r.ro→A.lb p.1=some p.2) (dY:∀ p,p∈r.mem→A.lb p.1=some p.2) (bz:r.ob.den) (pP:∀ κ,κ∈(r.cS.map (·.1)).filter (fun k=>!(r.mem.map (·.1)).contains k)→gL A κ) (need:List (Nat × AV)) (gs:List (Nat × Bool)) :
  o.wp C.P a w (fun a' w'=>∃ S' μ',cG C ((Tr.mk need o.dst r.v r.ro r.mem r.cS gs).apply A) a' w' S' μ' ν) (fun _ _ _=>False):=by
 unfold Lj at h
 split at h
 all_goals rename_i ho
 ·rename_i t0
  split at h
  ·rename_i d i cu hi
   simp only [Option.some.injEq,Prod.mk.injEq] at h
   obtain ⟨rfl,-⟩:=h
   obtain ⟨ti,z,F⟩:=ar (hT _ _ hi)
   obtain ⟨q1,q2⟩:=ga (w:=w) (S:=S) F.Sq
   have hz:dq w S μ ν (i.zero.map .d) z.cells.toList:=by
    refine ⟨by simpa using q1,fun j hj=>?_⟩
    simp only [List.length_map] at hj
    rw [gb _ j hj]
    exact .d (q2 j hj)
   have hng:∀ l:List D,qM.kP (l.map AV.d)=true:=fun l=>by induction l with | nil=>rfl | cons x r ih=>simpa [qM.kP,qM] using ih
   have NT:∀ l:List D,AV.nZ (l.map AV.d)=[]:=fun l=>by induction l with | nil=>rfl | cons x r ih=>simpa [AV.nZ,AV.keys] using ih
   rw [cu]
   refine K3 (t:=t0) hs cu (hd d cu) (vs:=z.cells) ?_ hz (hng _) (pP d (by simp)) (by rw [NT]; simp)
   simp only [execOp,ho,Instr.alloc,zeroValue,typeInfo,Sem.run_bind,run_program,Result.andThen_ok,F.info,Sem.run_pure,F.zero,newVar,newRow,run_newObj]
   rfl
  ·cases h
 ·rename_i t0 x0
  split at h
  ·rename_i d v cu hx
   split at h
   ·rename_i cs hc
    split at h
    ·rename_i pE ds _ hp
     simp only [Option.some.injEq,Prod.mk.injEq] at h
     obtain ⟨rfl,-⟩:=h
     have ecs:=mY hp
     subst ecs
     refine I5 (t:=t0) (ds:=ds) hs hd ?_ (lE hc (hρ _ _ hx)) rfl rfl rfl rfl
     simp only [execOp,ho,Instr.box,newVar,newRow,Sem.run_bind,run_newObj,Result.andThen_ok,Sem.run_pure]
     rfl
    cases hb:(qM.kP cs&&!(AV.nZ cs).contains d) with
    | false=>rw [hb] at h; cases h
    | true =>
     rw [hb] at h
     simp only [cond_true,Option.some.injEq,Prod.mk.injEq] at h
     obtain ⟨rfl,-⟩:=h
     simp only [Bool.and_eq_true,Bool.not_eq_true',List.contains_eq_mem,decide_eq_false_iff_not] at hb
     rw [cu]
     refine K3 (t:=t0) hs cu (hd d cu) ?_ (lE hc (hρ _ _ hx)) hb.1 (pP d (by simp)) hb.2
     simp only [execOp,ho,Instr.box,newVar,newRow,Sem.run_bind,run_newObj,Result.andThen_ok,Sem.run_pure]
     rfl
   ·cases h
  ·cases h
 ·split at h
  ·rename_i e k ds hbc
   split at h
   ·simp only [Option.some.injEq,Prod.mk.injEq] at h
    obtain ⟨rfl,-⟩:=h
    exact D9 hT hs hd ho (SL hρ) hbc rfl rfl rfl rfl
   ·split at h
    ·rename_i d cu _
     simp only [Option.some.injEq,Prod.mk.injEq] at h
     obtain ⟨rfl,-⟩:=h
     rw [cu]
     exact Ci hT hs cu (hd d cu) ho (SL hρ) hbc (pP d (by simp))
    ·cases h
  ·cases h
 ·split at h
  ·rename_i av v cu R3 hv
   split at h
   ·rename_i r' jD
    simp only [Option.some.injEq,Prod.mk.injEq] at h
    obtain ⟨rfl,-⟩:=h
    rw [cu]
    unfold I4 at jD
    split at jD
    ·rename_i i xs hi hc
     split at jD
     ·rename_i κ off
      split at jD
      ·rename_i cs hl
       cases hb:(Nat.beq xs.length i.size&&Nat.ble (off+i.size) cs.length&&qM.kP xs&&xs.all xL) with
       | false=>rw [hb] at jD; cases jD
       | true =>
        rw [hb] at jD
        simp only [Bool.and_eq_true] at hb
        simp only [cond_true,Option.some.injEq] at jD
        subst jD
        exact DY hs (hT _ _ hi) ho cu (hρ _ _ R3) (hρ _ _ hv) (dY (κ,.box cs) (by simp)) hc (Nat.eq_of_beq_eq_true hb.1.1.1) (Nat.le_of_ble_eq_true hb.1.1.2) hb.1.2 hb.2 _
      ·cases jD
     ·rename_i κ k p off
      split at jD
      ·rename_i e k' n f ds hl hp
       cases hb:(Nat.beq k k'&&Nat.beq ds.length i.size&&Nat.ble (off+i.size) k&&ds.all uQ) with
       | false=>rw [hb] at jD; cases jD
       | true =>
        rw [hb] at jD
        simp only [Bool.and_eq_true] at hb
        simp only [cond_true,Option.some.injEq] at jD
        subst jD
        exact D0 hs (hT _ _ hi) ho cu (hρ _ _ R3) (hρ _ _ hv) (dY (κ,.row e k n f) (by simp)) hc hp (Nat.eq_of_beq_eq_true hb.1.1.2) (Nat.le_of_ble_eq_true hb.1.2) bz hb.2 _
      ·cases jD
     ·cases jD
    ·cases jD
   ·cases h
  ·cases h
 ·rename_i xs ts
  split at h
  ·rename_i d s x t t' cu QB Kz
   split at h
   ·rename_i dv sv htt ZX Vr
    split at h
    ·rename_i r' uY
     simp only [Option.some.injEq,Prod.mk.injEq] at h
     obtain ⟨rfl,-⟩:=h
     rw [cu]
     have e1:=Nat.eq_of_beq_eq_true htt
     subst e1
     have Ns:o.op=.call { callee:=.builtin .append,args:=#[s,x],argTypes:=#[t,t] }:=by
      rw [ho]
      congr 2
      ·cases xs; simpa using QB
      ·cases ts; simpa using Kz
     unfold Ei at uY
     split at uY
     ·rename_i e _ _ _ _ hl
      split at uY
      ·rename_i i hi
       split at uY
       ·rename_i m g HG xj jh
        have src:xj.den→(∀ p,p∈HG→A.lb p.1=some p.2)→∃ ys,K4 w S i.size m g (a.eval x) ys:=by
         intro Ej acv
         have hr:=hρ _ _ Vr
         unfold SU at jh
         split at jh
         ·simp only [Option.some.injEq,Prod.mk.injEq] at jh
          obtain ⟨rfl,rfl,rfl,rfl⟩:=jh
          exact K5 (eE.1 hr) Ej.1 Ej.2
         ·simp only [Option.some.injEq,Prod.mk.injEq] at jh
          obtain ⟨rfl,rfl,rfl,rfl⟩:=jh
          have:=bG rfl hr
          exact ⟨[],⟨⟨by simp,fun i hi=>absurd hi (by omega)⟩,fun u hu=>(by cases hu),.inl ⟨this,rfl⟩⟩⟩
         ·simp only [Option.some.injEq,Prod.mk.injEq] at jh
          obtain ⟨rfl,rfl,rfl,rfl⟩:=jh
          generalize a.eval x=xv at hr
          cases hr with
          | uH hd=>exact K5 hd Ej.1 Ej.2
         ·rename_i κ m0
          split at jh
          ·rename_i e2 k2 m2 g2 vZ
           cases hb:Nat.beq i.size k2 with
           | false=>rw [hb] at jh; cases jh
           | true =>
            rw [hb] at jh
            have e3:=Nat.eq_of_beq_eq_true hb
            simp only [cond_true,Option.some.injEq,Prod.mk.injEq] at jh
            obtain ⟨rfl,rfl,rfl,rfl⟩:=jh
            have Nu:=acv (κ,.row e2 k2 m2 g2) (by simp)
            obtain ⟨o5,o6⟩:=Ob.bR Ej
            rw [← e3,← (show _=_ from o5)] at Nu
            exact Vp hs Nu hr o6
          ·cases jh
         ·cases jh
        split at uY
        ·simp only [Option.some.injEq] at uY
         subst uY
         obtain ⟨o1,o2,o3⟩:=Ob.bR bz
         obtain ⟨ys,hys⟩:=src o1 iq
         exact BO hs cu (hd d cu) (hT _ _ hl) rfl (hT _ _ hi) Ns (hρ _ _ ZX) (.nil (fun _=>[])) rfl hys o2 o3 (pP d (by simp))
        ·rename_i κ n
         split at uY
         ·rename_i e' k n' f vZ
          cases hb:(Nat.beq e e'&&Nat.beq k i.size&&!Nat.beq d κ) with
          | false=>rw [hb] at uY; cases uY
          | true =>
           rw [hb] at uY
           simp only [cond_true,Option.some.injEq] at uY
           subst uY
           simp only [Bool.and_eq_true] at hb
           have e4:=Nat.eq_of_beq_eq_true hb.1.1
           have e5:=Nat.eq_of_beq_eq_true hb.1.2
           obtain ⟨o1,o7⟩:=Ob.bR bz
           obtain ⟨o2,o3,o4⟩:=Ob.bR o7
           have o2:n=n':=o2
           subst e4; subst e5; subst o2
           obtain ⟨ys,hys⟩:=src o1 iq
           have hκ:=dY (κ,.row e i.size n f) (by simp)
           have gN:d ∉ [κ]:=fun hc=>by
            simp only [List.mem_singleton] at hc
            subst hc
            have:=hb.2
            rw [Nat.beq_refl] at this
            cases this
           exact BO hs cu (hd d cu) (hT _ _ hl) rfl (hT _ _ hi) Ns (hρ _ _ ZX) (.own hκ) rfl hys o3 o4 (pP d (by simpa using gN))
         ·cases uY
        ·cases uY
       ·cases uY
      ·cases uY
     ·cases uY
    ·cases h
   ·cases h
  ·cases h
 ·rename_i cf xs _
  split at h
  ·rename_i c l hc hl
   have iP:=jE hρ xs.toList l hl
   unfold NR at h
   split at h
   ·rename_i res QL
    split at h
    ·rename_i f cF
     split at h
     ·rename_i BQ HG xj hb
      cases Cd:eZ res with
      | false=>rw [Cd] at h; cases h
      | true =>
       rw [Cd] at h
       simp only [cond_true,Option.some.injEq,Prod.mk.injEq] at h
       obtain ⟨rfl,-⟩:=h
       exact D6 hs hd ho (hρ _ _ hc) iP hb iq (Ob.bR bz).1 (Ob.bR bz).2 Cd rfl rfl rfl rfl
     ·cases h
    ·cases h
   ·rename_i hand res back QL
    split at h
    ·rename_i f cF
     split at h
     ·rename_i cj vZ
      cases hb:(qM.kP (l++cF)&&Dv res back&&qM res&&(!quiet||(hand.isEmpty&&back.isEmpty))&&back.all (fun p=>!hand.contains p.1)) with
      | false=>rw [hb] at h; cases h
      | true =>
       rw [hb] at h
       simp only [cond_true,Option.some.injEq,Prod.mk.injEq] at h
       obtain ⟨rfl,-⟩:=h
       simp only [Bool.and_eq_true,Dv,List.all_eq_true,List.contains_eq_mem,decide_eq_true_eq,Bool.not_eq_true',decide_eq_false_iff_not] at hb
       obtain ⟨⟨⟨⟨h1,h2,h3⟩,h4⟩,h5⟩,h6⟩:=hb
       refine QH hs hd ho (hρ _ _ hc) iP h1 bz dY (fun k hk=>pP k ?_) h2 h3
       have SZ:=AF vZ
       simp only [List.mem_filter,Bool.not_eq_true',List.contains_eq_mem,decide_eq_false_iff_not]
       refine ⟨hk,?_⟩
       rw [SZ]
       obtain ⟨p,hp,rfl⟩:=List.mem_map.1 hk
       exact h6 p hp
     ·cases h
    ·cases h
   ·rename_i κ b' QL
    split at h
    ·rename_i f cF
     split at h
     ·rename_i b vZ
      cases hb:(qM.kP (l++cF)&&!quiet) with
      | false=>rw [hb] at h; cases h
      | true =>
       rw [hb] at h
       simp only [cond_true,Option.some.injEq,Prod.mk.injEq] at h
       obtain ⟨rfl,-⟩:=h
       simp only [Bool.and_eq_true] at hb
       exact D8 hs hd ho (hρ _ _ hc) iP hb.1 bz (dY (κ,b) (by simp))
     ·cases h
    ·cases h
   ·rename_i hand fX res back QL
    split at h
    ·rename_i f cF
     split at h
     ·rename_i cj vZ
      cases hb:(qM.kP (l++cF)&&Vz (l++cF) hand cj fX res back&&qM res&&!quiet) with
      | false=>rw [hb] at h; cases h
      | true =>
       rw [hb] at h
       simp only [cond_true,Option.some.injEq,Prod.mk.injEq] at h
       obtain ⟨rfl,-⟩:=h
       simp only [Bool.and_eq_true,Vz,List.all_eq_true,List.contains_eq_mem,decide_eq_true_eq,Bool.not_eq_true',decide_eq_false_iff_not,Bool.or_eq_true] at hb
       obtain ⟨⟨⟨h1,⟨⟨h2,h3⟩,h4⟩,h5⟩,h6⟩,h7⟩:=hb
       have SZ:=AF vZ
       have box:∀ (lb:List (Nat × aZ)) κ,Dw lb κ=true→∃ cs,look lb κ=some (.box cs):=fun lb κ h=>by
        unfold Dw at h
        split at h
        ·exact ⟨_,by assumption⟩
        ·cases h
       have ptr:∀ κ x,SV κ x=true→x=.ptr κ 0:=fun κ x h=>by
        unfold SV at h
        split at h
        ·rw [Nat.eq_of_beq_eq_true h]
        ·cases h
       refine IP hs hd ho (hρ _ _ hc) iP h1 bz (fun p hp=>?_) dY (fun k hk hn=>pP k ?_) h4 h5
       ·obtain ⟨⟨⟨a1,a2⟩,a3⟩,a4⟩:=h2 p hp
        exact ⟨Nat.le_of_ble_eq_true a1,ptr _ _ a2,box _ _ a3,box _ _ a4⟩
       ·simp only [List.mem_filter,Bool.not_eq_true',List.contains_eq_mem,decide_eq_false_iff_not]
        refine ⟨hk,?_⟩
        rw [SZ]
        obtain ⟨p,hp,rfl⟩:=List.mem_map.1 hk
        exact (h3 p hp).resolve_left hn
     ·cases h
    ·cases h
   ·cases h
  ·cases h
 ·split at h
  ·rename_i d e _ _ _ _ kl n kc m cu ht hl hc
   split at h
   ·rename_i i hi
    simp only [Option.some.injEq,Prod.mk.injEq] at h
    obtain ⟨rfl,-⟩:=h
    have Ej:((Ob.ze n m).and (.pr (0≤n∧n.toNat≤maxLen∧n.toNat * i.bytes≤140737488355328))).den:=bz
    obtain ⟨o1,o2,o3,o4⟩:=Ob.bR Ej
    have o1:n=m:=o1
    subst o1
    rw [cu]
    exact QI hT hs cu (hd d cu) ho ht rfl hi (dh (hρ _ _ hl)) (dh (hρ _ _ hc)) o2 o3 o4 (pP d (by simp))
   ·cases h
  ·cases h
 ·split at h
  ·rename_i v xj hv
   simp only [Option.some.injEq,Prod.mk.injEq] at h
   obtain ⟨rfl,-⟩:=h
   exact NN hT hs hρ hd hv bz need _ gs
  ·split at h
   ·rename_i v HG xj hv
    simp only [Option.some.injEq,Prod.mk.injEq] at h
    obtain ⟨rfl,-⟩:=h
    exact Yi hT hs hρ hd hv iq bz need gs
   ·cases h
theorem Lo {T:List (Nat × TI)} (hT:im C.P T) {o:Oper} {ρ:Operand→Option AV} (hρ:∀ x y,ρ x=some y→Rel w S μ ν y (a.eval x)) {v:AV} {ob:Ob} (h:SX T ρ o.op=some (v,ob)) (bz:ob.den) :
  ∃ x,(execOp a.eval o).run C.P w=.ok (.value x) w∧Rel w S μ ν v x:=by
 unfold SX at h
 split at h
 ·rename_i t ps ho
  split at h
  ·rename_i n e _ _ z _ vs hl hv
   split at h
   ·rename_i ie he
    split at h
    ·rename_i cs Au
     simp only [Option.some.injEq,Prod.mk.injEq] at h
     obtain ⟨rfl,-⟩:=h
     obtain ⟨ti,zz,F⟩:=ar (hT t _ hl)
     have hu:=tI F.kind
     obtain ⟨te,ze,G⟩:=ar (hT e _ he)
     have dK:(sizeOf e).run C.P w=.ok ie.size w:=by simp [sizeOf,typeInfo,G.info,G.size]
     obtain ⟨q1,q2⟩:=ga (w:=w) (S:=S) F.Sq
     have hz:dq w S μ ν (z.map .d) zz.cells.toList:=by
      refine ⟨by simpa using q1,fun i hi=>?_⟩
      simp only [List.length_map] at hi
      rw [gb z i hi]
      exact .d (q2 i hi)
     obtain ⟨v1,v2⟩:=tN hρ ps.toList vs hv
     obtain ⟨DV,hf,hr⟩:=v8 (fun q=>some (q * ie.size,ie.size)) vs (ps.toList.map fun p=>(p.1,a.eval p.2)) (z.map .d) cs zz.cells hz v1 v2 Au
     refine ⟨.agg DV,?_,vY (by have:=hr.1; simpa using this) (fun i hi=>by rw [cz]; exact hr.2 i hi)⟩
     have Xf:(ps.map fun (i,x)=>(i,a.eval x)).toList=ps.toList.map fun p=>(p.1,a.eval p.2):=by simp
     simp only [execOp,ho,Instr.build,Sem.run_bind,zeroValue,typeInfo,run_program,Result.andThen_ok,F.info,Sem.run_pure,F.zero,run_underlying hu,dK,Xf]
     rw [hf]
     simp
    ·cases h
   ·cases h
  ·cases h
 ·rename_i t x i ho
  split at h
  ·rename_i n e _ _ _ _ κ off kk q hl hx hi
   split at h
   ·rename_i ie he
    simp only [Option.some.injEq,Prod.mk.injEq] at h
    obtain ⟨rfl,rfl⟩:=h
    have bz:0≤q∧q < n:=bz
    obtain ⟨ti,zz,F⟩:=ar (hT t _ hl)
    have hu:=tI F.kind
    obtain ⟨te,ze,G⟩:=ar (hT e _ he)
    have dK:(sizeOf e).run C.P w=.ok ie.size w:=by simp [sizeOf,typeInfo,G.info,G.size]
    have U2:=hρ _ _ hx
    have R9:=dh (hρ _ _ hi)
    generalize R3:a.eval x=av at U2
    cases U2 with
    | @ptr _ _ g cap hμ =>
     refine ⟨.pointer (some ⟨g,off+q.toNat * ie.size,none⟩),?_,.ptr hμ⟩
     simp [execOp,ho,R3,R9,Instr.indexAt,asIntOf,run_underlying hu,Instr.sureAddr,bz,dK,addr_add]
   ·cases h
  ·rename_i n e _ _ _ _ cs kk q hl hx hi
   split at h
   ·rename_i ie he
    simp only [Option.some.injEq,Prod.mk.injEq] at h
    obtain ⟨rfl,rfl⟩:=h
    have bz:0≤q∧q < n:=bz
    obtain ⟨ti,zz,F⟩:=ar (hT t _ hl)
    have hu:=tI F.kind
    obtain ⟨te,ze,G⟩:=ar (hT e _ he)
    have dK:(sizeOf e).run C.P w=.ok ie.size w:=by simp [sizeOf,typeInfo,G.info,G.size]
    have U2:=hρ _ _ hx
    have R9:=dh (hρ _ _ hi)
    generalize R3:a.eval x=av at U2
    cases U2 with
    | @ref _ b o' cy aJ hr =>
     refine ⟨.pointer (some ⟨b,o'+q.toNat * ie.size,none⟩),?_,.ref (fun j=>cy (q.toNat * ie.size+j)) (fun j hj=>?_) (fun j hj=>?_)⟩
     ·simp [execOp,ho,R3,R9,Instr.indexAt,asIntOf,run_underlying hu,Instr.sureAddr,bz,dK,addr_add]
     ·simp only [List.length_drop] at hj
      have:=aJ (q.toNat * ie.size+j) (by omega)
      rw [← Nat.add_assoc] at this
      exact this
     ·simp only [List.length_drop] at hj
      have:=hr (q.toNat * ie.size+j) (by omega)
      simpa [List.getD] using this
   ·cases h
  ·cases h
 ·cases h
theorem iy {T:List (Nat × TI)} (hT:im C.P T) (hs:cG C A a w S μ ν) {lb:List (Nat × aZ)} {o:Oper} {ρ:Operand→Option AV} (hρ:∀ x y,ρ x=some y→Rel w S μ ν y (a.eval x)) (hd:∀ t,o.dst=some t→t < C.nt) {quiet:Bool} {ji pE:List xP} {r:R}
  (h:Lk C.P T lb ρ o.dst quiet ji o.op=some (r,pE)) (iq:∀ p,p∈r.ro→A.lb p.1=some p.2) (dY:∀ p,p∈r.mem→A.lb p.1=some p.2) (bz:r.ob.den) (pP:∀ κ,κ∈(r.cS.map (·.1)).filter (fun k=>!(r.mem.map (·.1)).contains k)→gL A κ) (need:List (Nat × AV)) (gs:List (Nat × Bool)) :
  o.wp C.P a w (fun a' w'=>∃ S' μ',cG C ((Tr.mk need o.dst r.v r.ro r.mem r.cS gs).apply A) a' w' S' μ' ν) (fun _ _ _=>False):=by
 unfold Lk at h
 split at h
 ·rename_i r' hm
  simp only [Option.some.injEq,Prod.mk.injEq] at h
  obtain ⟨rfl,-⟩:=h
  exact I3 hT hs hρ hd hm iq dY bz need gs
 split at h
 ·rename_i r' hm
  simp only [Option.some.injEq,Prod.mk.injEq] at h
  obtain ⟨rfl,-⟩:=h
  exact IX hT hs hρ hd hm iq dY bz pP need gs
 split at h
 ·rename_i v ob hm
  simp only [Option.some.injEq,Prod.mk.injEq] at h
  obtain ⟨rfl,-⟩:=h
  obtain ⟨x,h1,h2⟩:=Lo hT hρ hm bz
  exact fk hs hd h1 h2 rfl rfl rfl
 ·exact Ln hT hs hρ hd h iq dY bz pP need gs
theorem Lp {α:Type} (k:Nat) (x:α) (r:List (Nat × α)) (t:Nat):look ((k,x) :: r) t=if k=t then some x else look r t:=by
 simp only [look]
 cases hb:Nat.beq k t with
 | true=>simp [Nat.eq_of_beq_eq_true hb]
 | false =>
  have:¬ k=t:=fun e=>by rw [e,Nat.beq_refl] at hb; cases hb
  simp [this]
theorem cG.weaken {B:M} (h:cG C A a w S μ ν) (Gq:∀ t v,Rel w S μ ν (A.sl t) v→Rel w S μ ν (B.sl t) v) (Nu:∀ κ b',B.lb κ=some b'→∃ b,A.lb κ=some b∧∀ y,ew w S μ b y→ew w S μ b' y):cG C B a w S μ ν:=by
 refine ⟨h.tmps,h.defers,fun t=>Gq t _ (h.dN t),fun κ b hb=>?_,fun κ κ' b b' g c c' hb iu hm uS=>?_,fun κ b g c hb hm=>?_,h.dR,h.fresh,h.bound,h.kept⟩
 ·obtain ⟨d,h1,h2⟩:=Nu κ b hb
  exact h2 _ (h.mem κ d h1)
 ·obtain ⟨d,h1,_⟩:=Nu κ b hb
  obtain ⟨d',h1',_⟩:=Nu κ' b' iu
  exact h.inj κ κ' d d' g c c' h1 h1' hm uS
 ·obtain ⟨d,h1,_⟩:=Nu κ b hb
  exact h.own κ d g c h1 hm
theorem S4 {e k n n':Nat} {f f':Nat→List D} (hn:n=n') (hf:∀ i,i < n→tF (f i) (f' i)) (y:Option (Option (Nat × Nat))) (h:ew w S μ (.row e k n f) y):ew w S μ (.row e k n' f') y:=by
 subst hn
 cases y with
 | none=>exact h
 | some y =>
  cases y with
  | none=>exact h
  | some gc =>
   obtain ⟨g,c⟩:=gc
   obtain ⟨cur,q1,q2,q3,q4,q5,q6⟩:=h.at
   refine cx.ok ⟨cur,q1,q2,q3,q4,q5,fun i hi=>?_⟩
   obtain ⟨z1,z2⟩:=q6 i hi
   refine ⟨(hf i hi).1 ▸ z1,fun j hj=>?_⟩
   obtain ⟨x,x1,x2⟩:=z2 j hj
   exact ⟨x,x1,(hf i hi).2 j (by omega) _ _ _ x2⟩
theorem QM {c:pg} {r r':R} (h:Ll c r=some r') (bz:r'.ob.den):r.ob.den∧r'.ro=r.ro∧r'.mem=r.mem∧r'.cS.map (·.1)=r.cS.map (·.1) ∧
  ∀ {A:M} {dst:Option Nat} {need:List (Nat × AV)} {gs:List (Nat × Bool)} {a:Act} {w:World} {S:Nat→Prop} {μ:Mu} {ν:Nat→Bool},cG C ((Tr.mk need dst r.v r.ro r.mem r.cS gs).apply A) a w S μ ν→cG C ((Tr.mk need dst r'.v r'.ro r'.mem r'.cS gs).apply A) a w S μ ν:=by
 obtain ⟨cn,ce⟩:=c.eq
 obtain ⟨v,ro,mem,cS,ob⟩:=r
 unfold Ll at h
 split at h
 ·rename_i κ e k n f dY
  dsimp only at dY
  subst dY
  have blk:n=c.n→f=c.f→∀ {A:M} {dst:Option Nat} {need:List (Nat × AV)} {gs:List (Nat × Bool)} {a:Act} {w:World} {S:Nat→Prop} {μ:Mu} {ν:Nat→Bool} {x y:AV},(∀ v,Rel w S μ ν x v→Rel w S μ ν y v)→cG C ((Tr.mk need dst x ro mem [(κ,.row e k n f)] gs).apply A) a w S μ ν→cG C ((Tr.mk need dst y ro mem [(κ,.row e k c.n' c.f')] gs).apply A) a w S μ ν:=by
   intro hn hf A dst need gs a w S μ ν x y hxy hs
   refine hs.weaken (fun t v hv=>?_) (fun κ' b' iu=>?_)
   ·simp only [Tr.apply] at hv ⊢
    split
    ·rename_i hd
     simp only [hd,if_true] at hv
     exact hxy v hv
    ·rename_i hd
     simp only [hd,if_false] at hv
     exact hv
   ·simp only [Tr.apply,Lp] at iu ⊢
    by_cases hk:κ=κ'
    ·subst hk
     simp only [if_true,Option.some.injEq] at iu ⊢
     subst iu
     exact ⟨_,rfl,fun y=>S4 (hn.trans cn) (fun i hi=>by rw [hf]; exact ce i (by omega)) y⟩
    ·simp only [hk,if_false] at iu ⊢
     exact ⟨b',iu,fun _ h=>h⟩
  split at h
  ·rename_i κ' m hv
   dsimp only at hv
   subst hv
   cases hb:Nat.beq κ' κ with
   | false=>rw [hb] at h; cases h
   | true =>
    rw [hb] at h
    simp only [cond_true,Option.some.injEq] at h
    subst h
    obtain ⟨o1,o2⟩:=Ob.bR bz
    obtain ⟨o3,o4⟩:=Ob.bR o2
    obtain ⟨o5,o6⟩:=Ob.bR o4
    have o3:m=c.n:=o3
    refine ⟨o1,rfl,rfl,rfl,fun hs=>blk o5 o6 (fun v hv=>?_) hs⟩
    rw [o3,cn] at hv
    exact hv
  ·rename_i hv
   dsimp only at hv
   subst hv
   simp only [Option.some.injEq] at h
   subst h
   obtain ⟨o1,o2⟩:=Ob.bR bz
   obtain ⟨o5,o6⟩:=Ob.bR o2
   exact ⟨o1,rfl,rfl,rfl,fun hs=>blk o5 o6 (fun v hv=>hv) hs⟩
  ·cases h
 ·rename_i dY
  dsimp only at dY
  subst dY
  split at h
  ·rename_i n f hv
   dsimp only at hv
   subst hv
   simp only [Option.some.injEq] at h
   subst h
   obtain ⟨o1,o2⟩:=Ob.bR bz
   obtain ⟨o5,o6⟩:=Ob.bR o2
   have o5:n=c.n:=o5
   have o6:f=c.f:=o6
   refine ⟨o1,rfl,rfl,rfl,fun hs=>?_⟩
   refine hs.weaken (fun t v hv=>?_) (fun κ' b' iu=>⟨b',iu,fun _ h=>h⟩)
   simp only [Tr.apply] at hv ⊢
   split
   ·rename_i hd
    simp only [hd,if_true] at hv
    exact .d (oS.slc (o5.trans cn) (fun i hi=>by rw [o6]; exact ce i (by omega)) _ _ _ (eE.1 hv))
   ·rename_i hd
    simp only [hd,if_false] at hv
    exact hv
  ·cases h
 ·cases h
theorem S5 {n n':Nat} {f f':Nat→Value × D} (hn:n=n') (hf:∀ i,i < n→f i=f' i) (y:Option (Option (Nat × Nat))) (h:ew w S μ (.mp n f) y):ew w S μ (.mp n' f') y:=by
 subst hn
 cases y with
 | none=>exact h
 | some y =>
  cases y with
  | none=>exact h
  | some gc =>
   obtain ⟨g,c⟩:=gc
   obtain ⟨cur,q1,q2,q3,q4⟩:=h.at
   refine cx.ok ⟨cur,q1,q2,q3,fun i hi=>?_⟩
   rw [← hf i hi]
   exact q4 i hi
theorem aaz {n n':Nat} {f f':Nat→Value × D} (hn:n=n') (hf:∀ i,i < n→f i=f' i) (y:Option (Option (Nat × Nat))) (h:ew w S μ (.ml n f) y):ew w S μ (.ml n' f') y:=by
 subst hn
 cases y with
 | none=>exact h
 | some y =>
  cases y with
  | none=>exact h
  | some gc =>
   obtain ⟨g,c⟩:=gc
   obtain ⟨cur,ck,q1,q2,q3,q4⟩:=h.at
   refine cx.ok ⟨cur,ck,q1,q2,q3,fun i hi=>?_⟩
   rw [← hf i hi]
   exact q4 i hi
theorem QN {c:vj} {r r':R} (h:Lm c r=some r') (bz:r'.ob.den):r.ob.den∧r'.ro=r.ro∧r'.mem=r.mem∧r'.cS.map (·.1)=r.cS.map (·.1) ∧
  ∀ {A:M} {dst:Option Nat} {need:List (Nat × AV)} {gs:List (Nat × Bool)} {a:Act} {w:World} {S:Nat→Prop} {μ:Mu} {ν:Nat→Bool},cG C ((Tr.mk need dst r.v r.ro r.mem r.cS gs).apply A) a w S μ ν→cG C ((Tr.mk need dst r'.v r'.ro r'.mem r'.cS gs).apply A) a w S μ ν:=by
 obtain ⟨cn,ce⟩:=c.eq
 obtain ⟨v,ro,mem,cS,ob⟩:=r
 unfold Lm at h
 split at h
 ·rename_i κ n f dY
  dsimp only at dY
  subst dY
  split at h
  ·rename_i hv
   dsimp only at hv
   subst hv
   simp only [Option.some.injEq] at h
   subst h
   obtain ⟨o1,o2⟩:=Ob.bR bz
   obtain ⟨o5,o6⟩:=Ob.bR o2
   have o5:n=c.n:=o5
   have o6:f=c.f:=o6
   refine ⟨o1,rfl,rfl,rfl,fun hs=>?_⟩
   refine hs.weaken (fun t v hv=>hv) (fun κ' b' iu=>?_)
   simp only [Tr.apply,Lp] at iu ⊢
   by_cases hk:κ=κ'
   ·subst hk
    simp only [if_true,Option.some.injEq] at iu ⊢
    subst iu
    exact ⟨_,rfl,fun y=>S5 (o5.trans cn) (fun i hi=>by rw [o6]; exact ce i (by omega)) y⟩
   ·simp only [hk,if_false] at iu ⊢
    exact ⟨b',iu,fun _ h=>h⟩
  ·rename_i hv
   dsimp only at hv
   subst hv
   simp only [Option.some.injEq] at h
   subst h
   obtain ⟨o1,o2⟩:=Ob.bR bz
   obtain ⟨o5,o6⟩:=Ob.bR o2
   have o5:n=c.n:=o5
   have o6:f=c.f:=o6
   refine ⟨o1,rfl,rfl,rfl,fun hs=>?_⟩
   refine hs.weaken (fun t v hv=>hv) (fun κ' b' iu=>?_)
   simp only [Tr.apply,Lp] at iu ⊢
   by_cases hk:κ=κ'
   ·subst hk
    simp only [if_true,Option.some.injEq] at iu ⊢
    subst iu
    exact ⟨_,rfl,fun y=>S5 (o5.trans cn) (fun i hi=>by rw [o6]; exact ce i (by omega)) y⟩
   ·simp only [hk,if_false] at iu ⊢
    exact ⟨b',iu,fun _ h=>h⟩
  ·rename_i hv
   dsimp only at hv
   subst hv
   simp only [Option.some.injEq] at h
   subst h
   obtain ⟨o1,o2⟩:=Ob.bR bz
   obtain ⟨o5,o6⟩:=Ob.bR o2
   have o5:n=c.n:=o5
   have o6:f=c.f:=o6
   refine ⟨o1,rfl,rfl,rfl,fun hs=>?_⟩
   refine hs.weaken (fun t v hv=>hv) (fun κ' b' iu=>?_)
   simp only [Tr.apply,Lp] at iu ⊢
   by_cases hk:κ=κ'
   ·subst hk
    simp only [if_true,Option.some.injEq] at iu ⊢
    subst iu
    exact ⟨_,rfl,fun y=>S5 (o5.trans cn) (fun i hi=>by rw [o6]; exact ce i (by omega)) y⟩
   ·simp only [hk,if_false] at iu ⊢
    exact ⟨b',iu,fun _ h=>h⟩
  ·cases h
 ·rename_i κ n f dY
  dsimp only at dY
  subst dY
  split at h
  ·rename_i hv
   dsimp only at hv
   subst hv
   simp only [Option.some.injEq] at h
   subst h
   obtain ⟨o1,o2⟩:=Ob.bR bz
   obtain ⟨o5,o6⟩:=Ob.bR o2
   have o5:n=c.n:=o5
   have o6:f=c.f:=o6
   refine ⟨o1,rfl,rfl,rfl,fun hs=>?_⟩
   refine hs.weaken (fun t v hv=>hv) (fun κ' b' iu=>?_)
   simp only [Tr.apply,Lp] at iu ⊢
   by_cases hk:κ=κ'
   ·subst hk
    simp only [if_true,Option.some.injEq] at iu ⊢
    subst iu
    exact ⟨_,rfl,fun y=>aaz (o5.trans cn) (fun i hi=>by rw [o6]; exact ce i (by omega)) y⟩
   ·simp only [hk,if_false] at iu ⊢
    exact ⟨b',iu,fun _ h=>h⟩
  ·cases h
 ·cases h
theorem QO {c:xo} {r:R} (bz:(Xm c r).ob.den):r.ob.den ∧
  ∀ {A:M} {dst:Option Nat} {need:List (Nat × AV)} {gs:List (Nat × Bool)} {a:Act} {w:World} {S:Nat→Prop} {μ:Mu} {ν:Nat→Bool},cG C ((Tr.mk need dst r.v r.ro r.mem r.cS gs).apply A) a w S μ ν→cG C ((Tr.mk need dst c.y r.ro r.mem r.cS gs).apply A) a w S μ ν:=by
 obtain ⟨o1,o2⟩:=Ob.bR bz
 have o2:r.v=c.x:=o2
 refine ⟨o1,fun hs=>?_⟩
 refine hs.weaken (fun t v hv=>?_) (fun κ' b' iu=>⟨b',iu,fun _ h=>h⟩)
 simp only [Tr.apply] at hv ⊢
 split
 ·rename_i hd
  simp only [hd,if_true] at hv
  rw [o2] at hv
  exact c.le _ _ _ _ _ hv
 ·rename_i hd
  simp only [hd,if_false] at hv
  exact hv
theorem NU {T:List (Nat × TI)} (hT:im C.P T) (hs:cG C A a w S μ ν) {lb:List (Nat × aZ)} {o:Oper} {ρ:Operand→Option AV} (hρ:∀ x y,ρ x=some y→Rel w S μ ν y (a.eval x)) (hd:∀ t,o.dst=some t→t < C.nt) {quiet:Bool} {ji pE:List xP} {r:R}
  (h:SY C.P T lb ρ o.dst quiet ji o.op=some (r,pE)) (iq:∀ p,p∈r.ro→A.lb p.1=some p.2) (dY:∀ p,p∈r.mem→A.lb p.1=some p.2) (bz:r.ob.den) (pP:∀ κ,κ∈(r.cS.map (·.1)).filter (fun k=>!(r.mem.map (·.1)).contains k)→gL A κ) (need:List (Nat × AV)) (gs:List (Nat × Bool)) :
  o.wp C.P a w (fun a' w'=>∃ S' μ',cG C ((Tr.mk need o.dst r.v r.ro r.mem r.cS gs).apply A) a' w' S' μ' ν) (fun _ _ _=>False):=by
 unfold SY at h
 split at h
 ·rename_i r0 GC h0
  split at h
  ·rename_i c NS _
   split at h
   ·rename_i r' hn
    simp only [Option.some.injEq,Prod.mk.injEq] at h
    obtain ⟨rfl,-⟩:=h
    obtain ⟨o1,e1,e2,e3,dP⟩:=QM (C:=C) hn bz
    rw [e3,e2] at pP
    rw [e1] at iq
    rw [e2] at dY
    exact Oper.wp_mono (fun a' w' hh=>let ⟨S',μ',hh⟩:=hh; ⟨S',μ',dP hh⟩) (iy hT hs hρ hd h0 iq dY o1 pP need gs)
   ·simp only [Option.some.injEq,Prod.mk.injEq] at h
    obtain ⟨rfl,-⟩:=h
    exact iy hT hs hρ hd h0 iq dY bz pP need gs
  ·split at h
   ·rename_i r' hn
    simp only [Option.some.injEq,Prod.mk.injEq] at h
    obtain ⟨rfl,-⟩:=h
    obtain ⟨o1,e1,e2,e3,dP⟩:=QN (C:=C) hn bz
    rw [e3,e2] at pP
    rw [e1] at iq
    rw [e2] at dY
    exact Oper.wp_mono (fun a' w' hh=>let ⟨S',μ',hh⟩:=hh; ⟨S',μ',dP hh⟩) (iy hT hs hρ hd h0 iq dY o1 pP need gs)
   ·simp only [Option.some.injEq,Prod.mk.injEq] at h
    obtain ⟨rfl,-⟩:=h
    exact iy hT hs hρ hd h0 iq dY bz pP need gs
  ·split at h
   ·generalize Nat.beq _ _=bb at h
    cases bb with
    | false =>
     simp only [cond_false,Option.some.injEq,Prod.mk.injEq] at h
     obtain ⟨rfl,-⟩:=h
     exact iy hT hs hρ hd h0 iq dY bz pP need gs
    | true =>
     simp only [cond_true,Option.some.injEq,Prod.mk.injEq] at h
     obtain ⟨rfl,-⟩:=h
     obtain ⟨o1,dP⟩:=QO (C:=C) bz
     exact Oper.wp_mono (fun a' w' hh=>let ⟨S',μ',hh⟩:=hh; ⟨S',μ',dP hh⟩) (iy hT hs hρ hd h0 iq dY o1 pP need gs)
   ·simp only [Option.some.injEq,Prod.mk.injEq] at h
    obtain ⟨rfl,-⟩:=h
    exact iy hT hs hρ hd h0 iq dY bz pP need gs
  ·simp only [Option.some.injEq,Prod.mk.injEq] at h
   obtain ⟨rfl,-⟩:=h
   exact iy hT hs hρ hd h0 iq dY bz pP need gs
 ·cases h
end
def VA (q p:List (Nat × Bool)):Bool:=q.all fun y=>p.any fun z=>Nat.beq y.1 z.1&&(y.2 == z.2)

def Yj (p:List (Nat × Bool)):AV→Option AV
  | .g q a=>bif VA q p then some a else none
  | x=>some x

def Lq (need:List (Nat × AV)) (p:List (Nat × Bool)):Operand→Option AV
  | .tmp t=>(match look need t with | some x=>Yj p x | none=>none)
  | .const v=>ofConst v
  | .func f=>some (.fn f [])
  | .global g=>(match look oa.gl g with | some cs=>some (.ref cs) | none=>none)

def S6:AV→Option (List (Nat × Bool) × Bool)
  | .d (.v (.bool e))=>some ([],e)
  | .g q (.d (.v (.bool e)))=>some (q,e)
  | _=>none

structure St where
  sl:List (Nat × AV)
  lb:List (Nat × aZ)

def St.get (sl:List (Nat × AV)) (t:Nat):AV:=match look sl t with | some x=>x | none=>.any

def St.toM (st:St):M:={ sl:=St.get st.sl,lb:=look st.lb }

def slotsOf:List Operand→List Nat
  | []=>[]
  | .tmp t :: r=>t :: slotsOf r
  | _ :: r=>slotsOf r

def nd (sl:List (Nat × AV)):List Nat→List (Nat × AV)
  | []=>[]
  | t :: r=>(t,St.get sl t) :: nd sl r

/-- a bool on Xn others aek is ad3 -/
def QP (gl:List (Nat × Bool)) (s:Nat) (e:Bool):List (Nat × Bool) × Ob :=
  match look gl s with
  | some e'=>(gl,.be e e')
  | none=>(gl++[(s,e)],.tt)

def I6 (gl:List (Nat × Bool)):List Nat→List (Nat × Bool)
  | []=>[]
  | s :: r=>(match look gl s with | some e=>(s,e) :: I6 gl r | none=>I6 gl r)

def vk (gl:List (Nat × Bool)):List (Nat × Bool)→Ob→Ob
  | [],ob=>ob
  | (s,w) :: r,ob=>(match look gl s with | some e=>(vk gl r ob).imp e w | none=>vk gl r ob)

def yU (p:List (Nat × Bool)) (v:AV):AV:=match p with | []=>v | _ :: _=>.g p v

def AG (ops:Array Oper) (j:Nat):Option Nat:=match ops[j]? with | some o=>o.dst | none=>none

/-- Hz ad4 on Xn an operation ad5 -/
def pathOf (nt:Nat) (ops:Array Oper) (sl:List (Nat × AV)) (gl:List (Nat × Bool)):Option (Nat × Bool)→Option (List (Nat × Bool) × List Nat × List (Nat × Bool) × Ob)
  | none=>some ([],[],gl,.tt)
  | some (j,want)=>(match AG ops j with
    | some s=>bif Nat.ble (s+1) nt then (match S6 (St.get sl s) with
      | some (q,e)=>(match QP gl s e with | (Lr,ob)=>some (q++[(s,want)],[s],Lr,ob))
      | none=>none) else none
    | none=>none)

def S7 (need:List (Nat × AV)) (p:List (Nat × Bool)) (c x y:Operand):Option (Nat × Bool × Bool × Bool) :=
  match c with
  | .tmp s=>(match Lq need p c,Lq need ((s,true) :: p) x,Lq need ((s,false) :: p) y with
    | some (.d (.v (.bool e))),some (.d (.v (.bool ex))),some (.d (.v (.bool ey)))=>some (s,e,ex,ey)
    | _,_,_=>none)
  | _=>none

def I7 (P:Program) (T:List (Nat × TI)) (nt:Nat) (ops:Array Oper) (st:St) (gl:List (Nat × Bool)) (ji:List xP) (o:Oper):Option (Tr × List (Nat × Bool) × List xP × Ob) :=
  match pathOf nt ops st.sl gl o.guard,(match o.dst with | some d=>Nat.ble (d+1) nt | none=>true) with
  | some (p,ss,S8,we),true =>
    (match o.op with
    | .pick c x y=>(match S7 (nd st.sl (ss++slotsOf [c,x,y])) p c x y with
      | some (s,e,ex,ey)=>(match QP S8 s e with
        | (Z5,AA)=>some (⟨nd st.sl (ss++slotsOf [c,x,y]),o.dst,yU p (.d (.v (.bool (bif e then ex else ey)))),[],[],[],I6 Z5 (s :: p.map (·.1))⟩,Z5,ji,we.and AA))
      | none=>none)
    | op=>(match SY P T st.lb (Lq (nd st.sl (ss++slotsOf op.operands.toList)) p) o.dst (!p.isEmpty) ji op with
      | some (r,pE)=>some (⟨nd st.sl (ss++slotsOf op.operands.toList),o.dst,yU p r.v,r.ro,r.mem,r.cS,I6 S8 (p.map (·.1))⟩,S8,pE,we.and (vk S8 p r.ob))
      | none=>none))
  | _,_=>none

def aU {α:Type} (ks:List Nat):List (Nat × α)→List (Nat × α)
  | []=>[]
  | (k,x) :: r=>bif ks.any (fun q=>Nat.beq q k) then aU ks r else (k,x) :: aU ks r

def St.apply (st:St) (τ:Tr):St :=
  { sl:=match τ.dst with | some d=>(d,τ.v) :: aU [d] st.sl | none=>st.sl
    lb:=match τ.mem,τ.cS with | [],[]=>st.lb | m,m'=>m'++aU (m.map (·.1)) st.lb }

def Ls (P:Program) (T:List (Nat × TI)) (nt:Nat) (ops:Array Oper):List Oper→St→List (Nat × Bool)→List xP→Option (List Tr × St × List (Nat × Bool) × List xP × Ob)
  | [],st,gl,ji=>some ([],st,gl,ji,.tt)
  | o :: r,st,gl,ji=>(match I7 P T nt ops st gl ji o with
    | some (τ,Lr,pE,ob)=>(match Ls P T nt ops r (st.apply τ) Lr pE with
      | some (l,st',acw,aaA,xj)=>some (τ :: l,st',acw,aaA,ob.and xj)
      | none=>none)
    | none=>none)

def xR (st:St) (κ:Nat):Bool:=st.sl.all (fun p=>!p.2.keys.any (fun k=>Nat.beq k κ))&&st.lb.all (fun p=>!Nat.beq p.1 κ&&!p.2.keys.any (fun k=>Nat.beq k κ))

def Xo (fW:Option (List Nat)) (t:Nat):Bool:=match fW with | some l=>l.any (fun k=>Nat.beq k t) | none=>true

def S9 (draw:Bool) (ops:Array Oper) (gP:List Tr):Bool:=match draw with | true=>KI ops gP | false=>od gP

def qf (fW:Option (List Nat)):List (Nat × AV)→List (Nat × AV)
  | []=>[]
  | (t,x) :: r=>bif qM x&&Xo fW t then (t,x) :: qf fW r else qf fW r

def nf:List (Nat × AV)→Bool
  | []=>true
  | (t,_) :: r=>r.all (fun p=>!Nat.beq p.1 t)&&nf r

/-- aaB go back; abI is not held apart by aaB is Xp,but for Hz pair i0,j0 -/
def I8 (i0 j0:Nat) (ops:Array Oper) (tf:Nat→Tr):Bool :=
  (List.range ops.size).all fun i=>match ops[i]? with
    | some o=>(o.after.all fun e=>!Region.binds .any e||decide (e.on < i))&&(List.range i).all fun j=>xF o j||(Nat.beq j i0&&Nat.beq i j0)||(tf j).indep (tf i)||BH ops 4 i j
    | none=>false

def GD (gP:List Tr) (i0:Nat) (τ':Tr) (f:Bool) (i:Nat):Tr:=bif f&&Nat.beq i i0 then τ' else gP.getD i Qt

/-- a look-up behind Hz acx of Hz entry: IB it is there -/
def Ta (P:Program) (T:List (Nat × TI)) (nt:Nat) (ops:Array Oper) (gP:List Tr) (gl:List (Nat × Bool)) (i0 j0 d:Nat) (c:xo):Option (Tr × Ob) :=
  match gP[i0]?,gP[j0]?,ops[i0]? with
  | some τ,some σ,some o=>(match I7 P T nt ops ⟨τ.need,σ.cS⟩ [] [.cast d c] o with
    | some (τ',[],[],ob)=>bif gl.isEmpty&&Nat.blt i0 j0&&τ.mem.isEmpty&&τ.cS.isEmpty&&τ'.mem.isEmpty&&τ'.cS.isEmpty&&τ.gs.isEmpty&&τ'.gs.isEmpty &&
        (match τ.dst,τ'.dst,σ.dst with | some a,some a',some b=>Nat.beq a a'&&!Nat.beq a b&&!(σ.need.map (·.1)).contains a&&!(τ'.need.map (·.1)).contains b | _,_,_=>false) &&
        τ'.need.all (fun p=>(look τ.need p.1).isSome)&&od gP&&I8 i0 j0 ops (GD gP i0 τ' false)&&I8 i0 j0 ops (GD gP i0 τ' true) then some (τ',ob.and (.ve τ'.v τ.v)) else none
    | _=>none)
  | _,_,_=>none

/-- a region: Hz state behind it,and IB ace hold -/
def vl (P:Program) (T:List (Nat × TI)) (nt:Nat) (ops:Array Oper) (draw:Bool) (fW:Option (List Nat)) (st:St) (ji:List xP):Option (St × Ob) :=
  match Ls P T nt ops ops.toList st [] ji with
  | some (gP,st',_,[],ob)=>bif S9 draw ops gP&&gP.all (fun τ=>τ.created.all (xR st))&&nf st'.sl then some (⟨qf fW st'.sl,st'.lb⟩,ob) else none
  | some (gP,st',gl,[.alt i0 j0 d c],ob)=>(match draw,Ta P T nt ops gP gl i0 j0 d c with
    | true,some (_,xj)=>bif gP.all (fun τ=>τ.created.all (xR st))&&nf st'.sl then some (⟨qf fW st'.sl,st'.lb⟩,ob.and xj) else none
    | _,_=>none)
  | _=>none

/-! Z6 -/

theorem bf {α:Type} (k:Nat) (x:α) (r:List (Nat × α)) (t:Nat):look ((k,x) :: r) t=if k=t then some x else look r t:=by
  simp only [look]
  cases hb:Nat.beq k t with
  | true=>simp [Nat.eq_of_beq_eq_true hb]
  | false =>
    have:¬ k=t:=fun e=>by rw [e,Nat.beq_refl] at hb; cases hb
    simp [this]

theorem qV {α:Type} (l r:List (Nat × α)) (t:Nat):look (l++r) t=match look l t with | some x=>some x | none=>look r t:=by
  induction l with
  | nil=>rfl
  | cons p l ih =>
    obtain ⟨k,x⟩:=p
    simp only [List.cons_append,bf]
    split
    · rfl
    · exact ih

theorem kQ {α:Type} (ks:List Nat) (l:List (Nat × α)) (t:Nat):look (aU ks l) t=if t∈ks then none else look l t:=by
  induction l with
  | nil=>simp [aU,look]
  | cons p l ih =>
    obtain ⟨k,x⟩:=p
    simp only [aU]
    cases hb:ks.any (fun q=>Nat.beq q k) with
    | true =>
      simp only [cond_true]
      rw [ih,bf]
      have hk:k∈ks:=by
        obtain ⟨q,hq,he⟩:=List.any_eq_true.1 hb
        rw [← Nat.eq_of_beq_eq_true he]
        exact hq
      by_cases c:k=t
      · subst c; simp [hk]
      · simp [c]
    | false =>
      simp only [cond_false,bf]
      have hk:k ∉ ks:=fun hc=>by
        have:ks.any (fun q=>Nat.beq q k)=true:=List.any_eq_true.2 ⟨k,hc,Nat.beq_refl k⟩
        rw [this] at hb
        cases hb
      by_cases c:k=t
      · subst c; simp [hk]
      · simp only [c,if_false]
        exact ih

theorem I9 (d:Nat) (v:AV) (sl:List (Nat × AV)) (t:Nat):St.get ((d,v) :: aU [d] sl) t=if d=t then v else St.get sl t:=by
  unfold St.get
  rw [bf]
  by_cases c:d=t
  · simp [c]
  · simp only [c,if_false]
    rw [kQ]
    have:t ∉ [d]:=by simp; exact fun e=>c e.symm
    simp [this]

theorem St.QQ (st:St) (τ:Tr):(st.apply τ).toM=τ.apply st.toM:=by
  unfold St.apply St.toM Tr.apply
  have e1:(St.get (match τ.dst with | some d=>(d,τ.v) :: aU [d] st.sl | none=>st.sl))=fun t=>if τ.dst=some t then τ.v else St.get st.sl t:=by
    funext t
    cases hd:τ.dst with
    | none=>simp
    | some d =>
      simp only [Option.some.injEq]
      exact I9 d τ.v st.sl t
  have e2:look (match τ.mem,τ.cS with | [],[]=>st.lb | m,m'=>m'++aU (m.map (·.1)) st.lb)=fun k=>match look τ.cS k with | some b=>some b | none=>if k∈τ.mem.map (·.1) then none else look st.lb k:=by
    funext k
    split
    · rename_i h1 h2
      simp [h1,h2,look]
    · rw [qV,kQ]
      cases look τ.cS k <;> simp
  show M.mk (St.get _) (look _)=_
  rw [e1,e2]
  rfl

/-! Hz blocks NC an operation names are aaC NC it has looked up -/

theorem BU {lb:List (Nat × aZ)} {x:AV} {cs:List AV} {ro:List (Nat × aZ)} {ob:Ob} (h:l9 lb x=some (cs,ro,ob)):∀ p,p∈ro→look lb p.1=some p.2:=by
  unfold l9 at h
  split at h
  · split at h
    · rename_i hl
      simp only [Option.some.injEq,Prod.mk.injEq] at h
      obtain ⟨-,rfl,-⟩:=h
      intro p hp
      simp only [List.mem_singleton] at hp
      subst hp
      exact hl
    · cases h
  · rename_i key k i off
    split at h
    · rename_i e k' n f hl
      cases hb:Nat.beq k k' with
      | false=>rw [hb] at h; cases h
      | true =>
        rw [hb] at h
        simp only [cond_true,Option.some.injEq,Prod.mk.injEq] at h
        obtain ⟨-,rfl,-⟩:=h
        intro p hp
        simp only [List.mem_singleton] at hp
        subst hp
        exact hl
    · cases h
  · simp only [Option.some.injEq,Prod.mk.injEq] at h
    obtain ⟨-,rfl,-⟩:=h
    intro p hp
    cases hp
  · cases h

theorem bA {lb ro:List (Nat × aZ)} (h:ro=[]):∀ p,p∈ro→look lb p.1=some p.2:=fun p hp=>by subst h; cases hp

theorem Yk {T:List (Nat × TI)} {lb:List (Nat × aZ)} {ρ:Operand→Option AV} {o:Op} {v:AV} {ro:List (Nat × aZ)} {ob:Ob} (h:ZT T lb ρ o=some (v,ro,ob)):∀ p,p∈ro→look lb p.1=some p.2:=by
  have Lt:∀ {x:AV},ok x=some (v,ro,ob)→ro=[]:=fun h=>by simp only [ok,Option.some.injEq,Prod.mk.injEq] at h; exact h.2.1.symm
  unfold ZT at h
  split at h
  · split at h
    · exact bA (Lt h)
    · cases h
  · split at h
    · exact bA (Lt h)
    · cases h
  · split at h <;> first | exact bA (Lt h) | cases h
  · split at h
    · split at h
      · rename_i hc
        split at h
        · simp only [Option.some.injEq,Prod.mk.injEq] at h
          obtain ⟨-,rfl,-⟩:=h
          exact BU hc
        · cases h
      · cases h
    · cases h
  · split at h
    · unfold Dr at h
      split at h
      · split at h <;> first | exact bA (Lt h) | cases h
      · cases h
    · cases h
  · split at h
    · unfold II at h
      split at h
      · split at h
        · split at h
          · split at h
            · exact bA (Lt h)
            · cases h
          · cases h
        · cases h
      · cases h
    · cases h
  · split at h
    · unfold qT at h
      split at h
      · split at h
        · split at h
          · rename_i ie _ n _ m f _ _ _
            generalize hb:Nat.beq _ _=bb at h
            cases bb with
            | false=>cases h
            | true =>
              simp only [cond_true,Option.some.injEq,Prod.mk.injEq] at h
              exact bA h.2.1.symm
          · simp only [Option.some.injEq,Prod.mk.injEq] at h
            exact bA h.2.1.symm
          · cases h
        · cases h
      · cases h
    · cases h
  · split at h
    · unfold Ds at h
      split at h
      · simp only [Option.some.injEq,Prod.mk.injEq] at h
        exact bA h.2.1.symm
      · cases h
    · cases h
  · split at h
    · unfold Ps at h
      split at h
      · split at h
        · simp only [Option.some.injEq,Prod.mk.injEq] at h
          exact bA h.2.1.symm
        · simp only [Option.some.injEq,Prod.mk.injEq] at h
          exact bA h.2.1.symm
        · cases h
      · split at h
        · simp only [Option.some.injEq,Prod.mk.injEq] at h
          exact bA h.2.1.symm
        · cases h
      · split at h
        · exact bA (Lt h)
        · split at h
          · exact bA (Lt h)
          · cases h
      · cases h
    · cases h
  · split at h
    · unfold Vl at h
      split at h <;> first | exact bA (Lt h) | cases h
    · cases h
  · split at h
    · unfold NF at h
      split at h
      · exact bA (Lt h)
      · cases h
    · cases h
  · split at h
    · unfold wa at h
      split at h
      · split at h
        · exact bA (Lt h)
        · cases h
      · cases h
    · cases h
  · unfold Dt at h
    split at h
    · split at h
      · split at h
        · exact bA (Lt h)
        · cases h
      · cases h
    · cases h
  · split at h
    · exact bA (Lt h)
    · cases h
  · split at h
    · unfold Du at h
      split at h
      · unfold tL at h
        split at h <;> first | exact bA (Lt h) | (simp only [Option.some.injEq,Prod.mk.injEq] at h; exact bA h.2.1.symm) | cases h
      · split at h
        · unfold wb at h
          split at h <;> first | (simp only [Option.some.injEq,Prod.mk.injEq] at h; exact bA h.2.1.symm) | cases h
        · cases h
      · split at h
        · unfold tM at h
          split at h
          · generalize (_&&_&&_:Bool)=bb at h
            cases bb with
            | false=>cases h
            | true=>exact bA (Lt h)
          · cases h
        · cases h
      · cases h
    · cases h
  · split at h
    · unfold Pt at h
      split at h <;> first | exact bA (Lt h) | cases h
    · cases h
  · split at h
    · unfold Aw at h
      split at h
      · split at h
        · exact bA (Lt h)
        · cases h
      · cases h
    · cases h
  · split at h
    · unfold Aw at h
      split at h
      · split at h
        · exact bA (Lt h)
        · cases h
      · cases h
    · cases h
  · cases h

theorem PC {lb:List (Nat × aZ)} {x:AV} {y:D} {ro:List (Nat × aZ)} {ob:Ob} (h:IM lb x=some (y,ro,ob)):∀ p,p∈ro→look lb p.1=some p.2:=by
  unfold IM at h
  split at h
  · simp only [Option.some.injEq,Prod.mk.injEq] at h
    exact bA h.2.1.symm
  · simp only [Option.some.injEq,Prod.mk.injEq] at h
    exact bA h.2.1.symm
  · split at h
    · rename_i hl
      simp only [Option.some.injEq,Prod.mk.injEq] at h
      obtain ⟨-,rfl,-⟩:=h
      intro p hp
      simp only [List.mem_singleton] at hp
      subst hp
      exact hl
    · cases h
  · split at h
    · rename_i hl
      simp only [Option.some.injEq,Prod.mk.injEq] at h
      obtain ⟨-,rfl,-⟩:=h
      intro p hp
      simp only [List.mem_singleton] at hp
      subst hp
      exact hl
    · cases h
  · cases h

theorem Ek {lb:List (Nat × aZ)}:∀ {xs:List AV} {ys:List D} {ro:List (Nat × aZ)} {ob:Ob},xk lb xs=some (ys,ro,ob)→∀ p,p∈ro→look lb p.1=some p.2
  | [],ys,ro,ob,h=>by simp only [xk,Option.some.injEq,Prod.mk.injEq] at h; exact bA h.2.1.symm
  | x :: r,ys,ro,ob,h=>by
    simp only [xk] at h
    split at h
    · rename_i h1 h2
      simp only [Option.some.injEq,Prod.mk.injEq] at h
      obtain ⟨-,rfl,-⟩:=h
      intro p hp
      rcases List.mem_append.1 hp with hp | hp
      · exact PC h1 p hp
      · exact Ek h2 p hp
    · cases h

theorem Lu {lb:List (Nat × aZ)} {x y:AV} {ro:List (Nat × aZ)} {ob:Ob} (h:vd lb x=some (y,ro,ob)):∀ p,p∈ro→look lb p.1=some p.2:=by
  unfold vd at h
  split at h
  · simp only [Option.some.injEq,Prod.mk.injEq] at h
    exact bA h.2.1.symm
  · split at h
    · rename_i hl
      split at h
      · rename_i hb
        simp only [Option.some.injEq,Prod.mk.injEq] at h
        obtain ⟨-,rfl,-⟩:=h
        intro p hp
        rcases List.mem_cons.1 hp with rfl | hp
        · exact hl
        · exact Ek hb p hp
      · cases h
    · cases h
  · split at h
    · rename_i hb
      simp only [Option.some.injEq,Prod.mk.injEq] at h
      obtain ⟨-,rfl,-⟩:=h
      exact Ek hb
    · cases h
  · split at h
    · rename_i hl
      simp only [Option.some.injEq,Prod.mk.injEq] at h
      obtain ⟨-,rfl,-⟩:=h
      intro p hp
      simp only [List.mem_singleton] at hp
      subst hp
      exact hl
    · simp only [Option.some.injEq,Prod.mk.injEq] at h
      exact bA h.2.1.symm
    · simp only [Option.some.injEq,Prod.mk.injEq] at h
      exact bA h.2.1.symm
    · cases h
  · simp only [Option.some.injEq,Prod.mk.injEq] at h
    exact bA h.2.1.symm
  · split at h
    · rename_i hb
      simp only [Option.some.injEq,Prod.mk.injEq] at h
      obtain ⟨-,rfl,-⟩:=h
      exact PC hb
    · cases h

theorem HK {lb:List (Nat × aZ)}:∀ {xs ys:List AV} {ro:List (Nat × aZ)} {ob:Ob},tR lb xs=some (ys,ro,ob)→∀ p,p∈ro→look lb p.1=some p.2
  | [],ys,ro,ob,h=>by simp only [tR,Option.some.injEq,Prod.mk.injEq] at h; exact bA h.2.1.symm
  | x :: r,ys,ro,ob,h=>by
    simp only [tR] at h
    split at h
    · rename_i h1 h2
      simp only [Option.some.injEq,Prod.mk.injEq] at h
      obtain ⟨-,rfl,-⟩:=h
      intro p hp
      rcases List.mem_append.1 hp with hp | hp
      · exact Lu h1 p hp
      · exact HK h2 p hp
    · cases h

theorem VB {lb:List (Nat × aZ)} {x y:AV} {ro:List (Nat × aZ)} {ob:Ob} (h:uR lb x=some (y,ro,ob)):∀ p,p∈ro→look lb p.1=some p.2:=by
  unfold uR at h
  split at h
  · split at h
    · rename_i hb
      simp only [Option.some.injEq,Prod.mk.injEq] at h
      obtain ⟨-,rfl,-⟩:=h
      exact HK hb
    · cases h
  · exact Lu h

theorem El {lb:List (Nat × aZ)}:∀ {xs ys:List AV} {ro:List (Nat × aZ)} {ob:Ob},sq lb xs=some (ys,ro,ob)→∀ p,p∈ro→look lb p.1=some p.2
  | [],ys,ro,ob,h=>by simp only [sq,Option.some.injEq,Prod.mk.injEq] at h; exact bA h.2.1.symm
  | x :: r,ys,ro,ob,h=>by
    simp only [sq] at h
    split at h
    · rename_i h1 h2
      simp only [Option.some.injEq,Prod.mk.injEq] at h
      obtain ⟨-,rfl,-⟩:=h
      intro p hp
      rcases List.mem_append.1 hp with hp | hp
      · exact VB h1 p hp
      · exact El h2 p hp
    · cases h

theorem xS {lb:List (Nat × aZ)}:∀ {ks:List Nat} {l:List (Nat × aZ)},looks lb ks=some l→∀ p,p∈l→look lb p.1=some p.2
  | [],l,h=>by simp only [looks,Option.some.injEq] at h; exact bA h.symm
  | k :: r,l,h=>by
    simp only [looks] at h
    split at h
    · rename_i h1 h2
      simp only [Option.some.injEq] at h
      subst h
      intro p hp
      rcases List.mem_cons.1 hp with rfl | hp
      · exact h1
      · exact xS h2 p hp
    · cases h

theorem Lv {P:Program} {T:List (Nat × TI)} {lb:List (Nat × aZ)} {ρ:Operand→Option AV} {dst:Option Nat} {quiet:Bool} {ji pE:List xP} {op:Op} {r:R} (h:Lj P T lb ρ dst quiet ji op=some (r,pE)) :
    (∀ p,p∈r.ro→look lb p.1=some p.2)∧(∀ p,p∈r.mem→look lb p.1=some p.2)∧(quiet=true→r.mem=[]∧r.cS=[]):=by
  have one:∀ {κ:Nat} {b:aZ},look lb κ=some b→∀ p,p∈[(κ,b)]→look lb p.1=some p.2:=fun hl p hp=>by
    simp only [List.mem_singleton] at hp
    subst hp
    exact hl
  unfold Lj at h
  split at h
  · split at h
    · simp only [Option.some.injEq,Prod.mk.injEq] at h
      obtain ⟨rfl,-⟩:=h
      exact ⟨bA rfl,bA rfl,fun hq=>(by cases hq)⟩
    · cases h
  · split at h
    · split at h
      · split at h
        · simp only [Option.some.injEq,Prod.mk.injEq] at h
          obtain ⟨rfl,-⟩:=h
          exact ⟨bA rfl,bA rfl,fun hq=>(by cases hq)⟩
        generalize (qM.kP _&&_)=bb at h
        cases bb with
        | false=>cases h
        | true =>
          simp only [cond_true,Option.some.injEq,Prod.mk.injEq] at h
          obtain ⟨rfl,-⟩:=h
          exact ⟨bA rfl,bA rfl,fun hq=>(by cases hq)⟩
      · cases h
    · cases h
  · split at h
    · split at h
      · simp only [Option.some.injEq,Prod.mk.injEq] at h
        obtain ⟨rfl,-⟩:=h
        exact ⟨bA rfl,bA rfl,fun _=>⟨rfl,rfl⟩⟩
      · split at h
        · simp only [Option.some.injEq,Prod.mk.injEq] at h
          obtain ⟨rfl,-⟩:=h
          exact ⟨bA rfl,bA rfl,fun hq=>(by cases hq)⟩
        · cases h
    · cases h
  · split at h
    · split at h
      · rename_i r' jD
        simp only [Option.some.injEq,Prod.mk.injEq] at h
        obtain ⟨rfl,-⟩:=h
        refine ⟨?_,?_,fun hq=>(by cases hq)⟩
        all_goals
          unfold I4 at jD
          split at jD
          · rename_i i xs hi hc
            split at jD
            · rename_i κ off
              split at jD
              · rename_i cs hl
                generalize (Nat.beq _ _&&_&&_&&_)=bb at jD
                cases bb with
                | false=>cases jD
                | true =>
                  simp only [cond_true,Option.some.injEq] at jD
                  subst jD
                  first | exact one hl | exact bA rfl
              · cases jD
            · split at jD
              · rename_i e k' n f ds hl hp
                generalize hb:(Nat.beq _ k'&&_&&_&&_)=bb at jD
                cases bb with
                | false=>cases jD
                | true =>
                  simp only [Bool.and_eq_true] at hb
                  have ek:=Nat.eq_of_beq_eq_true hb.1.1.1
                  subst ek
                  simp only [cond_true,Option.some.injEq] at jD
                  subst jD
                  first | exact one hl | exact bA rfl
              · cases jD
            · cases jD
          · cases jD
      · cases h
    · cases h
  · split at h
    · split at h
      · split at h
        · rename_i r' uY
          simp only [Option.some.injEq,Prod.mk.injEq] at h
          obtain ⟨rfl,-⟩:=h
          have main:(∀ p,p∈r'.ro→look lb p.1=some p.2)∧(∀ p,p∈r'.mem→look lb p.1=some p.2):=by
            unfold Ei at uY
            split at uY
            · split at uY
              · rename_i i hi
                split at uY
                · rename_i m g ro ob jh
                  have iq:∀ p,p∈ro→look lb p.1=some p.2:=by
                    unfold SU at jh
                    split at jh
                    · simp only [Option.some.injEq,Prod.mk.injEq] at jh
                      exact bA jh.2.2.1.symm
                    · simp only [Option.some.injEq,Prod.mk.injEq] at jh
                      exact bA jh.2.2.1.symm
                    · simp only [Option.some.injEq,Prod.mk.injEq] at jh
                      exact bA jh.2.2.1.symm
                    · split at jh
                      · rename_i hl
                        generalize hb:Nat.beq _ _=bb at jh
                        cases bb with
                        | false=>cases jh
                        | true =>
                          simp only [cond_true,Option.some.injEq,Prod.mk.injEq] at jh
                          obtain ⟨-,-,rfl,-⟩:=jh
                          exact one hl
                      · cases jh
                    · cases jh
                  split at uY
                  · simp only [Option.some.injEq] at uY
                    subst uY
                    exact ⟨iq,bA rfl⟩
                  · split at uY
                    · rename_i hl
                      generalize (Nat.beq _ _&&_&&_)=bb at uY
                      cases bb with
                      | false=>cases uY
                      | true =>
                        simp only [cond_true,Option.some.injEq] at uY
                        subst uY
                        exact ⟨iq,one hl⟩
                    · cases uY
                  · cases uY
                · cases uY
              · cases uY
            · cases uY
          exact ⟨main.1,main.2,fun hq=>(by cases hq)⟩
        · cases h
      · cases h
    · cases h
  · split at h
    · unfold NR at h
      split at h
      · split at h
        · split at h
          · rename_i hb
            generalize eZ _=bb at h
            cases bb with
            | false=>cases h
            | true =>
              simp only [cond_true,Option.some.injEq,Prod.mk.injEq] at h
              obtain ⟨rfl,-⟩:=h
              exact ⟨El hb,bA rfl,fun _=>⟨rfl,rfl⟩⟩
          · cases h
        · cases h
      · rename_i hand res back QL
        split at h
        · split at h
          · rename_i cj vZ
            generalize hb:(qM.kP _&&Dv res back&&qM res&&(!quiet||(hand.isEmpty&&back.isEmpty))&&back.all (fun p=>!hand.contains p.1))=bb at h
            cases bb with
            | false=>cases h
            | true =>
              simp only [cond_true,Option.some.injEq,Prod.mk.injEq] at h
              obtain ⟨rfl,-⟩:=h
              simp only [Bool.and_eq_true,Bool.or_eq_true,Bool.not_eq_true',List.isEmpty_iff] at hb
              refine ⟨bA rfl,xS vZ,fun hq=>?_⟩
              rcases hb.1.2 with h1 | ⟨h1,h2⟩
              · rw [hq] at h1; cases h1
              · subst h1; subst h2
                simp only [looks,Option.some.injEq] at vZ
                exact ⟨vZ.symm,rfl⟩
          · cases h
        · cases h
      · rename_i κ b' QL
        split at h
        · split at h
          · rename_i b vZ
            generalize hb:(qM.kP _&&!quiet)=bb at h
            cases bb with
            | false=>cases h
            | true =>
              simp only [cond_true,Option.some.injEq,Prod.mk.injEq] at h
              obtain ⟨rfl,-⟩:=h
              simp only [Bool.and_eq_true,Bool.not_eq_true'] at hb
              refine ⟨bA rfl,fun p hp=>?_,fun hq=>?_⟩
              · have:p=(κ,b):=by simpa using hp
                subst this
                exact vZ
              · rw [hq] at hb; cases hb.2
          · cases h
        · cases h
      · rename_i hand fX res back QL
        split at h
        · split at h
          · rename_i cj vZ
            generalize hb:(qM.kP _&&Vz _ hand cj fX res back&&qM res&&!quiet)=bb at h
            cases bb with
            | false=>cases h
            | true =>
              simp only [cond_true,Option.some.injEq,Prod.mk.injEq] at h
              obtain ⟨rfl,-⟩:=h
              simp only [Bool.and_eq_true,Bool.not_eq_true'] at hb
              exact ⟨bA rfl,xS vZ,fun hq=>by rw [hq] at hb; cases hb.2⟩
          · cases h
        · cases h
      · cases h
    · cases h
  · split at h
    · split at h
      · simp only [Option.some.injEq,Prod.mk.injEq] at h
        obtain ⟨rfl,-⟩:=h
        exact ⟨bA rfl,bA rfl,fun hq=>(by cases hq)⟩
      · cases h
    · cases h
  · split at h
    · simp only [Option.some.injEq,Prod.mk.injEq] at h
      obtain ⟨rfl,-⟩:=h
      exact ⟨bA rfl,bA rfl,fun _=>⟨rfl,rfl⟩⟩
    · split at h
      · rename_i hv
        simp only [Option.some.injEq,Prod.mk.injEq] at h
        obtain ⟨rfl,-⟩:=h
        exact ⟨Yk hv,bA rfl,fun _=>⟨rfl,rfl⟩⟩
      · cases h

theorem Lw {P:Program} {T:List (Nat × TI)} {lb:List (Nat × aZ)} {ρ:Operand→Option AV} {dst:Option Nat} {quiet:Bool} {ji pE:List xP} {op:Op} {r:R} (h:Lk P T lb ρ dst quiet ji op=some (r,pE)) :
    (∀ p,p∈r.ro→look lb p.1=some p.2)∧(∀ p,p∈r.mem→look lb p.1=some p.2)∧(quiet=true→r.mem=[]∧r.cS=[]):=by
  unfold Lk at h
  split at h
  · rename_i hm
    simp only [Option.some.injEq,Prod.mk.injEq] at h
    obtain ⟨rfl,-⟩:=h
    exact ⟨(AE hm).1,(AE hm).2.1,(AE hm).2.2.1⟩
  split at h
  · rename_i hm
    simp only [Option.some.injEq,Prod.mk.injEq] at h
    obtain ⟨rfl,-⟩:=h
    exact QJ hm
  split at h
  · simp only [Option.some.injEq,Prod.mk.injEq] at h
    obtain ⟨rfl,-⟩:=h
    exact ⟨bA rfl,bA rfl,fun _=>⟨rfl,rfl⟩⟩
  · exact Lv h

theorem NV {c:pg} {r r':R} (h:Ll c r=some r'):r'.ro=r.ro∧r'.mem=r.mem∧(r.cS=[]→r'.cS=[]):=by
  unfold Ll at h
  split at h
  · rename_i hm
    have nn:∀ {x:List (Nat × aZ)},r.cS=[]→x=[]:=fun e=>by rw [hm] at e; cases e
    split at h
    · generalize Nat.beq _ _=bb at h
      cases bb with
      | false=>cases h
      | true =>
        simp only [cond_true,Option.some.injEq] at h
        subst h
        exact ⟨rfl,rfl,nn⟩
    · simp only [Option.some.injEq] at h
      subst h
      exact ⟨rfl,rfl,nn⟩
    · cases h
  · split at h
    · simp only [Option.some.injEq] at h
      subst h
      exact ⟨rfl,rfl,fun _=>rfl⟩
    · cases h
  · cases h

theorem NW {c:vj} {r r':R} (h:Lm c r=some r'):r'.ro=r.ro∧r'.mem=r.mem∧(r.cS=[]→r'.cS=[]):=by
  unfold Lm at h
  split at h
  · rename_i hm
    split at h
    · simp only [Option.some.injEq] at h
      subst h
      exact ⟨rfl,rfl,fun e=>by rw [hm] at e; cases e⟩
    · simp only [Option.some.injEq] at h
      subst h
      exact ⟨rfl,rfl,fun e=>by rw [hm] at e; cases e⟩
    · simp only [Option.some.injEq] at h
      subst h
      exact ⟨rfl,rfl,fun e=>by rw [hm] at e; cases e⟩
    · cases h
  · rename_i hm
    split at h
    · simp only [Option.some.injEq] at h
      subst h
      exact ⟨rfl,rfl,fun e=>by rw [hm] at e; cases e⟩
    · cases h
  · cases h

theorem NX {P:Program} {T:List (Nat × TI)} {lb:List (Nat × aZ)} {ρ:Operand→Option AV} {dst:Option Nat} {quiet:Bool} {ji pE:List xP} {op:Op} {r:R} (h:SY P T lb ρ dst quiet ji op=some (r,pE)) :
    (∀ p,p∈r.ro→look lb p.1=some p.2)∧(∀ p,p∈r.mem→look lb p.1=some p.2)∧(quiet=true→r.mem=[]∧r.cS=[]):=by
  unfold SY at h
  split at h
  · rename_i r0 GC h0
    obtain ⟨q1,q2,q3⟩:=Lw h0
    split at h
    · split at h
      · rename_i r' hn
        simp only [Option.some.injEq,Prod.mk.injEq] at h
        obtain ⟨rfl,-⟩:=h
        obtain ⟨e1,e2,e3⟩:=NV hn
        rw [e1,e2]
        exact ⟨q1,q2,fun hq=>⟨(q3 hq).1,e3 (q3 hq).2⟩⟩
      · simp only [Option.some.injEq,Prod.mk.injEq] at h
        obtain ⟨rfl,-⟩:=h
        exact ⟨q1,q2,q3⟩
    · split at h
      · rename_i r' hn
        simp only [Option.some.injEq,Prod.mk.injEq] at h
        obtain ⟨rfl,-⟩:=h
        obtain ⟨e1,e2,e3⟩:=NW hn
        rw [e1,e2]
        exact ⟨q1,q2,fun hq=>⟨(q3 hq).1,e3 (q3 hq).2⟩⟩
      · simp only [Option.some.injEq,Prod.mk.injEq] at h
        obtain ⟨rfl,-⟩:=h
        exact ⟨q1,q2,q3⟩
    · split at h
      · generalize Nat.beq _ _=bb at h
        cases bb with
        | false =>
          simp only [cond_false,Option.some.injEq,Prod.mk.injEq] at h
          obtain ⟨rfl,-⟩:=h
          exact ⟨q1,q2,q3⟩
        | true =>
          simp only [cond_true,Option.some.injEq,Prod.mk.injEq] at h
          obtain ⟨rfl,-⟩:=h
          exact ⟨q1,q2,q3⟩
      · simp only [Option.some.injEq,Prod.mk.injEq] at h
        obtain ⟨rfl,-⟩:=h
        exact ⟨q1,q2,q3⟩
    · simp only [Option.some.injEq,Prod.mk.injEq] at h
      obtain ⟨rfl,-⟩:=h
      exact ⟨q1,q2,q3⟩
  · cases h

def qg (ν:Nat→Bool) (p:List (Nat × Bool)):Prop:=∀ y,y∈p→ν y.1=y.2

theorem NY {ν:Nat→Bool} {q p:List (Nat × Bool)} (h:VA q p=true) (hp:qg ν p):qg ν q:=by
  intro y hy
  simp only [VA,List.all_eq_true,List.any_eq_true,Bool.and_eq_true,beq_iff_eq] at h
  obtain ⟨z,hz,h1,h2⟩:=h y hy
  have:=hp z hz
  rw [Nat.eq_of_beq_eq_true h1,h2]
  exact this

section
variable {C : Cx} {A : M} {a : Act} {w : World} {S : Nat → Prop} {μ : Mu} {ν : Nat → Bool}

theorem yV (Qz:iA w S) {need:List (Nat × AV)} {p:List (Nat × Bool)} (Em:∀ q,q∈need→Rel w S μ ν q.2 (a.tmps.getD q.1 undef)) (hp:qg ν p) (x:Operand) (y:AV) (h:Lq need p x=some y):Rel w S μ ν y (a.eval x):=by
  cases x with
  | tmp t =>
    simp only [Lq] at h
    cases hl:look need t with
    | none=>rw [hl] at h; cases h
    | some z =>
      rw [hl] at h
      have hr:=Em (t,z) (fN hl)
      show Rel w S μ ν y (a.tmps.getD t undef)
      simp only at h hr
      cases z with
      | g q b =>
        simp only [Yj] at h
        cases hs:VA q p with
        | false=>rw [hs] at h; cases h
        | true =>
          rw [hs] at h
          simp only [cond_true,Option.some.injEq] at h
          subst h
          cases hr with
          | g h1 _=>exact h1 (NY hs hp)
      | _=>simp only [Yj,Option.some.injEq] at h; subst h; exact hr
  | const v=>exact KL h
  | func f =>
    simp only [Lq,Option.some.injEq] at h
    subst h
    exact .fn rfl (fun i hi=>absurd hi (by simp))
  | global g =>
    simp only [Lq] at h
    cases hl:look (oa.gl) g with
    | none=>rw [hl] at h; cases h
    | some cs =>
      rw [hl] at h
      simp only [Option.some.injEq] at h
      subst h
      obtain ⟨cy,h1,h2⟩:=Qz.2 (g,cs) (fN hl)
      exact .ref cy h1 h2

theorem Eo {sl:List (Nat × AV)}:∀ {ts:List Nat} {q:Nat × AV},q∈nd sl ts→q.2=St.get sl q.1∧q.1∈ts
  | t :: r,q,h=>by
    rcases List.mem_cons.1 h with rfl | h'
    · exact ⟨rfl,List.mem_cons_self⟩
    · obtain ⟨h1,h2⟩:=Eo h'
      exact ⟨h1,List.mem_cons_of_mem _ h2⟩

theorem AH {sl:List (Nat × AV)}:∀ {ts:List Nat} {s:Nat},s∈ts→(s,St.get sl s)∈nd sl ts
  | t :: r,s,h=>by
    rcases List.mem_cons.1 h with rfl | h'
    · exact List.mem_cons_self
    · exact List.mem_cons_of_mem _ (AH h')

theorem yW {gl:List (Nat × Bool)}:∀ {ss:List Nat} {q:Nat × Bool},q∈I6 gl ss→look gl q.1=some q.2
  | s :: r,q,h=>by
    simp only [I6] at h
    cases hl:look gl s with
    | none=>rw [hl] at h; exact yW h
    | some e =>
      rw [hl] at h
      rcases List.mem_cons.1 h with rfl | h'
      · exact hl
      · exact yW h'

theorem vm {gl:List (Nat × Bool)} {ob:Ob}:∀ {p:List (Nat × Bool)},(vk gl p ob).den→(∀ s e,s∈p.map (·.1)→look gl s=some e→ν s=e)→qg ν p→ob.den
  | [],h,_,_=>h
  | (s,w) :: r,h,hg,hp=>by
    simp only [vk] at h
    have hr:∀ s e,s∈r.map (·.1)→look gl s=some e→ν s=e:=fun s e hs=>hg s e (by simp only [List.map_cons,List.mem_cons]; exact .inr hs)
    have Xe:qg ν r:=fun y hy=>hp y (List.mem_cons_of_mem _ hy)
    cases hl:look gl s with
    | none=>rw [hl] at h; exact vm h hr Xe
    | some e =>
      rw [hl] at h
      exact vm (Ob.Vi h (by rw [← hg s e (by simp) hl]; exact hp (s,w) List.mem_cons_self)) hr Xe

theorem HL {gl Lr:List (Nat × Bool)} {s:Nat} {e:Bool} {ob:Ob} (h:QP gl s e=(Lr,ob)) (bz:ob.den):look Lr s=some e∧∀ t x,look gl t=some x→look Lr t=some x:=by
  unfold QP at h
  cases hl:look gl s with
  | some e' =>
    rw [hl] at h
    simp only [Prod.mk.injEq] at h
    obtain ⟨rfl,rfl⟩:=h
    simp only [Ob.den] at bz
    exact ⟨by rw [hl,bz],fun t x h=>h⟩
  | none =>
    rw [hl] at h
    simp only [Prod.mk.injEq] at h
    obtain ⟨rfl,rfl⟩:=h
    refine ⟨by rw [qV,hl]; simp [look],fun t x ht=>by rw [qV,ht]⟩

theorem Tb {ops:Array Oper} {j s:Nat} (hj:AG ops j=some s) (cI:s < a.tmps.size):yielded ops a.tmps j=match a.tmps.getD s undef with | .bool b=>some b | _=>none:=by
  unfold AG at hj
  cases ho:ops[j]? with
  | none=>rw [ho] at hj; cases hj
  | some o =>
    rw [ho] at hj
    simp only at hj
    unfold yielded
    rw [ho]
    simp only [Option.bind_some,hj,Array.getElem?_eq_getElem cI]
    have e:a.tmps.getD s undef=a.tmps[s]:=by simp [Array.getD,cI]
    rw [e]
    cases a.tmps[s] <;> rfl


theorem Lx {p:List (Nat × Bool)} {v:AV} {x:Value} (hp:qg ν p) (h:Rel w S μ ν v x):Rel w S μ ν (yU p v) x:=by
  cases p with
  | nil=>exact h
  | cons y r=>exact .g (fun _=>h) (fun hn=>absurd hp hn)

/-- Hz same Yl,with abJ name for its result -/
theorem cG.rename {τ τ':Tr} {a':Act} {w':World} {S':Nat→Prop} {μ':Mu} (h:cG C (τ.apply A) a' w' S' μ' ν) (hd:τ'.dst=τ.dst) (hm:τ'.mem=τ.mem) (uS:τ'.cS=τ.cS) (hv:∀ x,Rel w' S' μ' ν τ.v x→Rel w' S' μ' ν τ'.v x):cG C (τ'.apply A) a' w' S' μ' ν:=by
  have e:(τ'.apply A).lb=(τ.apply A).lb:=by simp only [Tr.apply,hm,uS]
  refine ⟨h.tmps,h.defers,fun t=>?_,by rw [e]; exact h.mem,by rw [e]; exact h.inj,by rw [e]; exact h.own,h.dR,h.fresh,h.bound,h.kept⟩
  have h0:=h.dN t
  simp only [Tr.apply,hd] at h0 ⊢
  split
  · rename_i c
    simp only [c,if_true] at h0
    exact hv _ h0
  · rename_i c
    simp only [c,if_false] at h0
    exact h0

theorem yX {T:List (Nat × TI)} (hT:im C.P T) {ops:Array Oper} {st:St} {gl Lr:List (Nat × Bool)} {ji pE:List xP} {o:Oper} {τ:Tr} {ob:Ob}
    (h:I7 C.P T C.nt ops st gl ji o=some (τ,Lr,pE,ob)) (bz:ob.den) (hν:∀ s e,look Lr s=some e→ν s=e) :
    tG C ν ops o τ∧(∀ p,p∈τ.gs→ν p.1=p.2)∧En τ st.toM∧∀ t x,look gl t=some x→look Lr t=some x:=by
  unfold I7 at h
  split at h
  case h_2=>cases h
  rename_i p ss S8 we qh cu
  have hd:∀ t,o.dst=some t→t < C.nt:=fun t ht=>by
    rw [ht] at cu
    simp only at cu
    exact Nat.lt_of_succ_le (Nat.le_of_ble_eq_true cu)
  -- Hz path
  have path:we.den→(∀ s e,look S8 s=some e→ν s=e)→(∀ t x,look gl t=some x→look S8 t=some x) ∧
      ∀ (A:M) (a:Act) (w:World) (S:Nat→Prop) (μ:Mu),cG C A a w S μ ν→(∀ s,s∈ss→A.sl s=St.get st.sl s)→(Region.wanted o (yielded ops a.tmps)=true→qg ν p)∧(Region.wanted o (yielded ops a.tmps)=false→p≠[]∧¬ qg ν p):=by
    intro tW hν1
    unfold pathOf at qh
    split at qh
    · rename_i hg
      simp only [Option.some.injEq,Prod.mk.injEq] at qh
      obtain ⟨rfl,rfl,rfl,rfl⟩:=qh
      refine ⟨fun _ _ h=>h,fun A a w S μ hs _=>⟨fun _ y hy=>(by cases hy),fun hw=>?_⟩⟩
      simp [Region.wanted,hg] at hw
    · rename_i j want hg
      split at qh
      · rename_i s KV
        cases Z7:Nat.ble (s+1) C.nt with
        | false=>rw [Z7] at qh; cases qh
        | true =>
        rw [Z7] at qh
        simp only [cond_true] at qh
        split at qh
        · rename_i q e Ym
          generalize Ja:QP gl s e=rg at qh
          obtain ⟨Z5,AA⟩:=rg
          simp only [Option.some.injEq,Prod.mk.injEq] at qh
          obtain ⟨rfl,rfl,rfl,rfl⟩:=qh
          obtain ⟨g1,g2⟩:=HL Ja tW
          refine ⟨g2,fun A a w S μ hs hss=>?_⟩
          have Yn:=hν1 s e g1
          have hsA:=hss s (by simp)
          have hr:=hs.dN s
          rw [hsA] at hr
          have cI:s < a.tmps.size:=by rw [hs.tmps]; exact Nat.lt_of_succ_le (Nat.le_of_ble_eq_true Z7)
          have hy:=Tb (a:=a) KV cI
          have aaD:Region.wanted o (yielded ops a.tmps)=((match a.tmps.getD s undef with | .bool b=>some b | _=>none) == some want):=by
            unfold Region.wanted
            rw [hg]
            simp only [hy]
          rw [aaD]
          unfold S6 at Ym
          split at Ym
          · rename_i Ch
            simp only [Option.some.injEq,Prod.mk.injEq] at Ym
            obtain ⟨rfl,rfl⟩:=Ym
            rw [Ch] at hr
            have:=qd hr
            rw [this]
            refine ⟨fun hw y hy=>?_,fun hw=>⟨by simp,fun hh=>?_⟩⟩
            · simp only [List.nil_append,List.mem_singleton] at hy
              subst hy
              simp only [beq_iff_eq,Option.some.injEq] at hw
              rw [Yn,hw]
            · have:=hh (s,want) (by simp)
              rw [Yn] at this
              simp [this] at hw
          · rename_i Ch
            simp only [Option.some.injEq,Prod.mk.injEq] at Ym
            obtain ⟨rfl,rfl⟩:=Ym
            rw [Ch] at hr
            generalize a.tmps.getD s undef=xv at hr ⊢
            cases hr with
            | g h1 h0 =>
              rename_i q0 e0
              by_cases hq:qg ν q0
              · have:=qd (h1 hq)
                rw [this]
                refine ⟨fun hw y hy=>?_,fun hw=>⟨by simp,fun hh=>?_⟩⟩
                · rcases List.mem_append.1 hy with hy | hy
                  · exact hq y hy
                  · simp only [List.mem_singleton] at hy
                    subst hy
                    simp only [beq_iff_eq,Option.some.injEq] at hw
                    rw [Yn,hw]
                · have:=hh (s,want) (by simp)
                  rw [Yn] at this
                  simp [this] at hw
              · have:=h0 hq
                rw [this]
                refine ⟨fun hw=>?_,fun _=>⟨by simp,fun hh=>hq (fun y hy=>hh y (List.mem_append.2 (.inl hy)))⟩⟩
                simp [undef] at hw
          · cases Ym
        · cases qh
      · cases qh
  have enN:∀ (ts:List Nat) (τ:Tr),τ.need=nd st.sl ts→(∀ p,p∈τ.ro→st.toM.lb p.1=some p.2)→(∀ p,p∈τ.mem→st.toM.lb p.1=some p.2)→En τ st.toM:=fun ts τ hn h1 h2 =>
    ⟨fun q hq=>by rw [hn] at hq; exact (Eo hq).1.symm,h1,h2⟩
  split at h
  · -- pick
    rename_i c x y XT
    split at h
    · rename_i s e ex ey yY
      generalize Ja:QP S8 s e=rg at h
      obtain ⟨Z5,AA⟩:=rg
      simp only [Option.some.injEq,Prod.mk.injEq] at h
      obtain ⟨rfl,rfl,rfl,rfl⟩:=h
      obtain ⟨tW,uT⟩:=Ob.bR bz
      obtain ⟨r1,r2⟩:=HL Ja uT
      obtain ⟨Tc,Yo⟩:=path tW (fun s' e' hl=>hν s' e' (r2 s' e' hl))
      refine ⟨?_,fun q hq=>hν _ _ (yW hq),enN _ _ rfl (fun p hp=>by cases hp) (fun p hp=>by cases hp),fun t x h=>r2 t x (Tc t x h)⟩
      intro A a w S μ hs Qr _ _
      have hA:∀ t,t∈ss++slotsOf [c,x,y]→A.sl t=St.get st.sl t:=fun t ht=>Qr.need (t,St.get st.sl t) (AH ht)
      obtain ⟨p1,p0⟩:=Yo A a w S μ hs (fun s' sh=>hA s' (List.mem_append.2 (.inl sh)))
      have Em:∀ q,q∈nd st.sl (ss++slotsOf [c,x,y])→Rel w S μ ν q.2 (a.tmps.getD q.1 undef):=fun q hq=>by
        have:=hs.dN q.1
        rw [Qr.need q hq] at this
        exact this
      split
      · rename_i hw
        have hp:=p1 hw
        have Yn:ν s=e:=hν s e r1
        unfold S7 at yY
        cases c with
        | tmp s' =>
          simp only at yY
          split at yY
          · rename_i e' ex' ey' h1 h2 h3
            simp only [Option.some.injEq,Prod.mk.injEq] at yY
            obtain ⟨rfl,rfl,rfl,rfl⟩:=yY
            have hc:=qd (yV hs.wT Em hp _ _ h1)
            refine fk (x:=.bool (bif e' then ex' else ey')) hs hd ?_ (Lx hp (fO rfl)) rfl rfl rfl
            simp only [execOp,XT,hc,asBool,Sem.run_bind,Sem.run_pure,Result.andThen_ok]
            cases e' with
            | true =>
              have hpx:qg ν ((s',true) :: p):=fun y hy=>by
                rcases List.mem_cons.1 hy with rfl | hy
                · exact Yn
                · exact hp y hy
              have hx:=qd (yV hs.wT Em hpx _ _ h2)
              simp [hx]
            | false =>
              have hpy:qg ν ((s',false) :: p):=fun y hy=>by
                rcases List.mem_cons.1 hy with rfl | hy
                · exact Yn
                · exact hp y hy
              have hx:=qd (yV hs.wT Em hpy _ _ h3)
              simp [hx]
          · cases yY
        | const=>cases yY
        | global=>cases yY
        | func=>cases yY
      · rename_i hw
        obtain ⟨gN,hnp⟩:=p0 (by simpa using hw)
        refine ⟨S,μ,?_⟩
        have hr:Rel w S μ ν (yU p (.d (.v (.bool (bif e then ex else ey))))) undef:=by
          cases p with
          | nil=>exact absurd rfl gN
          | cons y r=>exact .g (fun hh=>absurd hh hnp) (fun _=>rfl)
        have h5:=hs.put (dst:=o.dst) hd hr
        have e0:(Tr.mk (nd st.sl (ss++slotsOf [c,x,y])) o.dst (yU p (.d (.v (.bool (bif e then ex else ey))))) [] [] [] (I6 Z5 (s :: p.map (·.1)))).apply A=A.uP o.dst (yU p (.d (.v (.bool (bif e then ex else ey))))):=by
          unfold Tr.apply M.uP M.put
          cases Z8:o.dst with
          | none=>simp [look]
          | some d =>
            simp only [look,List.map_nil,List.not_mem_nil,if_false,Option.some.injEq]
            congr 1
            funext t
            by_cases cc:d=t
            · simp [cc]
            · have:¬ t=d:=fun e=>cc e.symm
              simp [cc,this]
        rw [e0]
        exact h5
    · cases h
  · rename_i op0 hnp
    split at h
    · rename_i r GC VC
      simp only [Option.some.injEq,Prod.mk.injEq] at h
      obtain ⟨rfl,rfl,rfl,rfl⟩:=h
      obtain ⟨tW,uT⟩:=Ob.bR bz
      obtain ⟨Tc,Yo⟩:=path tW hν
      have Td:(∀ p,p∈r.ro→look st.lb p.1=some p.2)∧(∀ p,p∈r.mem→look st.lb p.1=some p.2)∧(p≠[]→r.mem=[]∧r.cS=[]):=by
        obtain ⟨q1,q2,q3⟩:=NX VC
        exact ⟨q1,q2,fun gN=>q3 (by cases p with | nil=>exact absurd rfl gN | cons _ _=>rfl)⟩
      refine ⟨?_,fun q hq=>hν _ _ (yW hq),enN _ _ rfl Td.1 Td.2.1,Tc⟩
      intro A a w S μ hs Qr pP _
      have hA:∀ t,t∈ss++slotsOf o.op.operands.toList→A.sl t=St.get st.sl t:=fun t ht=>Qr.need (t,St.get st.sl t) (AH ht)
      obtain ⟨p1,p0⟩:=Yo A a w S μ hs (fun s' sh=>hA s' (List.mem_append.2 (.inl sh)))
      have Em:∀ q,q∈nd st.sl (ss++slotsOf o.op.operands.toList)→Rel w S μ ν q.2 (a.tmps.getD q.1 undef):=fun q hq=>by
        have:=hs.dN q.1
        rw [Qr.need q hq] at this
        exact this
      split
      · rename_i hw
        have hp:=p1 hw
        have acy:r.ob.den:=vm uT (fun s e _ hl=>hν s e hl) hp
        have:=NU hT hs (fun x y hxy=>yV hs.wT Em hp x y hxy) hd VC Qr.ro Qr.mem acy (fun κ hκ=>pP κ hκ) (nd st.sl (ss++slotsOf o.op.operands.toList)) (I6 S8 (p.map (·.1)))
        refine Oper.wp_mono (fun a' w' hh=>?_) this
        obtain ⟨S',μ',dP⟩:=hh
        exact ⟨S',μ',dP.rename rfl rfl rfl (fun x hx=>Lx hp hx)⟩
      · rename_i hw
        obtain ⟨gN,acz⟩:=p0 (by simpa using hw)
        obtain ⟨hm1,Sb⟩:=Td.2.2 gN
        refine ⟨S,μ,?_⟩
        have hr:Rel w S μ ν (yU p r.v) undef:=by
          cases p with
          | nil=>exact absurd rfl gN
          | cons y r=>exact .g (fun hh=>absurd hh acz) (fun _=>rfl)
        have h5:=hs.put (dst:=o.dst) hd hr
        have e0:(Tr.mk (nd st.sl (ss++slotsOf o.op.operands.toList)) o.dst (yU p r.v) r.ro r.mem r.cS (I6 S8 (p.map (·.1)))).apply A=A.uP o.dst (yU p r.v):=by
          unfold Tr.apply M.uP M.put
          simp only [hm1,Sb]
          cases Z8:o.dst with
          | none=>simp [look]
          | some d =>
            simp only [look,List.map_nil,List.not_mem_nil,if_false,Option.some.injEq]
            congr 1
            funext t
            by_cases cc:d=t
            · simp [cc]
            · have:¬ t=d:=fun e=>cc e.symm
              simp [cc,this]
        rw [e0]
        exact h5
    · cases h

end

end Go.Av
