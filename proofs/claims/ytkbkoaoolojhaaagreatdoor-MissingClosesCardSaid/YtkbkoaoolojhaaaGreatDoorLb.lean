/- Calls by contract. -/
import Derived.Test.YtkbkoaoolojhaaaGreatDoorLa
import Derived.Lib.ConvBytes
set_option linter.unusedSimpArgs false
set_option linter.unusedVariables false
set_option linter.unusedSectionVars false
namespace Go.Av
open Go
variable [vr]
def fq (P:Program) (f:FuncId):Bool :=
 match P.funcs[f]? with
 | some fn=>fn.name != "runtime.NumGoroutine"&&fn.body.isSome
 | none=>false
def Handed (cR:List (Nat × bw)) (μ:Mu) (g:Nat):Prop:=∃ κ b c,look cR κ=some b∧μ κ=some (some (g,c))
def TG (cR:List (Nat × bw)) (μ:Mu):Prop:=∀ κ κ' b b' g c c',look cR κ=some b→look cR κ'=some b'→μ κ=some (some (g,c))→μ κ'=some (some (g,c'))→κ=κ'
structure Rx (w:World) (S:Nat→Prop) (T:Nat→Prop) (res:AV) (cR:List (Nat × bw)) (v:Value) (S':Nat→Prop) (μ':Mu) (w':World):Prop where
 res:∀ ν,Rel w' S' μ' ν res v
 mem:∀ κ b,look cR κ=some b→hZ w' S' μ' b (μ' κ)
 inj:TG cR μ'
 own:∀ κ b g c,look cR κ=some b→μ' κ=some (some (g,c))→w.heap.size≤g∨T g
 sub:∀ b,S b→S' b
 new:∀ b,S' b→S b∨w.heap.size≤b∨T b
 bound:∀ b,S' b→b < w'.heap.size
 kept:Kept w w' T
theorem Rx.XO {w w':World} {S T T' S':Nat→Prop} {res:AV} {cR:List (Nat × bw)} {v:Value} {μ':Mu} (h:Rx w S T res cR v S' μ' w') (hT:∀ b,T b→T' b):Rx w S T' res cR v S' μ' w' :=
 ⟨h.res,h.mem,h.inj,fun κ b g c h1 h2=>(h.own κ b g c h1 h2).imp id (hT g),h.sub,fun b hb=>(h.new b hb).imp id (Or.imp id (hT b)),h.bound,h.kept.zn hT⟩
def eC (P:Program) (f:FuncId) (args:List AV) (cR:List (Nat × bw)) (res:AV) (gp:List (Nat × bw)):Prop :=
 fq P f=true∧∀ (w:World) (S:Nat→Prop) (μ:Mu) (vs:Array Value),(∀ b,S b→b < w.heap.size)→gM w S→(∀ ν,dq w S μ ν args vs.toList)→(∀ κ b,look cR κ=some b→hZ w S μ b (μ κ))→TG cR μ →
  Calls P f vs w fun e w'=>∃ v S' μ',e=.returned v∧Rx w S (Handed cR μ) res gp v S' μ' w'
theorem Ey {P:Program} {w:World} {f:FuncId} (h:fq P f=true) (args:Array Value):(callFunc f args).run P w=.ok (.enter f args) w:=by
 unfold fq at h
 cases hf:P.funcs[f]? with
 | none=>rw [hf] at h; cases h
 | some fn =>
  rw [hf] at h
  simp only [Bool.and_eq_true,bne_iff_ne,ne_eq] at h
  have h2:¬ fn.body=none:=by cases hb:fn.body <;> simp_all
  simp [callFunc,hf,h.1,h2]
section
variable {C : Cx} {A : M} {a : Act} {w : World} {S : Nat → Prop} {μ : Mu} {ν : Nat → Bool}
def flat:D→Bool
 | .v _=>true
 | .agg cs=>Qr cs
 | .sl _ _=>false
where Qr:List D→Bool
 | []=>true
 | .v _ :: r=>Qr r
 | _ :: _=>false
theorem L8:∀ (l:List D) (i:Nat),flat.Qr l=true→i < l.length→∃ x,l.getD i default=.v x
 | [],i,_,hi=>absurd hi (by simp)
 | .v x :: r,0,_,_=>⟨x,rfl⟩
 | .v x :: r,i+1,h,hi=>by simpa using L8 r i (by simpa [flat.Qr] using h) (by simpa using hi)
 | .agg _ :: r,_,h,_=>by simp [flat.Qr] at h
 | .sl _ _ :: r,_,h,_=>by simp [flat.Qr] at h
theorem XP {d:D} (h:flat d=true) {w':World} {S':Nat→Prop} {x:Value} (hr:Rd w S d x):Rd w' S' d x:=by
 cases hr with
 | v _ hs=>exact .v _ hs
 | agg cs vs hl hh =>
  refine .agg cs vs hl (fun i hi=>?_)
  obtain ⟨y,hy⟩:=L8 cs i (by simpa [flat] using h) hi
  have:=hh i hi
  rw [hy] at this ⊢
  cases this with
  | v _ hs=>exact .v _ hs
 | nil=>simp [flat] at h
 | sl=>simp [flat] at h
def fw:AV→Bool
 | .d x=>flat x
 | .fj l=>ml l
 | _=>false
where ml:List AV→Bool
 | []=>true
 | .d x :: r=>flat x&&ml r
 | _ :: _=>false
theorem I1:∀ (l:List AV) (i:Nat),fw.ml l=true→i < l.length→∃ x,l.getD i default=.d x∧flat x=true
 | [],i,_,hi=>absurd hi (by simp)
 | .d x :: r,0,h,_=>⟨x,rfl,by simp only [fw.ml,Bool.and_eq_true] at h; exact h.1⟩
 | .d x :: r,i+1,h,hi=>by
  simp only [fw.ml,Bool.and_eq_true] at h
  simpa using I1 r i h.2 (by simpa using hi)
 | .any :: r,_,h,_=>by simp [fw.ml] at h
 | .own _ _ :: r,_,h,_=>by simp [fw.ml] at h
 | .ptr _ _ :: r,_,h,_=>by simp [fw.ml] at h
 | .yh _ _ _ _ :: r,_,h,_=>by simp [fw.ml] at h
 | .ref _ :: r,_,h,_=>by simp [fw.ml] at h
 | .zm _ _ :: r,_,h,_=>by simp [fw.ml] at h
 | .wX _ :: r,_,h,_=>by simp [fw.ml] at h
 | .Bj _ _ :: r,_,h,_=>by simp [fw.ml] at h
 | .fn _ _ :: r,_,h,_=>by simp [fw.ml] at h
 | .fj _ :: r,_,h,_=>by simp [fw.ml] at h
 | .ag _ :: r,_,h,_=>by simp [fw.ml] at h
 | .g _ _ :: r,_,h,_=>by simp [fw.ml] at h
theorem Qs {x:AV} (h:fw x=true) {w':World} {S':Nat→Prop} {μ':Mu} {ν':Nat→Bool} {v:Value} (hr:Rel w S μ ν x v):Rel w' S' μ' ν' x v:=by
 cases hr with
 | d hd=>exact .d (XP (by simpa [fw] using h) hd)
 | fj hl hh =>
  refine .fj hl (fun i hi=>?_)
  obtain ⟨y,hy,hf⟩:=I1 _ i (by simpa [fw] using h) hi
  have:=hh i hi
  rw [hy] at this ⊢
  exact .d (XP hf (iK.1 this))
 | any=>simp [fw] at h
 | cN=>simp [fw] at h
 | own=>simp [fw] at h
 | ptr=>simp [fw] at h
 | yh=>simp [fw] at h
 | ref=>simp [fw] at h
 | zm=>simp [fw] at h
 | wX=>simp [fw] at h
 | Bj=>simp [fw] at h
 | fn=>simp [fw] at h
 | ag=>simp [fw] at h
 | g=>simp [fw] at h
abbrev BR (α:Type):=Option (α × List (Nat × bw) × Ob)
def Ry (lb:List (Nat × bw)):AV→BR D
 | .d x=>some (x,[],.tt)
 | .zm n f=>some (.sl n f,[],.tt)
 | .own κ n=>(match look lb κ with | some (.row e k m f)=>some (.sl n f,[(κ,.row e k m f)],.ne n m) | _=>none)
 | _=>none
def CE (lb:List (Nat × bw)):List AV→BR (List D)
 | []=>some ([],[],.tt)
 | x :: r=>(match Ry lb x,CE lb r with | some (y,ro,ob),some (l,Qp,El)=>some (y :: l,ro++Qp,ob.and El) | _,_=>none)
def Aa (lb:List (Nat × bw)):AV→BR AV
 | .ref cs=>some (.ref cs,[],.tt)
 | .ptr κ off=>(match look lb κ with
  | some (.box cs)=>(match CE lb cs with | some (ds,ro,ob)=>some (.ref (ds.drop off),(κ,.box cs) :: ro,ob) | none=>none)
  | _=>none)
 | .ag l=>(match CE lb l with | some (ds,ro,ob)=>some (.d (.agg ds),ro,ob) | none=>none)
 | .wX κ=>(match look lb κ with | some (.mp n f)=>some (.Bj n f,[(κ,.mp n f)],.tt) | some (.mx _)=>some (.any,[],.tt) | _=>none)
 | .Bj n f=>some (.Bj n f,[],.tt)
 | x=>(match Ry lb x with | some (y,ro,ob)=>some (.d y,ro,ob) | none=>none)
def yu (lb:List (Nat × bw)):List AV→BR (List AV)
 | []=>some ([],[],.tt)
 | x :: r=>(match Aa lb x,yu lb r with | some (y,ro,ob),some (l,Qp,El)=>some (y :: l,ro++Qp,ob.and El) | _,_=>none)
def zF (lb:List (Nat × bw)):AV→BR AV
 | .fn f cy=>(match yu lb cy with | some (l,ro,ob)=>some (.fn f l,ro,ob) | none=>none)
 | x=>Aa lb x
def xh (lb:List (Nat × bw)):List AV→BR (List AV)
 | []=>some ([],[],.tt)
 | x :: r=>(match zF lb x,xh lb r with | some (y,ro,ob),some (l,Qp,El)=>some (y :: l,ro++Qp,ob.and El) | _,_=>none)
theorem XQ (hs:cV C A a w S μ ν) {S':Nat→Prop} (hS:∀ b,S b→S' b) (hO:∀ κ b g c,A.lb κ=some b→μ κ=some (some (g,c))→S' g) {lb:List (Nat × bw)} {x:AV} {y:D} {ro:List (Nat × bw)} {ob:Ob} (h:Ry lb x=some (y,ro,ob)) (mO:∀ p,p∈ro→A.lb p.1=some p.2) (bT:ob.den) {v:Value} (hr:Rel w S μ ν x v):Rd w S' y v:=by
 unfold Ry at h
 split at h
 ·simp only [Option.some.injEq,Prod.mk.injEq] at h
  obtain ⟨rfl,-,-⟩:=h
  exact (iK.1 hr).mono hS (fun _ _=>rfl)
 ·simp only [Option.some.injEq,Prod.mk.injEq] at h
  obtain ⟨rfl,-,-⟩:=h
  cases hr with
  | zm hd=>exact hd.mono hS (fun _ _=>rfl)
 ·rename_i κ n
  split at h
  ·rename_i e k m f hl
   simp only [Option.some.injEq,Prod.mk.injEq] at h
   obtain ⟨rfl,rfl,rfl⟩:=h
   simp only [Ob.den] at bT
   have hm:=hs.mem κ _ (mO (κ,.row e k m f) (by simp))
   cases hr with
   | @cN _ ad =>
    cases ad with
    | none=>exact .nil f
    | some ad=>exact .sl 0 f ad 0 0 (fun _ _=>undef) (Nat.le_refl _) (by simp [maxLen]) (.inl rfl) (fun i hi=>absurd hi (by omega)) (fun i j hi=>absurd hi (by omega)) (fun i j hi=>absurd hi (by omega))
   | @own _ _ g cap hμ =>
    rw [hμ] at hm
    have dK:=hO κ _ g cap (mO (κ,.row e k m f) (by simp)) hμ
    obtain ⟨cur,hg,_,jF,hn,hc,oU⟩:=hm.at
    refine .sl n f ⟨g,0,none⟩ cap k (fun i j=>(cur[i * k+j]?).getD undef) (by omega) hc (.inr rfl) (fun i hi=>(oU i (by omega)).1) (fun i j hi hj=>⟨dK,?_⟩) (fun i j hi hj=>?_)
    ·obtain ⟨u,hu,_⟩:=(oU i (by omega)).2 j hj
     rw [Nat.zero_add,gG w g _ cur e _ hg,hu]
     rfl
    ·obtain ⟨u,hu,V2⟩:=(oU i (by omega)).2 j hj
     rw [hu]
     exact V2.mono hS (fun _ _=>rfl)
  ·cases h
 ·cases h
theorem L9 (hs:cV C A a w S μ ν) {S':Nat→Prop} (hS:∀ b,S b→S' b) (hO:∀ κ b g c,A.lb κ=some b→μ κ=some (some (g,c))→S' g) {lb:List (Nat × bw)}:∀ {xs:List AV} {ys:List D} {ro:List (Nat × bw)} {ob:Ob},CE lb xs=some (ys,ro,ob)→(∀ p,p∈ro→A.lb p.1=some p.2)→ob.den→∀ {vs:List Value},dq w S μ ν xs vs →
  ys.length=xs.length∧∀ i,i < ys.length→Rd w S' (ys.getD i default) (vs.getD i undef)
 | [],ys,ro,ob,h,_,_,vs,_=>by
  simp only [CE,Option.some.injEq,Prod.mk.injEq] at h
  obtain ⟨rfl,-,-⟩:=h
  exact ⟨rfl,fun i hi=>absurd hi (by simp)⟩
 | x :: r,ys,ro,ob,h,mO,bT,vs,hr=>by
  simp only [CE] at h
  cases h1:Ry lb x with
  | none=>rw [h1] at h; cases h
  | some p =>
   obtain ⟨y,ro1,BV⟩:=p
   cases h2:CE lb r with
   | none=>rw [h1,h2] at h; cases h
   | some q =>
    obtain ⟨l,ro2,JA⟩:=q
    rw [h1,h2] at h
    simp only [Option.some.injEq,Prod.mk.injEq] at h
    obtain ⟨rfl,rfl,rfl⟩:=h
    have hr0:=hr.2 0 (by simp)
    match vs,hr with
    | [],hr=>have:=hr.1; simp at this
    | v :: vs,hr =>
     have ht:dq w S μ ν r vs:=⟨by simpa using hr.1,fun i hi=>by simpa using hr.2 (i+1) (by simpa using hi)⟩
     obtain ⟨i1,i2⟩:=L9 hs hS hO h2 (fun p hp=>mO p (List.mem_append.2 (.inr hp))) (Ob.cE bT).2 ht
     refine ⟨by simp [i1],fun i hi=>?_⟩
     cases i with
     | zero=>simpa using XQ hs hS hO h1 (fun p hp=>mO p (List.mem_append.2 (.inl hp))) (Ob.cE bT).1 (by simpa using hr.2 0 (by simp))
     | succ i=>simpa using i2 i (by simpa using hi)
theorem g5 (hs:cV C A a w S μ ν) {S':Nat→Prop} (hS:∀ b,S b→S' b) (hO:∀ κ b g c,A.lb κ=some b→μ κ=some (some (g,c))→S' g) {lb:List (Nat × bw)} {x y:AV} {ro:List (Nat × bw)} {ob:Ob} (h:Aa lb x=some (y,ro,ob)) (mO:∀ p,p∈ro→A.lb p.1=some p.2) (bT:ob.den) {v:Value} (hr:Rel w S μ ν x v) (μ':Mu) (ν':Nat→Bool):Rel w S' μ' ν' y v:=by
 have other:(match Ry lb x with | some (y,ro,ob)=>some (AV.d y,ro,ob) | none=>none)=some (y,ro,ob)→Rel w S' μ' ν' y v:=fun h=>by
  cases h1:Ry lb x with
  | none=>rw [h1] at h; cases h
  | some p =>
   obtain ⟨y',ro1,BV⟩:=p
   rw [h1] at h
   simp only [Option.some.injEq,Prod.mk.injEq] at h
   obtain ⟨rfl,rfl,rfl⟩:=h
   exact .d (XQ hs hS hO h1 mO bT hr)
 cases x with
 | ref cs =>
  simp only [Aa,Option.some.injEq,Prod.mk.injEq] at h
  obtain ⟨rfl,-,-⟩:=h
  cases hr with
  | ref df bL h=>exact .ref df (fun j hj=>⟨hS _ (bL j hj).1,(bL j hj).2⟩) (fun j hj=>(h j hj).mono hS (fun _ _=>rfl))
 | ptr κ off =>
  simp only [Aa] at h
  split at h
  ·rename_i cs hl
   split at h
   ·rename_i ds Qp El hb
    simp only [Option.some.injEq,Prod.mk.injEq] at h
    obtain ⟨rfl,rfl,rfl⟩:=h
    cases hr with
    | @ptr _ _ g cap hμ =>
     have hm:=hs.mem κ _ (mO (κ,.box cs) (by simp))
     rw [hμ] at hm
     have dK:=hO κ _ g cap (mO (κ,.box cs) (by simp)) hμ
     obtain ⟨cur,e,hg,_,jF,oU⟩:=hm.at
     have hrl:dq w S μ ν cs cur.toList:=⟨by simpa using jF,fun i hi=>by
      obtain ⟨u,hu,V2⟩:=oU i hi
      rw [show cur.toList.getD i undef=u from by simp [List.getD,hu]]
      exact V2 ν⟩
     obtain ⟨i1,i2⟩:=L9 hs hS hO hb (fun p hp=>mO p (List.mem_cons_of_mem _ hp)) bT hrl
     refine .ref (fun j=>cur.toList.getD (off+j) undef) (fun j hj=>⟨dK,?_⟩) (fun j hj=>?_)
     ·simp only [List.length_drop] at hj
      rw [gG w g _ cur e _ hg]
      have:off+j < cur.size:=by omega
      simp [List.getD,this]
     ·simp only [List.length_drop] at hj
      rw [show (ds.drop off).getD j default=ds.getD (off+j) default from by simp [List.getD]]
      exact i2 (off+j) (by omega)
   ·cases h
  ·cases h
 | ag l =>
  simp only [Aa] at h
  split at h
  ·rename_i ds Qp El hb
   simp only [Option.some.injEq,Prod.mk.injEq] at h
   obtain ⟨rfl,rfl,rfl⟩:=h
   cases hr with
   | @ag _ vs hl hh =>
    obtain ⟨i1,i2⟩:=L9 hs hS hO hb mO bT (vs:=vs.toList) ⟨by rw [Array.length_toList]; exact hl,fun i hi=>by rw [← cM]; exact hh i hi⟩
    exact .d (.agg ds vs (by omega) (fun i hi=>by rw [cM]; exact i2 i hi))
  ·cases h
 | any=>exact other h
 | d=>exact other h
 | own=>exact other h
 | yh=>exact other h
 | zm=>exact other h
 | Bj n f =>
  simp only [Aa,Option.some.injEq,Prod.mk.injEq] at h
  obtain ⟨rfl,-,-⟩:=h
  cases hr with
  | Bj h=>exact .Bj (h.mono hS (fun _ _=>rfl))
 | wX κ =>
  simp only [Aa] at h
  split at h
  ·rename_i n f hl
   simp only [Option.some.injEq,Prod.mk.injEq] at h
   obtain ⟨rfl,rfl,rfl⟩:=h
   have hκ:=mO (κ,.mp n f) (by simp)
   cases hr with
   | @wX _ g cap hμ =>
    have hm:=hs.mem κ _ hκ
    rw [hμ] at hm
    obtain ⟨cur,h1,_,h2,h3⟩:=hm.at
    refine .Bj ⟨hO κ _ g cap hκ hμ,cur,h1,h2,fun i hi=>?_⟩
    obtain ⟨e,q1,q2,q3,q4,q5⟩:=h3 i hi
    exact ⟨e,q1,q2,q3,q4,q5.mono hS (fun _ _=>rfl)⟩
  ·simp only [Option.some.injEq,Prod.mk.injEq] at h
   obtain ⟨rfl,-,-⟩:=h
   exact .any _
  ·cases h
 | fn=>exact other h
 | fj=>exact other h
 | g=>exact other h
theorem Ma (hs:cV C A a w S μ ν) {S':Nat→Prop} (hS:∀ b,S b→S' b) (hO:∀ κ b g c,A.lb κ=some b→μ κ=some (some (g,c))→S' g) {lb:List (Nat × bw)} (μ':Mu) (ν':Nat→Bool):∀ {xs ys:List AV} {ro:List (Nat × bw)} {ob:Ob},yu lb xs=some (ys,ro,ob)→(∀ p,p∈ro→A.lb p.1=some p.2)→ob.den→∀ {vs:List Value},dq w S μ ν xs vs →
  dq w S' μ' ν' ys vs
 | [],ys,ro,ob,h,_,_,vs,hr=>by
  simp only [yu,Option.some.injEq,Prod.mk.injEq] at h
  obtain ⟨rfl,-,-⟩:=h
  exact ⟨hr.1,fun i hi=>absurd hi (by simp)⟩
 | x :: r,ys,ro,ob,h,mO,bT,vs,hr=>by
  simp only [yu] at h
  cases h1:Aa lb x with
  | none=>rw [h1] at h; cases h
  | some p =>
   obtain ⟨y,ro1,BV⟩:=p
   cases h2:yu lb r with
   | none=>rw [h1,h2] at h; cases h
   | some q =>
    obtain ⟨l,ro2,JA⟩:=q
    rw [h1,h2] at h
    simp only [Option.some.injEq,Prod.mk.injEq] at h
    obtain ⟨rfl,rfl,rfl⟩:=h
    match vs,hr with
    | [],hr=>have:=hr.1; simp at this
    | v :: vs,hr =>
     have ht:dq w S μ ν r vs:=⟨by simpa using hr.1,fun i hi=>by simpa using hr.2 (i+1) (by simpa using hi)⟩
     have ih:=Ma hs hS hO μ' ν' h2 (fun p hp=>mO p (List.mem_append.2 (.inr hp))) (Ob.cE bT).2 ht
     refine ⟨by simpa using ih.1,fun i hi=>?_⟩
     cases i with
     | zero=>simpa using g5 hs hS hO h1 (fun p hp=>mO p (List.mem_append.2 (.inl hp))) (Ob.cE bT).1 (by simpa using hr.2 0 (by simp)) μ' ν'
     | succ i=>simpa using ih.2 i (by simpa using hi)
theorem aao (hs:cV C A a w S μ ν) {S':Nat→Prop} (hS:∀ b,S b→S' b) (hO:∀ κ b g c,A.lb κ=some b→μ κ=some (some (g,c))→S' g) {lb:List (Nat × bw)} {x y:AV} {ro:List (Nat × bw)} {ob:Ob} (h:zF lb x=some (y,ro,ob)) (mO:∀ p,p∈ro→A.lb p.1=some p.2) (bT:ob.den) {v:Value} (hr:Rel w S μ ν x v) (μ':Mu) (ν':Nat→Bool):Rel w S' μ' ν' y v:=by
 cases x with
 | fn f cy =>
  simp only [zF] at h
  split at h
  ·rename_i l Qp El hb
   simp only [Option.some.injEq,Prod.mk.injEq] at h
   obtain ⟨rfl,rfl,rfl⟩:=h
   cases hr with
   | @fn _ _ vs hl hh =>
    obtain ⟨i1,i2⟩:=Ma hs hS hO μ' ν' hb mO bT (vs:=vs.toList) ⟨by simpa using hl,fun i hi=>by rw [← cM]; exact hh i hi⟩
    exact .fn (by simpa using i1) (fun i hi=>by rw [cM]; exact i2 i hi)
  ·cases h
 | any=>exact g5 hs hS hO (lb:=lb) (by simpa only [zF] using h) mO bT hr μ' ν'
 | d=>exact g5 hs hS hO (lb:=lb) (by simpa only [zF] using h) mO bT hr μ' ν'
 | own=>exact g5 hs hS hO (lb:=lb) (by simpa only [zF] using h) mO bT hr μ' ν'
 | ptr=>exact g5 hs hS hO (lb:=lb) (by simpa only [zF] using h) mO bT hr μ' ν'
 | yh=>exact g5 hs hS hO (lb:=lb) (by simpa only [zF] using h) mO bT hr μ' ν'
 | ref=>exact g5 hs hS hO (lb:=lb) (by simpa only [zF] using h) mO bT hr μ' ν'
 | zm=>exact g5 hs hS hO (lb:=lb) (by simpa only [zF] using h) mO bT hr μ' ν'
 | wX=>exact g5 hs hS hO (lb:=lb) (by simpa only [zF] using h) mO bT hr μ' ν'
 | Bj=>exact g5 hs hS hO (lb:=lb) (by simpa only [zF] using h) mO bT hr μ' ν'
 | fj=>exact g5 hs hS hO (lb:=lb) (by simpa only [zF] using h) mO bT hr μ' ν'
 | ag=>exact g5 hs hS hO (lb:=lb) (by simpa only [zF] using h) mO bT hr μ' ν'
 | g=>exact g5 hs hS hO (lb:=lb) (by simpa only [zF] using h) mO bT hr μ' ν'
theorem GM (hs:cV C A a w S μ ν) {S':Nat→Prop} (hS:∀ b,S b→S' b) (hO:∀ κ b g c,A.lb κ=some b→μ κ=some (some (g,c))→S' g) {lb:List (Nat × bw)} (μ':Mu) (ν':Nat→Bool):∀ {xs ys:List AV} {ro:List (Nat × bw)} {ob:Ob},xh lb xs=some (ys,ro,ob)→(∀ p,p∈ro→A.lb p.1=some p.2)→ob.den→∀ {vs:List Value},dq w S μ ν xs vs →
  dq w S' μ' ν' ys vs
 | [],ys,ro,ob,h,_,_,vs,hr=>by
  simp only [xh,Option.some.injEq,Prod.mk.injEq] at h
  obtain ⟨rfl,-,-⟩:=h
  exact ⟨hr.1,fun i hi=>absurd hi (by simp)⟩
 | x :: r,ys,ro,ob,h,mO,bT,vs,hr=>by
  simp only [xh] at h
  cases h1:zF lb x with
  | none=>rw [h1] at h; cases h
  | some p =>
   obtain ⟨y,ro1,BV⟩:=p
   cases h2:xh lb r with
   | none=>rw [h1,h2] at h; cases h
   | some q =>
    obtain ⟨l,ro2,JA⟩:=q
    rw [h1,h2] at h
    simp only [Option.some.injEq,Prod.mk.injEq] at h
    obtain ⟨rfl,rfl,rfl⟩:=h
    match vs,hr with
    | [],hr=>have:=hr.1; simp at this
    | v :: vs,hr =>
     have ht:dq w S μ ν r vs:=⟨by simpa using hr.1,fun i hi=>by simpa using hr.2 (i+1) (by simpa using hi)⟩
     have ih:=GM hs hS hO μ' ν' h2 (fun p hp=>mO p (List.mem_append.2 (.inr hp))) (Ob.cE bT).2 ht
     refine ⟨by simpa using ih.1,fun i hi=>?_⟩
     cases i with
     | zero=>simpa using aao hs hS hO h1 (fun p hp=>mO p (List.mem_append.2 (.inl hp))) (Ob.cE bT).1 (by simpa using hr.2 0 (by simp)) μ' ν'
     | succ i=>simpa using ih.2 i (by simpa using hi)
theorem yw {P:Program} {o:Oper} {cf:Operand} {xs:Array Operand} {ts:Array TypeId} (ho:o.op=.call { callee:=.value cf,args:=xs,argTypes:=ts }) {f:FuncId} {Bp:Array Value} (YZ:a.eval cf=.func (.func f) #[] Bp) (hc:fq P f=true) :
  (execOp a.eval o).run P w=.ok (.enter f (xs.map a.eval++Bp)) w:=by
 simp only [execOp,ho,resolve,YZ,Deferred.ofValue,Sem.run_bind,Sem.run_pure,Result.andThen_ok,invoke,Array.empty_append]
 exact Ey hc _
theorem Mb {o:Oper} {cf:Operand} {xs:Array Operand} {ts:Array TypeId} {f:FuncId} {args cy I2:List AV} {res:AV} {ro:List (Nat × bw)} {ob:Ob} {lb:List (Nat × bw)} {τ:Tr}
  (hs:cV C A a w S μ ν) (hd:∀ t,o.dst=some t→t < C.nt) (ho:o.op=.call { callee:=.value cf,args:=xs,argTypes:=ts }) (YZ:Rel w S μ ν (.fn f cy) (a.eval cf)) (lT:dq w S μ ν args (xs.toList.map a.eval))
  (hb:xh lb (args++cy)=some (I2,ro,ob)) (mO:∀ p,p∈ro→A.lb p.1=some p.2) (bT:ob.den) (Rz:eC C.P f I2 [] res []) (XN:fw res=true)
  (h0:τ.v=res) (h1:τ.dst=o.dst) (h2:τ.mem=[]) (h3:τ.fo=[]) :
  o.wp C.P a w (fun a' w'=>∃ S' μ',cV C (τ.apply A) a' w' S' μ' ν) (fun _ _ _=>False):=by
 generalize hcv:a.eval cf=cv at YZ
 cases YZ with
 | @fn _ _ Bp hl hh =>
  unfold Oper.wp
  rw [yw ho hcv Rz.1]
  have mf:dq w S μ ν (args++cy) (xs.map a.eval++Bp).toList:=by
   rw [Array.toList_append,Array.toList_map]
   exact lT.append ⟨by simpa using hl,fun i hi=>by rw [← cM]; exact hh i hi⟩
  refine (Rz.2 w (fun b=>b < w.heap.size) (fun _=>none) (xs.map a.eval++Bp) (fun b hb=>hb) (hs.zU.mono hs.bound (fun _ _=>rfl)) (fun ν'=>GM hs hs.bound (fun κ b g c h1 h2=>by have:=hs.mem κ b h1; rw [h2] at this; exact this.at.lt) _ ν' hb mO bT mf) (fun κ b hk=>by simp [look] at hk) (fun κ κ' b b' g c c' hk=>by simp [look] at hk)).mono ?_
  rintro e w' ⟨v,S',μ',rfl,B⟩
  have hk:Kept w w' (fun _=>False):=⟨B.kept.os,B.kept.tape,B.kept.output,B.kept.size,fun b hb _=>B.kept.block b hb (fun ⟨κ,b',c,hx,_⟩=>by simp [look] at hx)⟩
  have h4:=hs.world (S':=S) (fun _ x=>x) (fun _ x=>.inl x) hk
  have h5:=h4.put (dst:=o.dst) (x:=res) (v:=v) hd (Qs XN (B.res ν))
  refine ⟨S,μ,?_⟩
  have e:τ.apply A=A.wZ o.dst res:=by
   unfold Tr.apply M.wZ M.put
   rw [h0,h1,h2,h3]
   cases ho:o.dst with
   | none=>simp [look]
   | some d =>
    simp only [look,List.map_nil,List.not_mem_nil,if_false,Option.some.injEq]
    congr 1
    funext t
    by_cases c:d=t
    ·simp [c]
    ·have:¬ t=d:=fun e=>c e.symm
     simp [c,this]
  rw [e]
  exact h5
end
section
variable {C : Cx} {A : M} {a : Act} {w : World} {S : Nat → Prop} {μ : Mu} {ν : Nat → Bool}
theorem AV.xi {k:Nat}:∀ (l:List AV) (i:Nat),i < l.length→k∈(l.getD i default).keys→k∈AV.qB l
 | [],i,hi,_=>absurd hi (by simp)
 | a :: r,0,_,h=>by simp only [AV.qB,List.mem_append]; exact .inl (by simpa using h)
 | a :: r,i+1,hi,h=>by simp only [AV.qB,List.mem_append]; exact .inr (AV.xi r i (by simpa using hi) (by simpa using h))
theorem Rel.agree {μ':Mu} {x:AV} {v:Value} (h:Rel w S μ ν x v) (hk:∀ k,k∈x.keys→μ' k=μ k):Rel w S μ' ν x v:=by
 induction h with
 | any x=>exact .any x
 | d h=>exact .d h
 | @cN key _ h=>exact .cN (by rw [hk key (by simp [AV.keys])]; exact h)
 | @own key _ _ _ h=>exact .own (by rw [hk key (by simp [AV.keys])]; exact h)
 | @ptr key _ _ _ h=>exact .ptr (by rw [hk key (by simp [AV.keys])]; exact h)
 | @yh key _ _ _ _ _ h=>exact .yh (by rw [hk key (by simp [AV.keys])]; exact h)
 | ref df bL h=>exact .ref df bL h
 | zm h=>exact .zm h
 | @wX key _ _ h=>exact .wX (by rw [hk key (by simp [AV.keys])]; exact h)
 | Bj h=>exact .Bj h
 | @fn _ cy _ hl _ ih=>exact .fn hl (fun i hi=>ih i hi (fun k fS=>hk k (by simp only [AV.keys]; exact AV.xi cy i hi fS)))
 | @fj l _ hl _ ih=>exact .fj hl (fun i hi=>ih i hi (fun k fS=>hk k (by simp only [AV.keys]; exact AV.xi l i hi fS)))
 | @ag l _ hl _ ih=>exact .ag hl (fun i hi=>ih i hi (fun k fS=>hk k (by simp only [AV.keys]; exact AV.xi l i hi fS)))
 | g _ h0 ih=>exact .g (fun hp=>ih hp (fun k fS=>hk k (by simpa [AV.keys] using fS))) h0
theorem dg.agree {μ':Mu} {b:bw} {g cap:Nat} (h:dg w S μ b g cap) (hk:∀ k,k∈b.keys→μ' k=μ k):dg w S μ' b g cap:=by
 cases b with
 | box cs =>
  obtain ⟨cur,e,h1,h0,h2,h6⟩:=h
  refine ⟨cur,e,h1,h0,h2,fun j hj=>?_⟩
  obtain ⟨x,hx,hr⟩:=h6 j hj
  exact ⟨x,hx,fun ν=>(hr ν).agree (fun k fS=>hk k (AV.xi _ j hj fS))⟩
 | row e k n f=>exact h
 | mp n f=>exact h
 | it mk n seen =>
  obtain ⟨mg,c,h0,h1⟩:=h
  exact ⟨mg,c,by rw [hk mk (by simp [bw.keys])]; exact h0,h1⟩
 | mx=>exact h
theorem hZ.agree {μ':Mu} {b:bw} {y:Option (Option (Nat × Nat))} (h:hZ w S μ b y) (hk:∀ k,k∈b.keys→μ' k=μ k):hZ w S μ' b y:=by
 cases y with
 | none=>cases b <;> exact h
 | some y =>
  cases y with
  | none=>cases b <;> exact h
  | some gc=>obtain ⟨g,c⟩:=gc; exact (h.at.agree hk).ok
theorem dq.nu {ν':Nat→Bool} {l:List AV} {vs:List Value} (h:dq w S μ ν l vs) (hn:vk.nI l=true):dq w S μ ν' l vs:=⟨h.1,fun i hi=>(h.2 i hi).nu (qN l i hn hi)⟩
theorem Y0 {o:Oper} {cf:Operand} {xs:Array Operand} {ts:Array TypeId} {f:FuncId} {args cy:List AV} {res:AV} {cR gp:List (Nat × bw)} {need:List (Nat × AV)} {ro:List (Nat × bw)} {gs:List (Nat × Bool)}
  (hs:cV C A a w S μ ν) (hd:∀ t,o.dst=some t→t < C.nt) (ho:o.op=.call { callee:=.value cf,args:=xs,argTypes:=ts }) (YZ:Rel w S μ ν (.fn f cy) (a.eval cf)) (lT:dq w S μ ν args (xs.toList.map a.eval)) (hn:vk.nI (args++cy)=true)
  (Rz:eC C.P f (args++cy) cR res gp) (VP:∀ p,p∈cR→A.lb p.1=some p.2) (vi:∀ k,k∈gp.map (·.1)→jY A k) (O9:∀ k,k∈res.keys→k∈gp.map (·.1)) (CW:∀ p,p∈gp→∀ k,k∈p.2.keys→k∈gp.map (·.1)) :
  o.wp C.P a w (fun a' w'=>∃ S' μ',cV C ((Tr.mk need o.dst res ro cR gp gs).apply A) a' w' S' μ' ν) (fun _ _ _=>False):=by
 generalize hcv:a.eval cf=cv at YZ
 cases YZ with
 | @fn _ _ Bp hl hh =>
  unfold Oper.wp
  rw [yw ho hcv Rz.1]
  have mf:dq w S μ ν (args++cy) (xs.map a.eval++Bp).toList:=by
   rw [Array.toList_append,Array.toList_map]
   exact lT.append ⟨by simpa using hl,fun i hi=>by rw [← cM]; exact hh i hi⟩
  have ym:∀ κ b,look cR κ=some b→A.lb κ=some b:=fun κ b h=>VP (κ,b) (jd h)
  refine (Rz.2 w S μ (xs.map a.eval++Bp) hs.bound hs.zU (fun ν'=>mf.nu hn) (fun κ b hk=>hs.mem κ b (ym κ b hk)) (fun κ κ' b b' g c c' h1 h2 h3 h4=>hs.inj κ κ' b b' g c c' (ym _ _ h1) (ym _ _ h2) h3 h4)).mono ?_
  rintro e w' ⟨v,S',μ',rfl,B⟩
  have hT:∀ q,Handed cR μ q→C.w0.heap.size≤q∨C.T0 q:=fun q ⟨κ,b,c,h1,h2⟩=>hs.own κ b q c (ym κ b h1) h2
  have hTs:∀ q,Handed cR μ q→¬ S q:=fun q ⟨κ,b,c,h1,h2⟩=>by
   have:=hs.mem κ b (ym κ b h1)
   rw [h2] at this
   exact this.at.not
  have hw:∀ q,S q→w'.heap[q]? = w.heap[q]?:=fun q hq=>B.kept.block q (hs.bound q hq) (fun ht=>hTs q ht hq)
  let μ'':Mu:=fun k=>if k∈gp.map (·.1) then μ' k else μ k
  have ag:∀ k,k ∉ gp.map (·.1)→μ'' k=μ k:=fun k hk=>by simp only [μ'',hk,if_false]
  have Z0:∀ k,k∈gp.map (·.1)→μ'' k=μ' k:=fun k hk=>by simp only [μ'',hk,if_true]
  have old:∀ x v,Rel w S μ ν x v→(∀ k,k∈gp.map (·.1)→k ∉ x.keys)→Rel w' S' μ'' ν x v:=fun x v hr hk =>
   (hr.mono B.sub hw (fun _ _ e=>e)).agree (fun k hkx=>ag k (fun fS=>hk k fS hkx))
  refine ⟨S',μ'',?_⟩
  have Mc:∀ κ b,((Tr.mk need o.dst res ro cR gp gs).apply A).lb κ=some b→(look gp κ=some b∧κ∈gp.map (·.1))∨(κ ∉ gp.map (·.1)∧κ ∉ cR.map (·.1)∧A.lb κ=some b):=by
   intro κ b hb
   simp only [Tr.apply] at hb
   cases O3:look gp κ with
   | some b' =>
    rw [O3] at hb
    simp only [Option.some.injEq] at hb
    subst hb
    exact .inl ⟨rfl,qL O3⟩
   | none =>
    rw [O3] at hb
    simp only at hb
    have hnk:κ ∉ gp.map (·.1):=fun hk=>by
     obtain ⟨p,hp,e⟩:=List.mem_map.1 hk
     have:∀ (l:List (Nat × bw)),p∈l→look l κ≠none:=by
      intro l
      induction l with
      | nil=>intro h; cases h
      | cons q r ih =>
       intro h hn
       obtain ⟨q1,q2⟩:=q
       simp only [look] at hn
       cases hq:Nat.beq q1 κ with
       | true=>rw [hq] at hn; cases hn
       | false =>
        rw [hq] at hn
        rcases List.mem_cons.1 h with h' | h'
        ·subst h'
         simp only at e
         rw [e,Nat.beq_refl] at hq
         cases hq
        ·exact ih h' (by simpa using hn)
     exact this gp hp O3
    split at hb
    ·cases hb
    ·rename_i hnm
     exact .inr ⟨hnk,hnm,hb⟩
  have hgT:∀ κ b g c,κ ∉ cR.map (·.1)→A.lb κ=some b→μ κ=some (some (g,c))→¬ Handed cR μ g∧g < w.heap.size∧¬ S g:=by
   intro κ b g c hnm hb hμ
   have hm:=hs.mem κ b hb
   rw [hμ] at hm
   refine ⟨fun ⟨κ2,b2,c2,h1,h2⟩=>?_,hm.at.lt,hm.at.not⟩
   have:=hs.inj κ κ2 b b2 g c c2 hb (ym _ _ h1) hμ h2
   rw [this] at hnm
   exact hnm (qL h1)
  refine ⟨?_,?_,fun t=>?_,fun κ b hb=>?_,fun κ1 κ2 b1 b2 g c c' h1 h2 h3 h4=>?_,fun κ b g c hb hμ=>?_,fun b hb=>B.sub b (hs.eB b hb),fun b hb=>?_,B.bound,?_⟩
  ·simp only [Act.put]; split <;> simp [hs.tmps]
  ·simp only [Act.put]; split <;> exact hs.defers
  ·simp only [Tr.apply]
   by_cases c:o.dst=some t
   ·simp only [c,if_true,Act.put]
    rw [gV _ _ _ (by rw [hs.tmps]; exact hd t c)]
    exact (B.res ν).agree (fun k hk=>Z0 k (O9 k hk))
   ·simp only [c,if_false]
    have e:(a.put o.dst v).tmps.getD t undef=a.tmps.getD t undef:=by
     cases dE:o.dst with
     | none=>rfl
     | some d =>
      simp only [Act.put]
      exact cO _ _ _ _ (fun e=>c (by rw [dE,e]))
    rw [e]
    exact old _ _ (hs.dG t) (fun k hk=>(vi k hk).sl t)
  ·rcases Mc κ b hb with ⟨h1,h2⟩ | ⟨h1,h2,h3⟩
   ·rw [Z0 κ h2]
    exact (B.mem κ b h1).agree (fun k hk=>Z0 k (CW (κ,b) (jd h1) k hk))
   ·rw [ag κ h1]
    have hm:=hs.mem κ b h3
    refine (hm.mono B.sub hw (fun _ _ e=>e) (fun g c e=>?_)).agree (fun k hk=>ag k (fun fS=>(vi k fS).bl κ b h3 hk))
    obtain ⟨q1,q2,q3⟩:=hgT κ b g c h2 h3 e
    refine ⟨B.kept.block g q2 q1,fun xb=>?_⟩
    rcases B.new g xb with h | h | h
    ·exact q3 h
    ·omega
    ·exact q1 h
  ·rcases Mc κ1 b1 h1 with ⟨x1,x2⟩ | ⟨x1,x2,x3⟩
   ·rw [Z0 κ1 x2] at h3
    rcases Mc κ2 b2 h2 with ⟨y1,y2⟩ | ⟨y1,y2,y3⟩
    ·rw [Z0 κ2 y2] at h4
     exact B.inj κ1 κ2 b1 b2 g c c' x1 y1 h3 h4
    ·rw [ag κ2 y1] at h4
     obtain ⟨q1,q2,q3⟩:=hgT κ2 b2 g c' y2 y3 h4
     rcases B.own κ1 b1 g c x1 h3 with h | h
     ·omega
     ·exact absurd h q1
   ·rw [ag κ1 x1] at h3
    obtain ⟨q1,q2,q3⟩:=hgT κ1 b1 g c x2 x3 h3
    rcases Mc κ2 b2 h2 with ⟨y1,y2⟩ | ⟨y1,y2,y3⟩
    ·rw [Z0 κ2 y2] at h4
     rcases B.own κ2 b2 g c' y1 h4 with h | h
     ·omega
     ·exact absurd h q1
    ·rw [ag κ2 y1] at h4
     exact hs.inj κ1 κ2 b1 b2 g c c' x3 y3 h3 h4
  ·rcases Mc κ b hb with ⟨h1,h2⟩ | ⟨h1,h2,h3⟩
   ·rw [Z0 κ h2] at hμ
    rcases B.own κ b g c h1 hμ with h | h
    ·exact .inl (Nat.le_trans hs.kept.size h)
    ·exact hT g h
   ·rw [ag κ h1] at hμ
    exact hs.own κ b g c h3 hμ
  ·rcases B.new b hb with h | h | h
   ·exact hs.fresh b h
   ·exact .inr (.inl (Nat.le_trans hs.kept.size h))
   ·rcases hT b h with h' | h'
    ·exact .inr (.inl h')
    ·exact .inr (.inr h')
  ·refine hs.kept.trans B.kept (fun b hb h=>?_)
   rcases hT b h with h' | h'
   ·omega
   ·exact h'
def FnB (P:Program) (f:FuncId) (args:List AV) (cR:List (Nat × bw)) (res:AV) (gp:List (Nat × bw)) (mQ:List (Nat × Nat)):Prop :=
 fq P f=true∧∀ (w:World) (S:Nat→Prop) (μ:Mu) (vs:Array Value),(∀ b,S b→b < w.heap.size)→gM w S→(∀ ν,dq w S μ ν args vs.toList)→(∀ κ b,look cR κ=some b→hZ w S μ b (μ κ))→TG cR μ →
  Calls P f vs w fun e w'=>∃ v S' μ',e=.returned v∧Rx w S (Handed cR μ) res gp v S' μ' w'∧∀ p,p∈mQ→∀ ν,Rel w' S' μ' ν (.ptr p.2 0) (vs.toList.getD p.1 undef)
theorem RA {mQ:List (Nat × Nat)} {o:Oper} {cf:Operand} {xs:Array Operand} {ts:Array TypeId} {f:FuncId} {args cy:List AV} {res:AV} {cR gp:List (Nat × bw)} {need:List (Nat × AV)} {ro:List (Nat × bw)} {gs:List (Nat × Bool)}
  (hs:cV C A a w S μ ν) (hd:∀ t,o.dst=some t→t < C.nt) (ho:o.op=.call { callee:=.value cf,args:=xs,argTypes:=ts }) (YZ:Rel w S μ ν (.fn f cy) (a.eval cf)) (lT:dq w S μ ν args (xs.toList.map a.eval)) (hn:vk.nI (args++cy)=true)
  (Rz:FnB C.P f (args++cy) cR res gp mQ) (ahi:∀ p,p∈mQ→p.1 < (args++cy).length∧(args++cy).getD p.1 default=.ptr p.2 0∧(∃ cs,look cR p.2=some (.box cs))∧∃ cs,look gp p.2=some (.box cs)) (VP:∀ p,p∈cR→A.lb p.1=some p.2) (vi:∀ k,k∈gp.map (·.1)→k ∉ mQ.map (·.2)→jY A k) (O9:∀ k,k∈res.keys→k∈gp.map (·.1)∧k ∉ mQ.map (·.2)) (CW:∀ p,p∈gp→∀ k,k∈p.2.keys→k∈gp.map (·.1)∧k ∉ mQ.map (·.2)) :
  o.wp C.P a w (fun a' w'=>∃ S' μ',cV C ((Tr.mk need o.dst res ro cR gp gs).apply A) a' w' S' μ' ν) (fun _ _ _=>False):=by
 generalize hcv:a.eval cf=cv at YZ
 cases YZ with
 | @fn _ _ Bp hl hh =>
  unfold Oper.wp
  rw [yw ho hcv Rz.1]
  have mf:dq w S μ ν (args++cy) (xs.map a.eval++Bp).toList:=by
   rw [Array.toList_append,Array.toList_map]
   exact lT.append ⟨by simpa using hl,fun i hi=>by rw [← cM]; exact hh i hi⟩
  have ym:∀ κ b,look cR κ=some b→A.lb κ=some b:=fun κ b h=>VP (κ,b) (jd h)
  refine (Rz.2 w S μ (xs.map a.eval++Bp) hs.bound hs.zU (fun ν'=>mf.nu hn) (fun κ b hk=>hs.mem κ b (ym κ b hk)) (fun κ κ' b b' g c c' h1 h2 h3 h4=>hs.inj κ κ' b b' g c c' (ym _ _ h1) (ym _ _ h2) h3 h4)).mono ?_
  rintro e w' ⟨v,S',μ',rfl,B,ha⟩
  have afy:∀ κ,κ∈mQ.map (·.2)→κ∈gp.map (·.1)∧(∃ cs,look gp κ=some (.box cs))∧∃ g c c',μ κ=some (some (g,c))∧μ' κ=some (some (g,c')):=by
   intro κ hκ
   obtain ⟨p,hp,rfl⟩:=List.mem_map.1 hκ
   obtain ⟨h1,h2,-,cs,h4⟩:=ahi p hp
   have h5:=mf.2 p.1 h1
   rw [h2] at h5
   have h6:=ha p hp ν
   generalize (xs.map a.eval++Bp).toList.getD p.1 undef=u at h5 h6
   refine ⟨qL h4,⟨cs,h4⟩,?_⟩
   cases h5 with
   | @ptr _ _ g c hμ =>
    cases h6 with
    | @ptr _ _ _ c' hμ'=>exact ⟨g,c,c',hμ,hμ'⟩
  have hT:∀ q,Handed cR μ q→C.w0.heap.size≤q∨C.T0 q:=fun q ⟨κ,b,c,h1,h2⟩=>hs.own κ b q c (ym κ b h1) h2
  have hTs:∀ q,Handed cR μ q→¬ S q:=fun q ⟨κ,b,c,h1,h2⟩=>by
   have:=hs.mem κ b (ym κ b h1)
   rw [h2] at this
   exact this.at.not
  have hw:∀ q,S q→w'.heap[q]? = w.heap[q]?:=fun q hq=>B.kept.block q (hs.bound q hq) (fun ht=>hTs q ht hq)
  let μ'':Mu:=fun k=>if k∈mQ.map (·.2) then μ k else if k∈gp.map (·.1) then μ' k else μ k
  have ag:∀ k,(k∈gp.map (·.1)→k∈mQ.map (·.2))→μ'' k=μ k:=fun k hk=>by
   simp only [μ'']
   by_cases h1:k∈mQ.map (·.2)
   ·rw [if_pos h1]
   ·rw [if_neg h1,if_neg (fun h=>h1 (hk h))]
  have Z0:∀ k,k∈gp.map (·.1)→k ∉ mQ.map (·.2)→μ'' k=μ' k:=fun k hk hn=>by simp only [μ'']; rw [if_neg hn,if_pos hk]
  have tr:∀ k g c,k∈gp.map (·.1)→μ'' k=some (some (g,c))→∃ c',μ' k=some (some (g,c')):=fun k g c hk h=>by
   by_cases h1:k∈mQ.map (·.2)
   ·obtain ⟨-,-,g',c1,c2,e1,e2⟩:=afy k h1
    rw [ag k (fun _=>h1),e1] at h
    simp only [Option.some.injEq,Prod.mk.injEq] at h
    obtain ⟨rfl,rfl⟩:=h
    exact ⟨c2,e2⟩
   ·rw [Z0 k hk h1] at h
    exact ⟨c,h⟩
  have old:∀ x v,Rel w S μ ν x v→(∀ k,k∈gp.map (·.1)→k ∉ mQ.map (·.2)→k ∉ x.keys)→Rel w' S' μ'' ν x v:=fun x v hr hk =>
   (hr.mono B.sub hw (fun _ _ e=>e)).agree (fun k hkx=>ag k (fun fS=>Classical.byContradiction (fun hn=>hk k fS hn hkx)))
  refine ⟨S',μ'',?_⟩
  have Mc:∀ κ b,((Tr.mk need o.dst res ro cR gp gs).apply A).lb κ=some b→(look gp κ=some b∧κ∈gp.map (·.1))∨(κ ∉ gp.map (·.1)∧κ ∉ cR.map (·.1)∧A.lb κ=some b):=by
   intro κ b hb
   simp only [Tr.apply] at hb
   cases O3:look gp κ with
   | some b' =>
    rw [O3] at hb
    simp only [Option.some.injEq] at hb
    subst hb
    exact .inl ⟨rfl,qL O3⟩
   | none =>
    rw [O3] at hb
    simp only at hb
    have hnk:κ ∉ gp.map (·.1):=fun hk=>by
     obtain ⟨p,hp,e⟩:=List.mem_map.1 hk
     have:∀ (l:List (Nat × bw)),p∈l→look l κ≠none:=by
      intro l
      induction l with
      | nil=>intro h; cases h
      | cons q r ih =>
       intro h hn
       obtain ⟨q1,q2⟩:=q
       simp only [look] at hn
       cases hq:Nat.beq q1 κ with
       | true=>rw [hq] at hn; cases hn
       | false =>
        rw [hq] at hn
        rcases List.mem_cons.1 h with h' | h'
        ·subst h'
         simp only at e
         rw [e,Nat.beq_refl] at hq
         cases hq
        ·exact ih h' (by simpa using hn)
     exact this gp hp O3
    split at hb
    ·cases hb
    ·rename_i hnm
     exact .inr ⟨hnk,hnm,hb⟩
  have hgT:∀ κ b g c,κ ∉ cR.map (·.1)→A.lb κ=some b→μ κ=some (some (g,c))→¬ Handed cR μ g∧g < w.heap.size∧¬ S g:=by
   intro κ b g c hnm hb hμ
   have hm:=hs.mem κ b hb
   rw [hμ] at hm
   refine ⟨fun ⟨κ2,b2,c2,h1,h2⟩=>?_,hm.at.lt,hm.at.not⟩
   have:=hs.inj κ κ2 b b2 g c c2 hb (ym _ _ h1) hμ h2
   rw [this] at hnm
   exact hnm (qL h1)
  refine ⟨?_,?_,fun t=>?_,fun κ b hb=>?_,fun κ1 κ2 b1 b2 g c c' h1 h2 h3 h4=>?_,fun κ b g c hb hμ=>?_,fun b hb=>B.sub b (hs.eB b hb),fun b hb=>?_,B.bound,?_⟩
  ·simp only [Act.put]; split <;> simp [hs.tmps]
  ·simp only [Act.put]; split <;> exact hs.defers
  ·simp only [Tr.apply]
   by_cases c:o.dst=some t
   ·simp only [c,if_true,Act.put]
    rw [gV _ _ _ (by rw [hs.tmps]; exact hd t c)]
    exact (B.res ν).agree (fun k hk=>Z0 k (O9 k hk).1 (O9 k hk).2)
   ·simp only [c,if_false]
    have e:(a.put o.dst v).tmps.getD t undef=a.tmps.getD t undef:=by
     cases dE:o.dst with
     | none=>rfl
     | some d =>
      simp only [Act.put]
      exact cO _ _ _ _ (fun e=>c (by rw [dE,e]))
    rw [e]
    exact old _ _ (hs.dG t) (fun k hk hn=>(vi k hk hn).sl t)
  ·rcases Mc κ b hb with ⟨h1,h2⟩ | ⟨h1,h2,h3⟩
   ·have hm:=B.mem κ b h1
    have hk2:∀ k,k∈b.keys→μ'' k=μ' k:=fun k hk=>Z0 k (CW (κ,b) (jd h1) k hk).1 (CW (κ,b) (jd h1) k hk).2
    by_cases hn:κ∈mQ.map (·.2)
    ·obtain ⟨-,⟨cs,e0⟩,g',c1,c2,e1,e2⟩:=afy κ hn
     rw [h1] at e0
     simp only [Option.some.injEq] at e0
     subst e0
     rw [ag κ (fun _=>hn),e1]
     rw [e2] at hm
     have h3:dg w' S' μ' (.box cs) g' c1:=hm.at
     exact dg.ok (b:=.box cs) (h3.agree hk2)
    ·rw [Z0 κ h2 hn]
     exact hm.agree hk2
   ·rw [ag κ (fun h=>absurd h h1)]
    have hm:=hs.mem κ b h3
    refine (hm.mono B.sub hw (fun _ _ e=>e) (fun g c e=>?_)).agree (fun k hk=>ag k (fun fS=>Classical.byContradiction (fun hn=>(vi k fS hn).bl κ b h3 hk)))
    obtain ⟨q1,q2,q3⟩:=hgT κ b g c h2 h3 e
    refine ⟨B.kept.block g q2 q1,fun xb=>?_⟩
    rcases B.new g xb with h | h | h
    ·exact q3 h
    ·omega
    ·exact q1 h
  ·rcases Mc κ1 b1 h1 with ⟨x1,x2⟩ | ⟨x1,x2,x3⟩
   ·obtain ⟨d1,h3⟩:=tr κ1 g c x2 h3
    rcases Mc κ2 b2 h2 with ⟨y1,y2⟩ | ⟨y1,y2,y3⟩
    ·obtain ⟨d2,h4⟩:=tr κ2 g c' y2 h4
     exact B.inj κ1 κ2 b1 b2 g d1 d2 x1 y1 h3 h4
    ·rw [ag κ2 (fun h=>absurd h y1)] at h4
     obtain ⟨q1,q2,q3⟩:=hgT κ2 b2 g c' y2 y3 h4
     rcases B.own κ1 b1 g d1 x1 h3 with h | h
     ·omega
     ·exact absurd h q1
   ·rw [ag κ1 (fun h=>absurd h x1)] at h3
    obtain ⟨q1,q2,q3⟩:=hgT κ1 b1 g c x2 x3 h3
    rcases Mc κ2 b2 h2 with ⟨y1,y2⟩ | ⟨y1,y2,y3⟩
    ·obtain ⟨d2,h4⟩:=tr κ2 g c' y2 h4
     rcases B.own κ2 b2 g d2 y1 h4 with h | h
     ·omega
     ·exact absurd h q1
    ·rw [ag κ2 (fun h=>absurd h y1)] at h4
     exact hs.inj κ1 κ2 b1 b2 g c c' x3 y3 h3 h4
  ·rcases Mc κ b hb with ⟨h1,h2⟩ | ⟨h1,h2,h3⟩
   ·obtain ⟨d1,hμ⟩:=tr κ g c h2 hμ
    rcases B.own κ b g d1 h1 hμ with h | h
    ·exact .inl (Nat.le_trans hs.kept.size h)
    ·exact hT g h
   ·rw [ag κ (fun h=>absurd h h1)] at hμ
    exact hs.own κ b g c h3 hμ
  ·rcases B.new b hb with h | h | h
   ·exact hs.fresh b h
   ·exact .inr (.inl (Nat.le_trans hs.kept.size h))
   ·rcases hT b h with h' | h'
    ·exact .inr (.inl h')
    ·exact .inr (.inr h')
  ·refine hs.kept.trans B.kept (fun b hb h=>?_)
   rcases hT b h with h' | h'
   ·omega
   ·exact h'
def FnS (P:Program) (f:FuncId) (args:List AV) (κ:Nat) (b b':bw):Prop :=
 fq P f=true∧∀ (w:World) (S:Nat→Prop) (μ:Mu) (vs:Array Value),(∀ b,S b→b < w.heap.size)→gM w S→(∀ ν,dq w S μ ν args vs.toList)→hZ w S μ b (μ κ) →
  Calls P f vs w fun e w'=>(∃ v,e=.returned v)∧hZ w' S μ b' (μ κ)∧Kept w w' (fun q=>∃ c,μ κ=some (some (q,c)))
theorem Md {o:Oper} {cf:Operand} {xs:Array Operand} {ts:Array TypeId} {f:FuncId} {args cy:List AV} {κ:Nat} {b b':bw} {need:List (Nat × AV)} {ro:List (Nat × bw)} {gs:List (Nat × Bool)}
  (hs:cV C A a w S μ ν) (hd:∀ t,o.dst=some t→t < C.nt) (ho:o.op=.call { callee:=.value cf,args:=xs,argTypes:=ts }) (YZ:Rel w S μ ν (.fn f cy) (a.eval cf)) (lT:dq w S μ ν args (xs.toList.map a.eval)) (hn:vk.nI (args++cy)=true)
  (Rz:FnS C.P f (args++cy) κ b b') (hκ:A.lb κ=some b) :
  o.wp C.P a w (fun a' w'=>∃ S' μ',cV C ((Tr.mk need o.dst .any ro [(κ,b)] [(κ,b')] gs).apply A) a' w' S' μ' ν) (fun _ _ _=>False):=by
 generalize hcv:a.eval cf=cv at YZ
 cases YZ with
 | @fn _ _ Bp hl hh =>
  unfold Oper.wp
  rw [yw ho hcv Rz.1]
  have mf:dq w S μ ν (args++cy) (xs.map a.eval++Bp).toList:=by
   rw [Array.toList_append,Array.toList_map]
   exact lT.append ⟨by simpa using hl,fun i hi=>by rw [← cM]; exact hh i hi⟩
  refine (Rz.2 w S μ (xs.map a.eval++Bp) hs.bound hs.zU (fun ν'=>mf.nu hn) (hs.mem κ b hκ)).mono ?_
  rintro e w' ⟨⟨v,rfl⟩,mP,hk⟩
  have hg:∀ q,(∃ c,μ κ=some (some (q,c)))→¬ S q:=fun q ⟨c,hc⟩=>by
   have:=hs.mem κ b hκ
   rw [hc] at this
   exact this.at.not
  have hw:∀ q,S q→w'.heap[q]? = w.heap[q]?:=fun q hq=>hk.block q (hs.bound q hq) (fun h=>hg q h hq)
  have h1:cV C (A.set κ (some b')) a w' S μ ν:=by
   refine ⟨hs.tmps,hs.defers,fun t=>(hs.dG t).mono (fun _ x=>x) hw (fun _ _ e=>e),fun κ' bk hbk=>?_,fun κ1 κ2 b1 b2 g c c' h1 h2 h3 h4=>?_,fun κ' bk g c h1 h2=>?_,hs.eB,hs.fresh,fun q hq=>Nat.lt_of_lt_of_le (hs.bound q hq) hk.size,?_⟩
   ·simp only [M.set] at hbk
    by_cases e:κ'=κ
    ·subst e
     simp only [if_true,Option.some.injEq] at hbk
     subst hbk
     exact mP
    ·simp only [e,if_false] at hbk
     have hm:=hs.mem κ' bk hbk
     refine hm.mono (fun _ x=>x) hw (fun _ _ e=>e) (fun g c XR=>?_)
     rw [XR] at hm
     exact ⟨hk.block g hm.at.lt (fun ⟨c',hc'⟩=>e (hs.inj κ' κ bk b g c c' hbk hκ XR hc')),hm.at.not⟩
   ·have get:∀ k bk,(A.set κ (some b')).lb k=some bk→∃ bk',A.lb k=some bk':=fun k bk h=>by
     simp only [M.set] at h
     by_cases e:k=κ
     ·subst e; exact ⟨b,hκ⟩
     ·simp only [e,if_false] at h; exact ⟨bk,h⟩
    obtain ⟨b1',q1⟩:=get _ _ h1
    obtain ⟨b2',q2⟩:=get _ _ h2
    exact hs.inj κ1 κ2 b1' b2' g c c' q1 q2 h3 h4
   ·simp only [M.set] at h1
    by_cases e:κ'=κ
    ·subst e; exact hs.own κ' b g c hκ h2
    ·simp only [e,if_false] at h1; exact hs.own κ' bk g c h1 h2
   ·exact hs.kept.trans hk (fun q hq ⟨c,hc⟩=>by
     rcases hs.own κ b q c hκ hc with h | h
     ·omega
     ·exact h)
  refine ⟨S,μ,?_⟩
  have e:(Tr.mk need o.dst .any ro [(κ,b)] [(κ,b')] gs).apply A=(A.set κ (some b')).wZ o.dst .any:=by
   cases dE:o.dst with
   | none=>exact mj _
   | some d =>
    have:=mj (A:=A) (κ:=κ) (b:=b) (b':=b') (need:=need) (ro:=ro) (gs:=gs) .any
    unfold Tr.apply at this ⊢
    simp only [M.wZ,M.put,M.set,M.mk.injEq,Option.some.injEq] at this ⊢
    refine ⟨?_,this.2⟩
    funext t
    by_cases c:t=d
    ·simp [c]
    ·have:¬ d=t:=fun e=>c e.symm
     simp [c,this]
  rw [e]
  exact h1.put hd (.any _)
end
def GN (n k:Nat) (z:List D):List AV:=(List.range n).map fun q=>.d (z.getD (q % k) default)
section
variable {C : Cx} {A : M} {a : Act} {w : World} {S : Nat → Prop} {μ : Mu} {ν : Nat → Bool}
def unN (ρ:Operand→Option AV) (x:Operand):Option AV:=match ρ x with
 | some (.zm n f)=>some (.d (.sl n f))
 | y=>y
theorem aap {ρ:Operand→Option AV} (h:∀ x y,ρ x=some y→Rel w S μ ν y (a.eval x)):∀ x y,unN ρ x=some y→Rel w S μ ν y (a.eval x):=by
 intro x y hy
 unfold unN at hy
 split at hy
 ·rename_i n f hx
  have h1:=h x _ hx
  obtain rfl:=Option.some.inj hy
  generalize a.eval x=v at h1
  cases h1 with
  | zm hd=>exact .d hd
 ·exact h x y hy
def ub (T:List (Nat × TI)) (ρ:Operand→Option AV) (t len:Nat) (ps:List (Nat × Operand)):Option (Nat × Nat × List D) :=
 match look T t,z7 ρ ps with
 | some { kind:=.slice e,.. },some vs=>(match look T e with
  | some i=>bif Nat.ble (len * i.size) 16777216&&Nat.ble 1 i.size then (match L0 (fun q=>some (q * i.size,i.size)) (GN (len * i.size) i.size i.zero) vs with
   | some cs=>(match zo cs with | some ds=>bif Nat.beq ds.length (len * i.size) then some (e,i.size,ds) else none | none=>none)
   | none=>none) else none
  | none=>none)
 | _,_=>none
theorem Ab {P:Program} {T:List (Nat × TI)} (hT:nz P T) {ρ:Operand→Option AV} (hρ:∀ x y,ρ x=some y→Rel w S μ ν y (a.eval x)) {t len:Nat} {ps:Array (Nat × Operand)} {e k:Nat} {ds:List D} (h:ub T ρ t len ps.toList=some (e,k,ds)) :
  ∃ cells:Array Value,(Instr.buildSlice t len (ps.map fun (i,x)=>(i,a.eval x))).run P w=.ok (.slice (some ⟨w.heap.size,0,none⟩) len len) (w.alloc (.cells cells e))∧cells.size=len * k∧jf w S k len (BT k len ds) cells.toList∧ds.length=len * k∧len≤maxLen:=by
 unfold ub at h
 split at h
 ·rename_i e' _ _ _ _ vs hl hv
  split at h
  ·rename_i i hi
   cases hb:(Nat.ble (len * i.size) 16777216&&Nat.ble 1 i.size) with
   | false=>rw [hb] at h; cases h
   | true =>
    rw [hb] at h
    simp only [Bool.and_eq_true] at hb
    have hle:=Nat.le_of_ble_eq_true hb.1
    have JB:=Nat.le_of_ble_eq_true hb.2
    simp only [cond_true] at h
    split at h
    ·rename_i cs we
     split at h
     ·rename_i ds' hp
      cases Ez:Nat.beq ds'.length (len * i.size) with
      | false=>rw [Ez] at h; cases h
      | true =>
       rw [Ez] at h
       have Z2:=Nat.eq_of_beq_eq_true Ez
       simp only [cond_true,Option.some.injEq,Prod.mk.injEq] at h
       obtain ⟨rfl,rfl,rfl⟩:=h
       have ecs:=tZ hp
       subst ecs
       obtain ⟨ti,z,F⟩:=aB (hT t _ hl)
       have hu:=dU F.kind
       obtain ⟨tj,zj,G⟩:=aB (hT e' _ hi)
       obtain ⟨q1,q2⟩:=iV (w:=w) (S:=S) G.zok
       have VO:zj.cells.size=i.size:=by rw [← G.CV,← q1]; simp
       have hz:dq w S μ ν (GN (len * i.size) i.size i.zero) ((Array.range (len * i.size)).map (zj.cells[· % zj.cells.size]!)).toList:=by
        refine ⟨by simp [GN],fun q hq=>?_⟩
        have Rw:q < len * i.size:=by simpa [GN] using hq
        have hm:q % i.size < i.size:=Nat.mod_lt _ JB
        have e1:(GN (len * i.size) i.size i.zero).getD q default=.d (i.zero.getD (q % i.size) default):=by simp [GN,List.getD,Rw]
        have e2:((Array.range (len * i.size)).map (zj.cells[· % zj.cells.size]!)).toList.getD q undef=zj.cells.toList.getD (q % i.size) undef:=by
         have h1:q % i.size < zj.cells.size:=by omega
         simp only [List.getD,Array.getElem?_toList,Array.getElem?_map,Array.getElem?_range,Rw,if_true,Option.map_some,Option.getD_some,VO]
         rw [getElem!_pos zj.cells _ h1,Array.getElem?_eq_getElem h1]
         rfl
        rw [e1,e2]
        exact .d (q2 _ (by rw [G.CV]; exact hm))
       obtain ⟨v1,v2⟩:=yq hρ ps.toList vs hv
       obtain ⟨L1,hf,hr⟩:=Bm (fun q=>some (q * i.size,i.size)) vs (ps.toList.map fun p=>(p.1,a.eval p.2)) _ _ ((Array.range (len * i.size)).map (zj.cells[· % zj.cells.size]!)) hz v1 v2 we
       have nG:L1.size=len * i.size:=by have:=hr.1; simp at this; omega
       refine ⟨L1,?_,nG,⟨by simpa using nG,fun q hq=>⟨(xg Z2 hq).1,fun j hj=>?_⟩⟩,Z2,?_⟩
       ·have hps:(ps.map fun (i,x)=>(i,a.eval x)).toList=ps.toList.map fun p=>(p.1,a.eval p.2):=by simp
        have hn:¬ len * i.size > 2 ^ 24:=by omega
        simp only [Instr.buildSlice,Sem.run_bind,run_underlying hu,Result.andThen_ok,sizeOf,typeInfo,run_program,G.info,Sem.run_pure,G.size,Sem.run_ite,hn,if_false,hps]
        by_cases h0:len * i.size=0
        ·rw [h0] at nG hf
         simp only [h0,if_true]
         have:∀ (g g':Nat→Value),(Array.range 0).map g=(Array.range 0).map g':=fun g g'=>by simp
         rw [this _ (zj.cells[· % zj.cells.size]!),hf]
         simp [newRow]
        ·simp only [h0,if_false,zeroValue,typeInfo,Sem.run_bind,run_program,Result.andThen_ok,G.info,Sem.run_pure,G.zero]
         rw [hf]
         simp [newRow]
       ·rw [(xg Z2 hq).2 j hj]
        have dK:q * i.size+j < ds'.length:=by
         rw [Z2]
         calc q * i.size+j < q * i.size+i.size:=by omega
          _=(q+1) * i.size:=by rw [Nat.add_mul,Nat.one_mul]
          _≤len * i.size:=Nat.mul_le_mul_right _ hq
        have:=hr.2 (q * i.size+j) (by simpa using dK)
        rw [jZ _ _ dK] at this
        exact iK.1 this
       ·have:len * 1≤len * i.size:=Nat.mul_le_mul_left len JB
        simp only [maxLen]
        omega
     ·cases h
    ·cases h
  ·cases h
 ·cases h
theorem JC {T:List (Nat × TI)} (hT:nz C.P T) {o:Oper} {dst t len:Nat} {ps:Array (Nat × Operand)} {e k:Nat} {ds:List D} {ρ:Operand→Option AV} {need:List (Nat × AV)} {ro:List (Nat × bw)} {gs:List (Nat × Bool)}
  (hs:cV C A a w S μ ν) (hd:o.dst=some dst) (hdt:dst < C.nt) (ho:o.op=.buildSlice t len ps) (hρ:∀ x y,ρ x=some y→Rel w S μ ν y (a.eval x)) (h:ub T ρ t len ps.toList=some (e,k,ds)) (hf:jY A dst) :
  o.wp C.P a w (fun a' w'=>∃ S' μ',cV C ((Tr.mk need (some dst) (.own dst len) ro [] [(dst,.row e k len (BT k len ds))] gs).apply A) a' w' S' μ' ν) (fun _ _ _=>False):=by
 obtain ⟨cells,e9,jF,oU,_,hml⟩:=Ab hT hρ h
 unfold Oper.wp execOp
 simp only [ho,Sem.run_bind,e9,Result.andThen_ok,Sem.run_pure]
 have sQ:¬ S w.heap.size:=fun h=>by have:=hs.bound _ h; omega
 have hw:∀ q,S q→(w.alloc (.cells cells e)).heap[q]? = w.heap[q]?:=fun q hq=>heap_alloc_old w _ (hs.bound q hq)
 have h1:=hs.alloc hf (b:=.row e k len (BT k len ds)) (cur:=cells) (e:=e) (cap:=len) (by simp [bw.keys]) (L5 (heap_alloc_new w _) sQ jF (Nat.le_refl _) hml (by rw [← jF,← Array.length_toList,List.take_length]) (oU.mono (fun _ x=>x) hw))
 have h2:=h1.put (dst:=some dst) (x:=.own dst len) (v:=.slice (some ⟨w.heap.size,0,none⟩) len len) (fun t ht=>by cases ht; exact hdt) (.own (by simp [cW]))
 rw [qM]
 exact ⟨S,_,by rw [hd]; exact h2⟩
theorem Y1 {T:List (Nat × TI)} (hT:nz C.P T) {o:Oper} {dst t e:Nat} {l c:Operand} {it i:TI} {kl kc:IntKind} {n:Int} {need:List (Nat × AV)} {ro:List (Nat × bw)} {gs:List (Nat × Bool)}
  (hs:cV C A a w S μ ν) (hd:o.dst=some dst) (hdt:dst < C.nt) (ho:o.op=.makeSlice t l c) (ht:look T t=some it) (hk:it.kind=.slice e) (he:look T e=some i) (hl:a.eval l=.int kl n) (hc:a.eval c=.int kc n)
  (h0:0≤n) (hm:n.toNat≤maxLen) (hb:n.toNat * i.bytes≤140737488355328) (hf:jY A dst) :
  o.wp C.P a w (fun a' w'=>∃ S' μ',cV C ((Tr.mk need (some dst) (.own dst n.toNat) ro [] [(dst,.row e i.size n.toNat fun _=>i.zero)] gs).apply A) a' w' S' μ' ν) (fun _ _ _=>False):=by
 obtain ⟨tj,z,F⟩:=aB (hT _ _ ht)
 obtain ⟨ej,ez,G⟩:=aB (hT _ _ he)
 have sP:=F.kind
 rw [hk] at sP
 have hu:=dU sP
 have hml:n≤9223372036854775807:=by have:=hm; simp only [maxLen] at this; omega
 have hbb:(ej.bytes:Int) * n≤281474976710656:=by
  rw [G.bytes]
  have h1:((i.bytes * n.toNat:Nat):Int)≤281474976710656:=by rw [Nat.mul_comm]; omega
  rw [Int.natCast_mul,Int.toNat_of_nonneg h0] at h1
  exact h1
 have e9:=run_make (P:=C.P) w t e ej ez hu G.info G.zero kl kc n n h0 (Int.le_refl _) hbb hml
 rw [G.size] at e9
 unfold Oper.wp execOp
 simp only [ho,hl,hc,Sem.run_bind,e9,Result.andThen_ok,Sem.run_pure]
 have sQ:¬ S w.heap.size:=fun h=>by have:=hs.bound _ h; omega
 have hw:∀ q,S q→(w.alloc (.cells (madeCells ez.cells (n.toNat * i.size)) e)).heap[q]? = w.heap[q]?:=fun q hq=>heap_alloc_old w _ (hs.bound q hq)
 obtain ⟨q1,q2⟩:=iV (w:=w) (S:=S) G.zok
 have hzl:ez.cells.size=i.size:=by have:=q1; simp only [Array.length_toList] at this; rw [this,G.CV]
 have oU:jf w S i.size n.toNat (fun _=>i.zero) (madeCells ez.cells (n.toNat * i.size)).toList:=by
  refine ⟨by simp [size_madeCells],fun q hq=>⟨G.CV,fun j hj=>?_⟩⟩
  have dK:q * i.size+j < n.toNat * i.size:=by
   calc q * i.size+j < q * i.size+i.size:=by omega
    _=(q+1) * i.size:=by rw [Nat.add_mul,Nat.one_mul]
    _≤n.toNat * i.size:=Nat.mul_le_mul_right _ hq
  have e1:(madeCells ez.cells (n.toNat * i.size)).toList.getD (q * i.size+j) undef=ez.cells.toList.getD j undef:=by
   have Ek:j < ez.cells.size:=by omega
   have Y2:(q * i.size+j) % ez.cells.size=j:=by rw [hzl,Nat.mul_comm,Nat.mul_add_mod,Nat.mod_eq_of_lt hj]
   simp [madeCells,List.getD,dK,Y2,Ek]
  rw [e1]
  exact q2 j (by rw [G.CV]; exact hj)
 have h1:=hs.alloc hf (b:=.row e i.size n.toNat fun _=>i.zero) (cur:=madeCells ez.cells (n.toNat * i.size)) (e:=e) (cap:=n.toNat) (by simp [bw.keys]) (L5 (heap_alloc_new w _) sQ (size_madeCells _ _) (Nat.le_refl _) hm (List.take_of_length_le (by simp [size_madeCells])) (oU.mono (fun _ x=>x) hw))
 have h2:=h1.put (dst:=some dst) (x:=.own dst n.toNat) (v:=.slice (some ⟨w.heap.size,0,none⟩) n.toNat n.toNat) (fun t ht=>by cases ht; exact hdt) (.own (by simp [cW]))
 rw [qM]
 exact ⟨S,_,by rw [hd]; exact h2⟩
theorem Me {T:List (Nat × TI)} (hT:nz C.P T) {o:Oper} {t len:Nat} {ps:Array (Nat × Operand)} {e k:Nat} {ds:List D} {ρ:Operand→Option AV} {τ:Tr}
  (hs:cV C A a w S μ ν) (hd:∀ t,o.dst=some t→t < C.nt) (ho:o.op=.buildSlice t len ps) (hρ:∀ x y,ρ x=some y→Rel w S μ ν y (a.eval x)) (h:ub T ρ t len ps.toList=some (e,k,ds))
  (h0:τ.v=.d (.sl len (BT k len ds))) (h1:τ.dst=o.dst) (h2:τ.mem=[]) (h3:τ.fo=[]) :
  o.wp C.P a w (fun a' w'=>∃ S' μ',cV C (τ.apply A) a' w' S' μ' ν) (fun _ _ _=>False):=by
 obtain ⟨cells,e9,jF,oU,_,hml⟩:=Ab hT hρ h
 unfold Oper.wp execOp
 simp only [ho,Sem.run_bind,e9,Result.andThen_ok,Sem.run_pure]
 let S':Nat→Prop:=fun q=>S q∨q=w.heap.size
 have h4:=hs.world (S':=S') (w':=w.alloc (.cells cells e)) (fun _ x=>.inl x) (fun q hq=>hq.elim .inl (fun e=>.inr ⟨by omega,by rw [e]; simp⟩)) (oT w _ _)
 have hrd:Rd (w.alloc (.cells cells e)) S' (.sl len (BT k len ds)) (.slice (some ⟨w.heap.size,0,none⟩) len len):=by
  refine .sl len _ ⟨w.heap.size,0,none⟩ len k (fun i j=>cells.toList.getD (i * k+j) undef) (Nat.le_refl _) hml (.inr rfl) (fun i hi=>(oU.2 i hi).1) (fun i j hi hj=>⟨.inr rfl,?_⟩) (fun i j hi hj=>?_)
  ·have dK:i * k+j < cells.size:=by
    rw [jF]
    calc i * k+j < i * k+k:=by omega
     _=(i+1) * k:=by rw [Nat.add_mul,Nat.one_mul]
     _≤len * k:=Nat.mul_le_mul_right k hi
   rw [gG _ _ _ cells e (0,0) (heap_alloc_new w _)]
   simp [List.getD,dK]
  ·exact ((oU.2 i hi).2 j hj).mono (fun _ x=>.inl x) (fun q hq=>heap_alloc_old w _ (hs.bound q hq))
 have h5:=h4.put (dst:=o.dst) (x:=.d (.sl len (BT k len ds))) (v:=.slice (some ⟨w.heap.size,0,none⟩) len len) hd (.d hrd)
 refine ⟨S',μ,?_⟩
 have e:τ.apply A=A.wZ o.dst (.d (.sl len (BT k len ds))):=by
  unfold Tr.apply M.wZ M.put
  rw [h0,h1,h2,h3]
  cases ho:o.dst with
  | none=>simp [look]
  | some d =>
   simp only [look,List.map_nil,List.not_mem_nil,if_false,Option.some.injEq]
   congr 1
   funext t
   by_cases c:d=t
   ·simp [c]
   ·have:¬ t=d:=fun e=>c e.symm
    simp [c,this]
 rw [e]
 exact h5
def RB (T:List (Nat × TI)) (ρ:Operand→Option AV):Op→Option (AV × Ob)
 | .convert src d x=>(match ρ x,look T src,look T d with
  | some (.d (.v (.string s))),some _,some { kind:=.slice e,.. }=>(match look T e with
   | some { kind:=.int .u8,.. }=>some (.d (.sl s.size fun i=>[.v (.int .u8 (s.data.toList.getD i 0).toNat)]),.pr (s.size≤maxLen))
   | _=>none)
  | _,_,_=>none)
 | _=>none
theorem V7 {T:List (Nat × TI)} (hT:nz C.P T) (hs:cV C A a w S μ ν) {o:Oper} {ρ:Operand→Option AV} (hρ:∀ x y,ρ x=some y→Rel w S μ ν y (a.eval x)) (hd:∀ t,o.dst=some t→t < C.nt) {v:AV} {ob:Ob} (h:RB T ρ o.op=some (v,ob)) (bT:ob.den) (need:List (Nat × AV)) (ro:List (Nat × bw)) (gs:List (Nat × Bool)) :
  o.wp C.P a w (fun a' w'=>∃ S' μ',cV C ((Tr.mk need o.dst v ro [] [] gs).apply A) a' w' S' μ' ν) (fun _ _ _=>False):=by
 unfold RB at h
 split at h
 ·rename_i src d x ho
  split at h
  ·rename_i s ti e _ _ _ _ hx iM dE
   split at h
   ·rename_i _ _ _ _ he
    simp only [Option.some.injEq,Prod.mk.injEq] at h
    obtain ⟨rfl,rfl⟩:=h
    have bT:s.size≤maxLen:=bT
    have hv:=cH rfl (hρ _ _ hx)
    obtain ⟨ds,hds⟩:∃ q,C.P.underlying src=some q:=by
     obtain ⟨tj,zj,G⟩:=aB (hT _ _ iM)
     have:=G.kind
     cases hu:C.P.underlying src with
     | some q=>exact ⟨q,rfl⟩
     | none=>cases hk:ti.kind <;> rw [hk] at this <;> simp [dp,hu] at this
    obtain ⟨t1,z1,F1⟩:=aB (hT _ _ dE)
    obtain ⟨t2,z2,F2⟩:=aB (hT _ _ he)
    have e9:=Lib.run_convert_string_bytes (P:=C.P) w src d e s hds (dU F1.kind) (ua F2.kind)
    unfold Oper.wp execOp
    simp only [ho,hv,Sem.run_bind,e9,Result.andThen_ok,Sem.run_pure]
    let S':Nat→Prop:=fun q=>S q∨q=w.heap.size
    have Ex:Kept w (Lib.bytesWorld w e s) (fun _=>False):=⟨rfl,rfl,rfl,by rw [Lib.bytesWorld_size]; omega,fun b hb _=>Lib.bytesWorld_at_old w e s b hb⟩
    have h4:=hs.world (S':=S') (fun _ x=>.inl x) (fun q hq=>hq.elim .inl (fun e'=>.inr ⟨by omega,by rw [e',Lib.bytesWorld_size]; omega⟩)) Ex
    have hrd:Rd (Lib.bytesWorld w e s) S' (.sl s.size fun i=>[.v (.int .u8 (s.data.toList.getD i 0).toNat)]) (.slice (some ⟨w.heap.size,0,none⟩) s.size (grownCap w s.size 0 e)):=by
     refine .sl s.size _ ⟨w.heap.size,0,none⟩ _ 1 (fun i _=>.int .u8 (s.data.toList.getD i 0).toNat) (grownCap_ge w s.size 0 e) (grownCap_le_maxLen w s.size 0 e bT) (.inr rfl) (fun i hi=>rfl) (fun i j hi hj=>⟨.inr rfl,?_⟩) (fun i j hi hj=>?_)
     ·obtain rfl:j=0:=by omega
      simp only [Nat.mul_one,Nat.add_zero,Nat.zero_add]
      exact Lib.bytesWorld_cell w e s i hi
     ·obtain rfl:j=0:=by omega
      exact .v _ rfl
    have h5:=h4.put (dst:=o.dst) hd (.d hrd)
    refine ⟨S',μ,?_⟩
    have e:(Tr.mk need o.dst (.d (.sl s.size fun i=>[.v (.int .u8 (s.data.toList.getD i 0).toNat)])) ro [] [] gs).apply A=A.wZ o.dst (.d (.sl s.size fun i=>[.v (.int .u8 (s.data.toList.getD i 0).toNat)])):=by
     unfold Tr.apply M.wZ M.put
     cases ho:o.dst with
     | none=>simp [look]
     | some d =>
      simp only [look,List.map_nil,List.not_mem_nil,if_false,Option.some.injEq]
      congr 1
      funext t
      by_cases c:d=t
      ·simp [c]
      ·have:¬ t=d:=fun e=>c e.symm
       simp [c,this]
    rw [e]
    exact h5
   ·cases h
  ·cases h
 ·cases h
end
section
variable {C : Cx} {A : M} {a : Act} {w : World} {S : Nat → Prop} {μ : Mu} {ν : Nat → Bool}
theorem EA {P:Program} {t k e:Nat} (h:dp P t (.map k e)=true):P.underlying t=some (.map k e):=by
 simp only [dp] at h
 split at h
 ·rename_i x; simp only [Bool.and_eq_true,beq_iff_eq] at h; obtain ⟨rfl,rfl⟩:=h; exact x
 ·cases h
theorem cV.RC (h:cV C A a w S μ ν) {κ g cap:Nat} {b b':bw} {w':World} (hκ:A.lb κ=some b) (hμ:μ κ=some (some (g,cap))) (hk:Kept w w' (fun q=>q=g)) (hb:dg w' S μ b' g cap):cV C (A.set κ (some b')) a w' S μ ν:=by
 have YX:=h.mem κ b hκ
 rw [hμ] at YX
 have sQ:=YX.at.not
 have hw:∀ q,S q→w'.heap[q]? = w.heap[q]?:=fun q hq=>hk.block q (h.bound q hq) (fun e=>sQ (e ▸ hq))
 refine ⟨h.tmps,h.defers,fun t=>(h.dG t).mono (fun _ x=>x) hw (fun _ _ x=>x),fun κ' b'' GL=>?_,fun κ1 κ2 b1 b2 g' c c' h1 h2 h3 h4=>?_,fun κ' b'' g' c h1 h2=>?_,h.eB,h.fresh,fun q hq=>Nat.lt_of_lt_of_le (h.bound q hq) hk.size,?_⟩
 ·simp only [M.set] at GL
  by_cases c:κ'=κ
  ·simp only [c,if_true,Option.some.injEq] at GL
   subst GL
   rw [c,hμ]
   exact hb.ok
  ·simp only [c,if_false] at GL
   have hm:=h.mem κ' b'' GL
   refine hm.mono (fun _ x=>x) hw (fun _ _ x=>x) (fun g' cc e=>?_)
   have hmm:=hm
   rw [e] at hmm
   exact ⟨hk.block g' hmm.at.lt (fun eg=>c (h.inj κ' κ b'' b g' cc cap GL hκ e (by rw [eg]; exact hμ))),hmm.at.not⟩
 ·have q1:∃ x,A.lb κ1=some x:=by
   simp only [M.set] at h1
   by_cases c:κ1=κ
   ·rw [c]; exact ⟨b,hκ⟩
   ·simp only [c,if_false] at h1; exact ⟨_,h1⟩
  have q2:∃ x,A.lb κ2=some x:=by
   simp only [M.set] at h2
   by_cases c:κ2=κ
   ·rw [c]; exact ⟨b,hκ⟩
   ·simp only [c,if_false] at h2; exact ⟨_,h2⟩
  obtain ⟨x1,q1⟩:=q1
  obtain ⟨x2,q2⟩:=q2
  exact h.inj κ1 κ2 x1 x2 g' c c' q1 q2 h3 h4
 ·have q1:∃ x,A.lb κ'=some x:=by
   simp only [M.set] at h1
   by_cases c:κ'=κ
   ·rw [c]; exact ⟨b,hκ⟩
   ·simp only [c,if_false] at h1; exact ⟨_,h1⟩
  obtain ⟨x1,q1⟩:=q1
  exact h.own κ' x1 g' c q1 h2
 ·refine h.kept.trans hk (fun q hq e=>?_)
  subst e
  rcases h.own κ b q cap hκ hμ with h1 | h1
  ·omega
  ·exact h1
def World.CX (w:World) (r:Nat) (o:Obj):World:={ w with heap:=w.heap.setIfInBounds r o }
def RD:Obj→Bool
 | .cells _ _ _=>false
 | _=>true
theorem uc {P:Program} {r:Nat} {o:Obj} (h:w.heap[r]? = some o) (hn:RD o=true:=by rfl):(getObj r).run P w=.ok o w:=by
 cases o <;> first | (simp [RD] at hn; done) | simp [getObj,Sem.run,h]
theorem TH {P:Program} {r:Nat} {x:Obj} (o:Obj) (h:w.heap[r]? = some x) (hn:RD x=true:=by rfl):(setObj r o).run P w=.ok () (World.CX w r o):=by
 cases x <;> first | (simp [RD] at hn; done) | simp [setObj,Sem.run,h,World.CX]
theorem tJ (r:Nat) (o:Obj):Kept w (World.CX w r o) (fun q=>q=r):=⟨rfl,rfl,rfl,by simp [World.CX],fun q _ hq=>by
 have:¬ r=q:=fun e=>hq e.symm
 simp [World.CX,Array.getElem?_setIfInBounds,this]⟩
theorem Lt {r:Nat} {x:Obj} (o:Obj) (h:w.heap[r]? = some x):(World.CX w r o).heap[r]? = some o:=by
 have hr:=(Array.getElem?_eq_some_iff.1 h).1
 simp [World.CX,hr]
def Mf:Value→Value→Bool
 | .int k a,.int k' b=>decide (k=k')&&!(a == b)
 | _,_=>false
theorem Mg {kk:IntKind} {kv:Value}:∀ (es:List MapEntry) (i:Nat),(∀ e,e∈es→Mf kv e.key=true)→(∃ k n,kv=.int k n)→Instr.findNow (.int kk) kv es i=some none
 | [],_,_,_=>rfl
 | e :: es,i,h,hv=>by
  have h1:=h e (by simp)
  obtain ⟨k,n,rfl⟩:=hv
  have ih:=Mg (kk:=kk) es (i+1) (fun x hx=>h x (by simp [hx])) ⟨k,n,rfl⟩
  cases hk:e.key with
  | int k' m =>
   rw [hk] at h1
   simp only [Mf,Bool.and_eq_true,decide_eq_true_eq,Bool.not_eq_true'] at h1
   obtain ⟨rfl,h2⟩:=h1
   simp only [Instr.findNow,Instr.sameNow,hk,if_true,h2]
   exact ih
  | _=>rw [hk] at h1; simp [Mf] at h1
structure R where
 v:AV
 ro:List (Nat × bw)
 mem:List (Nat × bw)
 fo:List (Nat × bw)
 ob:Ob
theorem qO {P:Program} {b:Bool} {kt:TypeId} {ik kk:IntKind} {n:Int} (XS:P.underlying kt=some (.int ik)) (q:Nat):(Instr.checkKey b (q+1) kt (.int kk n)).run P w=.ok () w:=by
 rw [Instr.checkKey]
 simp [run_underlying XS]
theorem Mh {P:Program} {t kt et:TypeId} {ik kk:IntKind} {n0:Int} {g clock:Nat} {cur:Array MapEntry} {x:Value} (hu:P.underlying t=some (.map kt et)) (XS:P.underlying kt=some (.int ik)) (hg:w.heap[g]? = some (.map cur clock)) (hf:Instr.findNow (.int ik) (.int kk n0) cur.toList 0=some none) :
  (Instr.mapUpdate t (.map (some g)) (.int kk n0) x).run P w=.ok () (World.CX w g (.map (cur.push { key:=.int kk n0,val:=x,born:=clock }) (clock+1))):=by
 unfold Instr.mapUpdate
 simp only [Sem.run_bind,run_underlying hu,Result.andThen_ok,uc hg,qO XS 9999,Instr.findKey,run_underlying XS,hf,Sem.run_pure,TH _ hg]
def Mi (T:List (Nat × TI)) (lb:List (Nat × bw)) (ρ:Operand→Option AV) (dst:Option Nat) (quiet:Bool):Op→Option R
 | .makeMap _ none=>(match quiet,dst with
  | false,some d=>some ⟨.wX d,[],[],[(d,.mp 0 fun _=>(.bool false,default))],.tt⟩
  | _,_=>none)
 | .insert t m k x=>(match quiet,dst,ρ m,ρ k,ρ x,look T t with
  | false,none,some (.wX κ),some (.d (.v (.int kk a))),some (.d xd),some { kind:=.map kt _,.. }=>(match look lb κ,look T kt with
   | some (.mp n f),some { kind:=.int _,.. }=>some ⟨.any,[],[(κ,.mp n f)],[(κ,.mp (n+1) fun q=>if q < n then f q else (.int kk a,xd))],.be ((List.range n).all fun i=>Mf (.int kk a) (f i).1) true⟩
   | _,_=>none)
  | _,_,_,_,_,_=>none)
 | .range t m=>(match quiet,dst,ρ m,look T t with
  | false,some d,some (.wX κ),some { kind:=.map _ _,.. }=>(match look lb κ with
   | some (.mp n f)=>bif Nat.beq d κ then none else some ⟨.ptr d 0,[(κ,.mp n f)],[],[(d,.it κ n [])],.tt⟩
   | _=>none)
  | _,_,_,_=>none)
 | .entry it=>(match ρ it with
  | some (.ptr κi 0)=>(match look lb κi with
   | some (.it κ n (i :: s))=>(match look lb κ with
    | some (.mp n' f)=>some ⟨.fj [.d (.v (f i).1),.d (f i).2],[(κi,.it κ n (i :: s)),(κ,.mp n' f)],[],[],(Ob.ne n n').and (.pr (i < n))⟩
    | _=>none)
   | _=>none)
  | _=>none)
 | .slice t x none (some h) none=>(match quiet,dst,ρ x,ρ h,look T t with
  | false,some d,some (.own κ n),some (.d (.v (.int _ hh))),some { kind:=.slice e,.. }=>(match look lb κ,look T e with
   | some (.row e' k n' f),some i=>bif Nat.beq d κ||!Nat.beq e e'||!Nat.beq k i.size then none else some ⟨.own d hh.toNat,[],[(κ,.row e' k n' f)],[(d,.row e' k hh.toNat f)],(Ob.ne n n').and (.pr (0≤hh∧hh≤n))⟩
   | _,_=>none)
  | false,some _,some (.d (.v (.slice none 0 0))),some (.d (.v (.int _ hh))),some { kind:=.slice e,.. }=>(match look T e with
   | some _=>some ⟨.d (.v (.slice none 0 0)),[],[],[],.pr (0≤hh∧hh≤0)⟩
   | none=>none)
  | _,_,_,_,_=>none)
 | .call { callee:=.builtin .cap,args:=xs,argTypes:=ts }=>(match sw ρ xs.toList,ts.toList with
  | some [.d (.v (.slice none 0 0))],[t]=>(match look T t with
   | some { kind:=.slice _,.. }=>some ⟨.d (.v (.int .i64 0)),[],[],[],.tt⟩
   | _=>none)
  | _,_=>none)
 | .call { callee:=.builtin .append,args:=xs,argTypes:=ts }=>(match quiet,dst,sw ρ xs.toList,ts.toList with
  | false,some d,some [.d (.v (.slice none 0 0)),.d (.v (.int .i64 n))],[t,t']=>(match look T t,look T t' with
   | some { kind:=.slice e,.. },some { kind:=.int .i64,.. }=>(match look T e with
    | some i=>some ⟨.own d n.toNat,[],[],[(d,.row e i.size n.toNat fun _=>i.zero)],.pr (0≤n∧n.toNat≤maxLen∧n.toNat * i.bytes≤140737488355328)⟩
    | none=>none)
   | _,_=>none)
  | _,_,_,_=>none)
 | _=>none
theorem TJ {o:Oper} {d:Nat} {v:AV} {x:Value} {b:bw} {w1:World} {need:List (Nat × AV)} {ro:List (Nat × bw)} {gs:List (Nat × Bool)} (hs:cV C A a w S μ ν) (dE:o.dst=some d) (hdt:d < C.nt) (hf:jY A d) (hk:d ∉ b.keys)
  (e9:(execOp a.eval o).run C.P w=.ok (.value x) w1) (hk1:Kept w w1 (fun q=>q=w.heap.size)) (hb:∀ c,dg w1 S μ b w.heap.size c) (hv:∀ μ',μ' d=some (some (w.heap.size,0))→Rel w1 S μ' ν v x) :
  o.wp C.P a w (fun a' w'=>∃ S' μ',cV C ((Tr.mk need (some d) v ro [] [(d,b)] gs).apply A) a' w' S' μ' ν) (fun _ _ _=>False):=by
 unfold Oper.wp
 rw [e9]
 have sQ:¬ S w.heap.size:=fun h=>by have:=hs.bound _ h; omega
 have h1:=hs.XM hf (blk:=b) (b:=w.heap.size) (cap:=0) hk hk1 sQ (fun κ' b' g' c q1 q2 e'=>by
  have:=hs.mem κ' b' q1
  rw [q2] at this
  have:=this.at.lt
  omega) (.inl hs.kept.size) (hb 0)
 have h2:=h1.put (dst:=some d) (x:=v) (v:=x) (fun t ht=>by cases ht; exact hdt) (hv _ (by simp [cW]))
 rw [qM]
 exact ⟨S,_,by rw [dE]; exact h2⟩
theorem RE {T:List (Nat × TI)} (hT:nz C.P T) (hs:cV C A a w S μ ν) {lb:List (Nat × bw)} {o:Oper} {ρ:Operand→Option AV} (hρ:∀ x y,ρ x=some y→Rel w S μ ν y (a.eval x)) (hd:∀ t,o.dst=some t→t < C.nt) {quiet:Bool} {r:R}
  (h:Mi T lb ρ o.dst quiet o.op=some r) (mO:∀ p,p∈r.ro→A.lb p.1=some p.2) (j0:∀ p,p∈r.mem→A.lb p.1=some p.2) (bT:r.ob.den) (vi:∀ κ,κ∈(r.fo.map (·.1)).filter (fun k=>!(r.mem.map (·.1)).contains k)→jY A κ) (need:List (Nat × AV)) (gs:List (Nat × Bool)) :
  o.wp C.P a w (fun a' w'=>∃ S' μ',cV C ((Tr.mk need o.dst r.v r.ro r.mem r.fo gs).apply A) a' w' S' μ' ν) (fun _ _ _=>False):=by
 unfold Mi at h
 split at h
 all_goals rename_i ho
 ·-- makeMap
  split at h
  ·rename_i d dE
   simp only [Option.some.injEq] at h
   subst h
   rw [dE]
   have sQ:¬ S w.heap.size:=fun h=>by have:=hs.bound _ h; omega
   refine TJ hs dE (hd d dE) (vi d (by simp)) (by simp [bw.keys]) (x:=.map (some w.heap.size)) (w1:=w.alloc (.map #[] 0)) ?_ (oT w _ _) (fun c=>⟨#[],heap_alloc_new w _,sQ,rfl,fun i hi=>absurd hi (by omega)⟩) (fun μ' hμ=>.wX hμ)
   simp [execOp,ho,Instr.makeMap]
  ·cases h
 ·-- insert
  rename_i t m k x
  split at h
  ·rename_i κ kk n0 xd kt _ _ _ _ _ dE hm hk hx ht
   split at h
   ·rename_i n f ik _ _ _ _ hl hkt
    simp only [Option.some.injEq] at h
    subst h
    rw [dE]
    have hκ:=j0 (κ,.mp n f) (by simp)
    have Pb:=hs.mem κ _ hκ
    have hv:=hρ _ _ hm
    generalize hmv:a.eval m=mv at hv
    cases hv with
    | @wX _ g cap hμ =>
     rw [hμ] at Pb
     obtain ⟨cur,hg,sQ,jF,bL⟩:=Pb.at
     obtain ⟨ti,z,F⟩:=aB (hT _ _ ht)
     obtain ⟨tj,zj,G⟩:=aB (hT _ _ hkt)
     have hu:=EA F.kind
     have XS:=ua G.kind
     have hkv:=dL (hρ _ _ hk)
     have bT:(List.range n).all (fun i=>Mf (.int kk n0) (f i).1)=true:=bT
     simp only [List.all_eq_true,List.mem_range] at bT
     have pH:Instr.findNow (.int ik) (.int kk n0) cur.toList 0=some none:=Mg _ 0 (fun e he=>by
      obtain ⟨q,hq,rfl⟩:=List.getElem_of_mem he
      have hqn:q < n:=by simpa [jF] using hq
      obtain ⟨e,h1,h2,_⟩:=bL q hqn
      have:cur.toList[q]=e:=by
       have:=Array.getElem?_eq_some_iff.1 h1
       simpa using this.2
      rw [this,h2]
      exact bT q hqn) ⟨kk,n0,rfl⟩
     have e9:(execOp a.eval o).run C.P w=.ok .skip (World.CX w g (.map (cur.push { key:=.int kk n0,val:=a.eval x,born:=n }) (n+1))):=by
      have h1:=Mh (x:=a.eval x) hu XS hg pH
      unfold execOp
      rw [ho]
      simp only [hmv,hkv,Sem.run_bind,h1,Result.andThen_ok,Sem.run_pure]
     unfold Oper.wp
     rw [e9]
     refine ⟨S,μ,?_⟩
     rw [mj,dE]
     refine hs.RC hκ hμ (tJ g _) ⟨_,Lt _ hg,sQ,by simp [jF],fun i hi=>?_⟩
     have hw:∀ q,S q→(World.CX w g (.map (cur.push { key:=.int kk n0,val:=a.eval x,born:=n }) (n+1))).heap[q]? = w.heap[q]?:=fun q hq=>(tJ g _).block q (hs.bound q hq) (fun e=>sQ (e ▸ hq))
     by_cases c:i < n
     ·obtain ⟨e,h1,h2,h3,h4,h5⟩:=bL i c
      refine ⟨e,?_,by simp only [c,if_true]; exact h2,h3,h4,by simp only [c,if_true]; exact h5.mono (fun _ x=>x) hw⟩
      rw [Array.getElem?_push,if_neg (by omega)]
      exact h1
     ·obtain rfl:i=n:=by omega
      refine ⟨_,by rw [Array.getElem?_push,if_pos jF.symm],by simp only [c,if_false],rfl,rfl,?_⟩
      simp only [c,if_false]
      exact (iK.1 (hρ _ _ hx)).mono (fun _ x=>x) hw
   ·cases h
  ·cases h
 ·-- range
  rename_i t m
  split at h
  ·rename_i d κ _ _ _ _ _ _ dE hm ht
   split at h
   ·rename_i n f hl
    rw [Bool.cond_eq_ite] at h
    split at h
    ·cases h
    ·rename_i rl
     simp only [Option.some.injEq] at h
     subst h
     rw [dE]
     have hκ:=mO (κ,.mp n f) (by simp)
     have Pb:=hs.mem κ _ hκ
     have hv:=hρ _ _ hm
     generalize hmv:a.eval m=mv at hv
     cases hv with
     | @wX _ g cap hμ =>
      rw [hμ] at Pb
      obtain ⟨cur,hg,aiV,jF,bL⟩:=Pb.at
      obtain ⟨ti,z,F⟩:=aB (hT _ _ ht)
      have hu:=EA F.kind
      have sQ:¬ S w.heap.size:=fun h=>by have:=hs.bound _ h; omega
      have hdk:d≠κ:=fun e=>by rw [e,Nat.beq_refl] at rl; exact rl rfl
      refine TJ hs dE (hd d dE) (vi d (by simp)) (by simp [bw.keys,hdk]) (x:=.pointer (some ⟨w.heap.size,0,none⟩)) (w1:=w.alloc (.mapIter (some g) n #[] n)) ?_ (oT w _ _) (fun c=>⟨g,cap,hμ,heap_alloc_new w _,sQ⟩) (fun μ' hμ'=>.ptr hμ')
      simp [execOp,ho,hmv,Instr.range,run_underlying hu,uc hg]
   ·cases h
  ·cases h
 ·-- entry
  rename_i it
  split at h
  ·rename_i κi hit
   split at h
   ·rename_i κ n i s VQ
    split at h
    ·rename_i n' f hl
     simp only [Option.some.injEq] at h
     subst h
     have bT:((Ob.ne n n').and (.pr (i < n))).den:=bT
     obtain ⟨o1,o2⟩:=Ob.cE bT
     have o1:n=n':=o1
     subst o1
     have o2:i < n:=o2
     have hκi:=mO (κi,.it κ n (i :: s)) (by simp)
     have hκ:=mO (κ,.mp n f) (by simp)
     have hv:=hρ _ _ hit
     generalize Z3:a.eval it=iv at hv
     cases hv with
     | @ptr _ _ gi ci hμi =>
      have hmi:=hs.mem κi _ hκi
      rw [hμi] at hmi
      obtain ⟨mg,c,hμ,hgi,afz⟩:=hmi.at
      have Pb:=hs.mem κ _ hκ
      rw [hμ] at Pb
      obtain ⟨cur,hg,sQ,jF,bL⟩:=Pb.at
      obtain ⟨e,h1,h2,h3,h4,h5⟩:=bL i o2
      have pH:cur.find? (fun x=>x.born == i)=some e:=by
       rw [Array.find?_eq_some_iff_getElem]
       have hi:i < cur.size:=by omega
       refine ⟨by simp [h4],i,hi,(Array.getElem?_eq_some_iff.1 h1).2,fun j hj=>?_⟩
       obtain ⟨e',q1,_,_,q4,_⟩:=bL j (by omega)
       have:cur[j]=e':=(Array.getElem?_eq_some_iff.1 q1).2
       rw [this,q4]
       simp
       omega
      refine mh (τ:=Tr.mk need o.dst (.fj [.d (.v (f i).1),.d (f i).2]) [(κi,.it κ n (i :: s)),(κ,.mp n f)] [] [] gs) hs hd (x:=.tuple #[e.key,e.val]) ?_ (.fj rfl (fun q hq=>?_)) rfl rfl rfl
      ·simp [execOp,ho,Z3,Instr.entry,uc hgi,uc hg,pH]
      ·match q with
       | 0=>simpa [h2] using gF (w:=w) (S:=S) (μ:=μ) (ν:=ν) h3
       | 1=>simpa using Rel.d (μ:=μ) (ν:=ν) h5
       | q+2=>simp at hq; omega
    ·cases h
   ·cases h
  ·cases h
 ·-- slice
  rename_i t x hh0
  split at h
  ·rename_i d κ n kk hh e _ _ _ _ dE hx hhi ht
   split at h
   ·rename_i e' k n' f i hl hie
    rw [Bool.cond_eq_ite] at h
    split at h
    ·cases h
    ·rename_i rl
     simp only [Bool.or_eq_true,Bool.not_eq_true',not_or,Bool.not_eq_false] at rl
     simp only [Option.some.injEq] at h
     subst h
     rw [dE]
     have bT:((Ob.ne n n').and (.pr (0≤hh∧hh≤n))).den:=bT
     obtain ⟨o1,o2,o3⟩:=Ob.cE bT
     have o1:n=n':=o1
     subst o1
     have hdk:d≠κ:=fun e=>rl.1.1 (by rw [e,Nat.beq_refl])
     have hκ:=j0 (κ,.row e' k n f) (by simp)
     have Pb:=hs.mem κ _ hκ
     obtain ⟨ti,z,F⟩:=aB (hT _ _ ht)
     have hu:=dU F.kind
     obtain ⟨te,ze,G⟩:=aB (hT _ _ hie)
     have Jz:(sizeOf e).run C.P w=.ok i.size w:=by simp [sizeOf,typeInfo,G.info,G.size]
     have hhv:=dL (hρ _ _ hhi)
     have hf:jY A d:=vi d (by simp [hdk])
     have hv:=hρ _ _ hx
     generalize hxv:a.eval x=xv at hv
     have XT:=hs.drop κ
     have hfd:=hf.drop κ
     have q1:∀ (k:IntKind) (i:Int) (y:Nat) (c:BoundsCode),0≤i→i≤y→(Instr.sliceBound (.int k i) y c).run C.P w=.ok i.toNat w:=fun k i y c h0 h1=>run_sliceBound w k i y c h0 h1
     cases hv with
     | @cN _ ad hμ =>
      have ahj:hh=0:=by omega
      subst ahj
      unfold Oper.wp
      have e9:(execOp a.eval o).run C.P w=.ok (.value (.slice ad 0 0)) w:=by
       simp (disch:=omega) [execOp,ho,hxv,hhv,Instr.sliceAt,run_underlying hu,Instr.slice,Instr.sliceBounds,q1,Jz]
      rw [e9]
      have h1:=XT.L6 hfd e' k f
      have h2:=h1.put (dst:=some d) (x:=.own d 0) (v:=.slice ad 0 0) (fun t ht=>by cases ht; exact hd d dE) (.cN (by simp [cW]))
      rw [yt hdk]
      exact ⟨S,_,by rw [dE]; exact h2⟩
     | @own _ _ g cap hμ =>
      rw [hμ] at Pb
      have sQ:=Pb.at.not
      obtain ⟨cur,hg,_,h3,h4,h5,h6⟩:=Pb.at
      unfold Oper.wp
      have Y3:hh.toNat≤cap:=by omega
      have e9:(execOp a.eval o).run C.P w=.ok (.value (.slice (some ⟨g,0,none⟩) hh.toNat cap)) w:=by
       simp (disch:=omega) [execOp,ho,hxv,hhv,Instr.sliceAt,run_underlying hu,Instr.slice,Instr.sliceBounds,q1,Jz,ia]
      rw [e9]
      have h1:=XT.XM hfd (blk:=.row e' k hh.toNat f) (b:=g) (cap:=cap) (w':=w) (by simp [bw.keys]) (Kept.refl _ _) sQ (fun κ' b' g' c q1 q2 e'=>by
       simp only [M.set] at q1
       by_cases cc:κ'=κ
       ·simp [cc] at q1
       ·simp only [cc,if_false] at q1
        subst e'
        exact cc (hs.inj κ' κ b' _ g' c cap q1 hκ q2 hμ)) (hs.own κ _ g cap hκ hμ) ⟨cur,hg,sQ,h3,Y3,h5,fun q hq=>h6 q (by omega)⟩
      have h2:=h1.put (dst:=some d) (x:=.own d hh.toNat) (v:=.slice (some ⟨g,0,none⟩) hh.toNat cap) (fun t ht=>by cases ht; exact hd d dE) (.own (by simp [cW]))
      rw [yt hdk]
      exact ⟨S,_,by rw [dE]; exact h2⟩
   ·cases h
  ·rename_i d kk hh e _ _ _ _ dE hx hhi ht
   split at h
   ·rename_i i hie
    simp only [Option.some.injEq] at h
    subst h
    have bT:0≤hh∧hh≤0:=bT
    obtain rfl:hh=0:=by omega
    obtain ⟨ti,z,F⟩:=aB (hT _ _ ht)
    have hu:=dU F.kind
    obtain ⟨te,ze,G⟩:=aB (hT _ _ hie)
    have Jz:(sizeOf e).run C.P w=.ok i.size w:=by simp [sizeOf,typeInfo,G.info,G.size]
    have hhv:=dL (hρ _ _ hhi)
    have hxv:=cH rfl (hρ _ _ hx)
    have q1:∀ (k:IntKind) (i:Int) (y:Nat) (c:BoundsCode),0≤i→i≤y→(Instr.sliceBound (.int k i) y c).run C.P w=.ok i.toNat w:=fun k i y c h0 h1=>run_sliceBound w k i y c h0 h1
    refine mh (τ:=Tr.mk need o.dst (.d (.v (.slice none 0 0))) [] [] [] gs) hs hd (x:=.slice none 0 0) ?_ (gF rfl) rfl rfl rfl
    simp (disch:=omega) [execOp,ho,hxv,hhv,Instr.sliceAt,run_underlying hu,Instr.slice,Instr.sliceBounds,q1,Jz]
   ·cases h
  ·cases h
 ·-- cap
  rename_i xs ts
  split at h
  ·rename_i t hxs hts
   split at h
   ·rename_i _ _ _ _ _ ht
    simp only [Option.some.injEq] at h
    subst h
    obtain ⟨ti,z,F⟩:=aB (hT _ _ ht)
    have hu:=dU F.kind
    have lT:=mi hρ xs.toList _ hxs
    have hx0:xs.map a.eval = #[.slice none 0 0]:=by
     have hl:(xs.map a.eval).toList.length=1:=by simpa using lT.1
     have h0:=lT.2 0 (by simp)
     have h0:=cH rfl h0
     apply Array.ext'
     rw [Array.toList_map] at hl ⊢
     match hq:xs.toList.map a.eval,hl with
     | [y],_=>rw [hq] at h0; simpa using h0
    have aaq:ts = #[t]:=by cases ts; simpa using hts
    refine mh (τ:=Tr.mk need o.dst (.d (.v (.int .i64 0))) [] [] [] gs) hs hd (x:=.int .i64 0) ?_ (gF rfl) rfl rfl rfl
    simp [execOp,ho,resolve,invoke,builtin,hx0,aaq,Builtin.cap_,run_underlying hu,goInt]
   ·cases h
  ·cases h
 ·-- append of aiF
  rename_i xs ts
  split at h
  ·rename_i d n t t' dE hxs hts
   split at h
   ·rename_i e _ _ _ _ _ _ _ _ ht ht'
    split at h
    ·rename_i i hie
     simp only [Option.some.injEq] at h
     subst h
     have bT:0≤n∧n.toNat≤maxLen∧n.toNat * i.bytes≤140737488355328:=bT
     obtain ⟨o1,o2,o3⟩:=bT
     rw [dE]
     obtain ⟨ti,z,F⟩:=aB (hT _ _ ht)
     have hu:=dU F.kind
     obtain ⟨ti',z',F'⟩:=aB (hT _ _ ht')
     have hu':=ua F'.kind
     obtain ⟨te,ze,G⟩:=aB (hT _ _ hie)
     have lT:=mi hρ xs.toList _ hxs
     have hx0:xs.map a.eval = #[.slice none 0 0,.int .i64 n]:=by
      have hl:(xs.map a.eval).toList.length=2:=by simpa using lT.1
      have h0:=cH rfl (lT.2 0 (by simp))
      have h1:=cH rfl (lT.2 1 (by simp))
      apply Array.ext'
      rw [Array.toList_map] at hl ⊢
      match hq:xs.toList.map a.eval,hl with
      | [y,y'],_=>rw [hq] at h0 h1; simp only [List.getD_cons_zero,List.getD_cons_succ] at h0 h1; rw [h0,h1]
     have aaq:ts = #[t,t']:=by cases ts; simpa using hts
     have hml:n≤9223372036854775807:=by have:=o2; simp only [maxLen] at this; omega
     have hwr:IntKind.i64.wrap n=n:=IntWalk.i64_in n ⟨by omega,hml⟩
     obtain ⟨q1,q2⟩:=iV (w:=w) (S:=S) G.zok
     have hzl:ze.cells.size=i.size:=by have:=q1; simp only [Array.length_toList] at this; rw [this,G.CV]
     have hf:jY A d:=vi d (by simp)
     by_cases h0:n=0
     ·subst h0
      have e9:(execOp a.eval o).run C.P w=.ok (.value (.slice none 0 0)) w:=by
       simp [execOp,ho,resolve,invoke,builtin,hx0,aaq,Builtin.append_,run_underlying hu,run_underlying hu',sizeOf,typeInfo,G.info,asInt,asIntOf,hwr]
      unfold Oper.wp
      rw [e9]
      have h1:=hs.L6 hf e i.size (fun _=>i.zero)
      have h2:=h1.put (dst:=some d) (x:=.own d 0) (v:=.slice none 0 0) (fun t ht=>by cases ht; exact hd d dE) (.cN (by simp [cW]))
      rw [qM]
      exact ⟨S,_,by rw [dE]; exact h2⟩
     ·have hn1:0 < n.toNat:=by omega
      have hge:=grownCap_ge w n.toNat 0 e
      have O8:grownCap w n.toNat 0 e≤maxLen:=grownCap_le_maxLen w n.toNat 0 e o2
      have h48:¬ (281474976710656 < Builtin.nextslicecap n.toNat 0 * te.bytes):=by rw [nextslicecap_zero hn1,G.bytes]; omega
      have afA:¬ (281474976710656 < n * (te.bytes:Int)):=by
       rw [G.bytes]
       have h1:((n.toNat * i.bytes:Nat):Int)≤140737488355328:=by omega
       rw [Int.natCast_mul,Int.toNat_of_nonneg o1] at h1
       omega
      have e9:∃ cells:Array Value,(execOp a.eval o).run C.P w=.ok (.value (.slice (some ⟨w.heap.size,0,none⟩) n.toNat (grownCap w n.toNat 0 e))) (w.drew.alloc (.cells cells e))∧cells=Builtin.zeroCells ze.cells n.toNat++Builtin.zeroCells ze.cells (grownCap w n.toNat 0 e - n.toNat):=by
       refine ⟨_,?_,rfl⟩
       have hn0:¬ n.toNat=0:=by omega
       have ach:¬ n < 0:=by omega
       have hle:¬ n≤0:=by omega
       have h63:¬ (9223372036854775807 < n):=by omega
       have hmx:max n 0=n:=by omega
       by_cases jF:i.size=0
       ·have Z4:ze.cells.size=0:=by omega
        have hze:Builtin.zeroCells ze.cells n.toNat = #[]:=by simp [Builtin.zeroCells,Z4]
        rw [hze]
        simp [execOp,ho,resolve,invoke,builtin,hx0,aaq,Builtin.append_,run_underlying hu,run_underlying hu',sizeOf,typeInfo,G.info,asInt,asIntOf,hwr,ach,hle,h48,afA,h63,hmx,Question.forced,Builtin.firstCells,newRow,grownCap,zeroValue,G.zero,G.size,jF]
       ·simp [execOp,ho,resolve,invoke,builtin,hx0,aaq,Builtin.append_,run_underlying hu,run_underlying hu',sizeOf,typeInfo,G.info,asInt,asIntOf,hwr,ach,hle,h48,afA,h63,hmx,Question.forced,Builtin.firstCells,newRow,grownCap,zeroValue,G.zero,G.size]
        intro hc
        rcases Nat.mul_eq_zero.1 hc with hc | hc
        ·exact absurd hc hn0
        ·exact absurd hc jF
      obtain ⟨cells,e9,RF⟩:=e9
      have Y3:cells.size=grownCap w n.toNat 0 e * i.size:=by
       rw [RF]
       simp only [Array.size_append,size_zeroCells,hzl,← Nat.add_mul]
       congr 1
       omega
      unfold Oper.wp
      rw [e9]
      have sQ:¬ S w.heap.size:=fun h=>by have:=hs.bound _ h; omega
      have hw:∀ q,S q→(w.drew.alloc (.cells cells e)).heap[q]? = w.heap[q]?:=fun q hq=>heap_alloc_old w.drew _ (hs.bound q hq)
      have h1:=hs.XM hf (blk:=.row e i.size n.toNat fun _=>i.zero) (b:=w.heap.size) (cap:=grownCap w n.toNat 0 e) (w':=w.drew.alloc (.cells cells e)) (by simp [bw.keys]) ⟨rfl,rfl,rfl,by simp,fun k hk _=>heap_alloc_old w.drew _ hk⟩ sQ (fun κ' b' g' c q1 q2 e'=>by
       have:=hs.mem κ' b' q1
       rw [q2] at this
       have:=this.at.lt
       omega) (.inl hs.kept.size) ⟨cells,heap_alloc_new w.drew _,sQ,Y3,hge,O8,fun q hq=>⟨G.CV,fun j hj=>?_⟩⟩
      ·have h2:=h1.put (dst:=some d) (x:=.own d n.toNat) (v:=.slice (some ⟨w.heap.size,0,none⟩) n.toNat (grownCap w n.toNat 0 e)) (fun t ht=>by cases ht; exact hd d dE) (.own (by simp [cW]))
       rw [qM]
       exact ⟨S,_,by rw [dE]; exact h2⟩
      ·have dK:q * i.size+j < n.toNat * i.size:=by
        calc q * i.size+j < q * i.size+i.size:=by omega
         _=(q+1) * i.size:=by rw [Nat.add_mul,Nat.one_mul]
         _≤n.toNat * i.size:=Nat.mul_le_mul_right _ hq
       have Ek:j < ze.cells.size:=by omega
       have Y2:(q * i.size+j) % ze.cells.size=j:=by rw [hzl,Nat.mul_comm,Nat.mul_add_mod,Nat.mod_eq_of_lt hj]
       refine ⟨ze.cells[j],?_,?_⟩
       ·rw [RF,Array.getElem?_append_left (by rw [size_zeroCells,hzl]; exact dK)]
        have O4:q * i.size+j < n.toNat * ze.cells.size:=by rw [hzl]; exact dK
        simp only [Builtin.zeroCells,Array.getElem?_map,Array.getElem?_range,O4,if_true,Option.map_some,Y2]
        rw [getElem!_pos ze.cells j Ek]
       ·have:=(q2 j (by rw [G.CV]; exact hj)).mono (S':=S) (w':=w.drew.alloc (.cells cells e)) (fun _ x=>x) hw
        rw [show ze.cells.toList.getD j undef=ze.cells[j] from by simp [List.getD,Ek]] at this
        exact this
    ·cases h
   ·cases h
  ·cases h
 ·cases h
theorem Y4 {T:List (Nat × TI)} {lb:List (Nat × bw)} {ρ:Operand→Option AV} {dst:Option Nat} {quiet:Bool} {op:Op} {r:R} (h:Mi T lb ρ dst quiet op=some r) :
  (∀ p,p∈r.ro→look lb p.1=some p.2)∧(∀ p,p∈r.mem→look lb p.1=some p.2)∧(quiet=true→r.mem=[]∧r.fo=[]):=by
 unfold Mi at h
 have nil:∀ {p:Nat × bw},p∈([]:List (Nat × bw))→look lb p.1=some p.2:=fun h=>by cases h
 have one:∀ {κ:Nat} {b:bw},look lb κ=some b→∀ p,p∈[(κ,b)]→look lb p.1=some p.2:=fun h p hp=>by simp only [List.mem_singleton] at hp; subst hp; exact h
 split at h
 ·split at h
  ·simp only [Option.some.injEq] at h; subst h; exact ⟨fun _=>nil,fun _=>nil,fun hq=>by cases hq⟩
  ·cases h
 ·split at h
  ·split at h
   ·rename_i hl _; simp only [Option.some.injEq] at h; subst h; exact ⟨fun _=>nil,one hl,fun hq=>by cases hq⟩
   ·cases h
  ·cases h
 ·split at h
  ·split at h
   ·rename_i hl
    rw [Bool.cond_eq_ite] at h
    split at h
    ·cases h
    ·simp only [Option.some.injEq] at h; subst h; exact ⟨one hl,fun _=>nil,fun hq=>by cases hq⟩
   ·cases h
  ·cases h
 ·split at h
  ·split at h
   ·rename_i VQ
    split at h
    ·rename_i hl
     simp only [Option.some.injEq] at h; subst h
     exact ⟨fun p hp=>by
      simp only [List.mem_cons,List.not_mem_nil,or_false] at hp
      rcases hp with rfl | rfl
      ·exact VQ
      ·exact hl,fun _=>nil,fun _=>⟨rfl,rfl⟩⟩
    ·cases h
   ·cases h
  ·cases h
 ·split at h
  ·split at h
   ·rename_i hl _
    rw [Bool.cond_eq_ite] at h
    split at h
    ·cases h
    ·simp only [Option.some.injEq] at h; subst h; exact ⟨fun _=>nil,one hl,fun hq=>by cases hq⟩
   ·cases h
  ·split at h
   ·simp only [Option.some.injEq] at h; subst h; exact ⟨fun _=>nil,fun _=>nil,fun hq=>by cases hq⟩
   ·cases h
  ·cases h
 ·split at h
  ·split at h
   ·simp only [Option.some.injEq] at h; subst h; exact ⟨fun _=>nil,fun _=>nil,fun _=>⟨rfl,rfl⟩⟩
   ·cases h
  ·cases h
 ·split at h
  ·split at h
   ·split at h
    ·simp only [Option.some.injEq] at h; subst h; exact ⟨fun _=>nil,fun _=>nil,fun hq=>by cases hq⟩
    ·cases h
   ·cases h
  ·cases h
 ·cases h
end
def CY:Value→Value→Bool
 | .int k a,.int k' b=>decide (k=k')&&(a == b)
 | _,_=>false
def nJ (k:Value):Nat→(Nat→Value × D)→Option Nat
 | 0,_=>none
 | n+1,f=>bif CY k (f 0).1 then some 0 else (nJ k n fun i=>f (i+1)).map (· + 1)
def EB (k:Value) (n:Nat) (f:Nat→Value × D):Bool:=(nJ k n f).isSome
def vw (k:Value) (n:Nat) (f:Nat→Value × D) (z:D):D:=match nJ k n f with | some p=>(f p).2 | none=>z
def mpN (k:Value) (n:Nat) (f:Nat→Value × D):Nat:=match nJ k n f with | some _=>n | none=>n+1
def mpF (k:Value) (x:D) (n:Nat) (f:Nat→Value × D):Nat→Value × D:=match nJ k n f with
 | some p=>fun q=>if q=p then ((f q).1,x) else f q
 | none=>fun q=>if q < n then f q else (k,x)
def XU (P:Program) (t:Nat):Option D:=match P.info? t with
 | some j=>(match j.zero with | some (.int k n)=>some (.v (.int k n)) | some (.bool b)=>some (.v (.bool b)) | _=>none)
 | none=>none
def TL (P:Program) (T:List (Nat × TI)) (lb:List (Nat × bw)) (ρ:Operand→Option AV) (dst:Option Nat) (quiet:Bool):Op→Option R
 | .mapUpdate t m k x=>(match quiet,dst,ρ m,ρ k,ρ x,look T t with
  | false,none,some (.wX κ),some (.d (.v (.int kk a))),some (.d xd),some { kind:=.map kt _,.. }=>(match look lb κ,look T kt with
   | some (.mp n f),some { kind:=.int _,.. }=>some ⟨.any,[],[(κ,.mp n f)],[(κ,.mp (mpN (.int kk a) n f) (mpF (.int kk a) xd n f))],.pr (∀ i,i < n→∃ b,(f i).1=.int kk b)⟩
   | _,_=>none)
  | _,_,_,_,_,_=>none)
 | .lookup t m k ok=>(match ρ m,ρ k,look T t with
  | some (.wX κ),some (.d (.v (.int kk a))),some { kind:=.map kt et,.. }=>(match look lb κ,look T kt,XU P et with
   | some (.mp n f),some { kind:=.int _,.. },some z=>some ⟨bif ok then .fj [.d (vw (.int kk a) n f z),.d (.v (.bool (EB (.int kk a) n f)))] else .d (vw (.int kk a) n f z),[(κ,.mp n f)],[],[],.pr (∀ i,i < n→∃ b,(f i).1=.int kk b)⟩
   | _,_,_=>none)
  | some (.Bj n f),some (.d (.v (.int kk a))),some { kind:=.map kt et,.. }=>(match look T kt,XU P et with
   | some { kind:=.int _,.. },some z=>some ⟨bif ok then .fj [.d (vw (.int kk a) n f z),.d (.v (.bool (EB (.int kk a) n f)))] else .d (vw (.int kk a) n f z),[],[],[],.pr (∀ i,i < n→∃ b,(f i).1=.int kk b)⟩
   | _,_=>none)
  | _,_,_=>none)
 | _=>none
theorem CZ {k:Value}:∀ {n:Nat} {f:Nat→Value × D},(∀ p,nJ k n f=some p→p < n∧CY k (f p).1=true)∧(nJ k n f=none→∀ i,i < n→CY k (f i).1=false)
 | 0,f=>⟨fun p h=>(by cases h),fun _ i hi=>absurd hi (by omega)⟩
 | n+1,f=>by
  have ih:=CZ (k:=k) (n:=n) (f:=fun i=>f (i+1))
  simp only [nJ]
  cases hk:CY k (f 0).1 with
  | true=>exact ⟨fun p h=>by simp only [cond_true,Option.some.injEq] at h; subst h; exact ⟨by omega,hk⟩,fun h=>(by cases h)⟩
  | false =>
   simp only [cond_false]
   refine ⟨fun p h=>?_,fun h i hi=>?_⟩
   ·cases hq:nJ k n (fun i=>f (i+1)) with
    | none=>rw [hq] at h; cases h
    | some q =>
     rw [hq] at h
     simp only [Option.map_some,Option.some.injEq] at h
     subst h
     obtain ⟨h1,h2⟩:=ih.1 q hq
     exact ⟨by omega,h2⟩
   ·have hq:nJ k n (fun i=>f (i+1))=none:=by
     cases hq:nJ k n (fun i=>f (i+1)) with
     | none=>rfl
     | some q=>rw [hq] at h; cases h
    cases i with
    | zero=>exact hk
    | succ i=>exact ih.2 hq i (by omega)
theorem Ac {ik kk:IntKind} {a:Int}:∀ (es:List MapEntry) (f:Nat→Value × D) (j:Nat),(∀ (i:Nat) (h:i < es.length),(es[i]'h).key=(f i).1∧∃ b,(f i).1=.int kk b) →
  Instr.findNow (.int ik) (.int kk a) es j=some (match nJ (.int kk a) es.length f with | some p=>(es[p]?).map (fun e=>(p+j,e.val)) | none=>none)
 | [],_,_,_=>rfl
 | e :: es,f,j,h=>by
  obtain ⟨h1,b,h2⟩:=h 0 (by simp)
  have h1:e.key=(f 0).1:=h1
  have ih:=Ac (ik:=ik) (kk:=kk) (a:=a) es (fun i=>f (i+1)) (j+1) (fun i hi=>h (i+1) (by simpa using hi))
  simp only [Instr.findNow,Instr.sameNow,h1,h2,if_true,List.length_cons,nJ,CY,decide_true,Bool.true_and]
  cases hab:(a == b) with
  | true=>simp
  | false =>
   simp only [ih,cond_false]
   cases hq:nJ (.int kk a) es.length (fun i=>f (i+1)) with
   | none=>simp
   | some q =>
    simp only [Option.map_some,List.getElem?_cons_succ]
    congr 2
    funext e
    simp; omega
section
variable {C : Cx} {A : M} {a : Act} {w : World} {S : Nat → Prop} {μ : Mu} {ν : Nat → Bool}
theorem aar {P:Program} {k:IntKind} {n:Int}:(Instr.keyThatStays (.int k n) (.int k n)).run P w=.ok (.int k n) w:=by
 simp [Instr.keyThatStays,Instr.sameBits]
theorem Mj {ok:Bool} {x:D} {b:Bool} {v:Value} (hv:Rel w S μ ν (.d x) v):Rel w S μ ν (bif ok then .fj [.d x,.d (.v (.bool b))] else .d x) (bif ok then .tuple #[v,.bool b] else v):=by
 cases ok with
 | false=>exact hv
 | true =>
  refine .fj rfl (fun q hq=>?_)
  match q with
  | 0=>simpa using hv
  | 1=>simpa using gF (w:=w) (S:=S) (μ:=μ) (ν:=ν) (x:=.bool b) rfl
  | q+2=>simp at hq; omega
theorem Mk {T:List (Nat × TI)} (hT:nz C.P T) {t kt et:Nat} {ik kk:IntKind} {n0:Int} {kv:Value} {z:D} {n g:Nat} {f:Nat→Value × D} {cur:Array MapEntry} {ok:Bool} {s1 b1 s2 b2:Nat} {z1 z2:List D} {q1 q2:Bool}
  (hkv:kv=.int kk n0) (ht:look T t=some { kind:=.map kt et,size:=s1,bytes:=b1,zero:=z1,eq:=q1 }) (hkt:look T kt=some { kind:=.int ik,size:=s2,bytes:=b2,zero:=z2,eq:=q2 }) (hz:XU C.P et=some z) (bT:(Ob.pr (∀ i,i < n→∃ b,(f i).1=.int kk b)).den)
  (hg:w.heap[g]? = some (.map cur n)) (jF:cur.size=n) (bL:∀ i,i < n→∃ e,cur[i]? = some e∧e.key=(f i).1∧scalar e.key=true∧e.born=i∧Rd w S (f i).2 e.val) :
  ∃ v,(Instr.lookup t (.map (some g)) kv ok).run C.P w=.ok (bif ok then .tuple #[v,.bool (EB (.int kk n0) n f)] else v) w∧Rel w S μ ν (.d (vw (.int kk n0) n f z)) v:=by
 subst hkv
 obtain ⟨ti,z0,F⟩:=aB (hT _ _ ht)
 obtain ⟨tj,zj,G⟩:=aB (hT _ _ hkt)
 have hu:=EA F.kind
 have XS:=ua G.kind
 have bT:∀ i,i < n→∃ b,(f i).1=.int kk b:=bT
 have ad1:∀ (i:Nat) (h:i < cur.toList.length),(cur.toList[i]'h).key=(f i).1∧∃ b,(f i).1=.int kk b:=fun i hi=>by
  have GK:i < n:=by simpa [jF] using hi
  obtain ⟨e,h1,h2,_⟩:=bL i GK
  have:cur.toList[i]=e:=by simpa using (Array.getElem?_eq_some_iff.1 h1).2
  rw [this]
  exact ⟨h2,bT i GK⟩
 have pH:=Ac (ik:=ik) (a:=n0) cur.toList f 0 ad1
 have nG:cur.toList.length=n:=by simpa using jF
 rw [nG] at pH
 have Z5:=fun q=>qO (w:=w) (P:=C.P) (b:=cur.isEmpty) (kk:=kk) (n:=n0) XS q
 obtain ⟨zv,hzv,hzr⟩:∃ zv,(zeroValue et).run C.P w=.ok zv w∧Rel w S μ ν (.d z) zv:=by
  unfold XU at hz
  split at hz
  ·rename_i j hj
   split at hz
   ·rename_i k' n' hjz
    simp only [Option.some.injEq] at hz
    subst hz
    exact ⟨.int k' n',by simp only [zeroValue,typeInfo,Sem.run_bind,run_program,Result.andThen_ok,hj,Sem.run_pure,hjz],gF rfl⟩
   ·rename_i b hjz
    simp only [Option.some.injEq] at hz
    subst hz
    exact ⟨.bool b,by simp only [zeroValue,typeInfo,Sem.run_bind,run_program,Result.andThen_ok,hj,Sem.run_pure,hjz],gF rfl⟩
   ·cases hz
  ·cases hz
 cases JD:nJ (.int kk n0) n f with
 | some p =>
  obtain ⟨hp,hpk⟩:=CZ.1 p JD
  obtain ⟨e,h1,h2,h3,h4,h5⟩:=bL p hp
  have h1l:cur.toList[p]? = some e:=by simpa using h1
  rw [JD] at pH
  simp only [h1l,Option.map_some,Nat.add_zero] at pH
  refine ⟨e.val,?_,by simp only [vw,JD]; exact .d h5⟩
  unfold Instr.lookup
  simp only [Sem.run_bind,run_underlying hu,Result.andThen_ok,uc hg,Sem.run_pure,Z5 9999,Instr.findKey,run_underlying XS,pH,EB,JD,Option.isSome_some]
  cases ok <;> rfl
 | none =>
  rw [JD] at pH
  simp only at pH
  refine ⟨zv,?_,by simp only [vw,JD]; exact hzr⟩
  unfold Instr.lookup
  simp only [Sem.run_bind,run_underlying hu,Result.andThen_ok,uc hg,Sem.run_pure,Z5 9999,Instr.findKey,run_underlying XS,pH,hzv,EB,JD,Option.isSome_none]
  cases ok <;> rfl
theorem TM {T:List (Nat × TI)} (hT:nz C.P T) (hs:cV C A a w S μ ν) {lb:List (Nat × bw)} {o:Oper} {ρ:Operand→Option AV} (hρ:∀ x y,ρ x=some y→Rel w S μ ν y (a.eval x)) (hd:∀ t,o.dst=some t→t < C.nt) {quiet:Bool} {r:R}
  (h:TL C.P T lb ρ o.dst quiet o.op=some r) (mO:∀ p,p∈r.ro→A.lb p.1=some p.2) (j0:∀ p,p∈r.mem→A.lb p.1=some p.2) (bT:r.ob.den) (need:List (Nat × AV)) (gs:List (Nat × Bool)) :
  o.wp C.P a w (fun a' w'=>∃ S' μ',cV C ((Tr.mk need o.dst r.v r.ro r.mem r.fo gs).apply A) a' w' S' μ' ν) (fun _ _ _=>False):=by
 unfold TL at h
 split at h
 all_goals rename_i ho
 ·-- an entry is laid
  rename_i t m k x
  split at h
  ·rename_i κ kk n0 xd kt _ _ _ _ _ dE hm hk hx ht
   split at h
   ·rename_i n f ik _ _ _ _ hl hkt
    simp only [Option.some.injEq] at h
    subst h
    rw [dE]
    have hκ:=j0 (κ,.mp n f) (by simp)
    have Pb:=hs.mem κ _ hκ
    have hv:=hρ _ _ hm
    generalize hmv:a.eval m=mv at hv
    cases hv with
    | @wX _ g cap hμ =>
     rw [hμ] at Pb
     obtain ⟨cur,hg,sQ,jF,bL⟩:=Pb.at
     obtain ⟨ti,z,F⟩:=aB (hT _ _ ht)
     obtain ⟨tj,zj,G⟩:=aB (hT _ _ hkt)
     have hu:=EA F.kind
     have XS:=ua G.kind
     have hkv:=dL (hρ _ _ hk)
     have bT:∀ i,i < n→∃ b,(f i).1=.int kk b:=bT
     have ad1:∀ (i:Nat) (h:i < cur.toList.length),(cur.toList[i]'h).key=(f i).1∧∃ b,(f i).1=.int kk b:=fun i hi=>by
      have GK:i < n:=by simpa [jF] using hi
      obtain ⟨e,h1,h2,_⟩:=bL i GK
      have:cur.toList[i]=e:=by simpa using (Array.getElem?_eq_some_iff.1 h1).2
      rw [this]
      exact ⟨h2,bT i GK⟩
     have pH:=Ac (ik:=ik) (a:=n0) cur.toList f 0 ad1
     have nG:cur.toList.length=n:=by simpa using jF
     rw [nG] at pH
     have hw:∀ o':Obj,∀ q,S q→(World.CX w g o').heap[q]? = w.heap[q]?:=fun o' q hq=>(tJ g _).block q (hs.bound q hq) (fun e=>sQ (e ▸ hq))
     have Z5:=fun q=>qO (w:=w) (P:=C.P) (b:=false) (kk:=kk) (n:=n0) XS q
     cases JD:nJ (.int kk n0) n f with
     | some p =>
      obtain ⟨hp,hpk⟩:=CZ.1 p JD
      obtain ⟨e,h1,h2,h3,h4,h5⟩:=bL p hp
      have afB:e.key=.int kk n0:=by
       obtain ⟨b,hb⟩:=bT p hp
       rw [hb] at hpk h2
       simp only [CY,decide_true,Bool.true_and,beq_iff_eq] at hpk
       rw [h2,hpk]
      have h1l:cur.toList[p]? = some e:=by simpa using h1
      rw [JD] at pH
      simp only [h1l,Option.map_some,Nat.add_zero] at pH
      have e9:(execOp a.eval o).run C.P w=.ok .skip (World.CX w g (.map (cur.modify p fun e=>{ e with key:=.int kk n0,val:=a.eval x }) n)):=by
       unfold execOp
       rw [ho]
       simp only [hmv,hkv,Sem.run_bind]
       unfold Instr.mapUpdate
       simp only [Sem.run_bind,run_underlying hu,Result.andThen_ok,uc hg,Z5 9999,Instr.findKey,run_underlying XS,pH,Sem.run_pure,h1,Option.map_some,Option.getD_some,afB,aar,TH _ hg]
      unfold Oper.wp
      rw [e9]
      refine ⟨S,μ,?_⟩
      rw [mj,dE]
      have eN:mpN (.int kk n0) n f=n:=by simp [mpN,JD]
      rw [eN]
      refine hs.RC hκ hμ (tJ g _) ⟨_,Lt _ hg,sQ,by simp [jF],fun i hi=>?_⟩
      obtain ⟨e',q1,q2,q3,q4,q5⟩:=bL i hi
      have fp:i < cur.size:=by omega
      by_cases c:i=p
      ·subst c
       rw [h1] at q1
       cases q1
       refine ⟨{ e with key:=.int kk n0,val:=a.eval x },?_,?_,rfl,q4,?_⟩
       ·simp [Array.getElem?_modify,h1]
       ·simp only [mpF,JD,if_true]
        rw [← q2,afB]
       ·simp only [mpF,JD,if_true]
        exact (iK.1 (hρ _ _ hx)).mono (fun _ x=>x) (hw _)
      ·refine ⟨e',?_,?_,q3,q4,?_⟩
       ·have c':¬ p=i:=fun e=>c e.symm
        simp [Array.getElem?_modify,c',q1]
       ·simp only [mpF,JD,c,if_false]; exact q2
       ·simp only [mpF,JD,c,if_false]; exact q5.mono (fun _ x=>x) (hw _)
     | none =>
      rw [JD] at pH
      simp only at pH
      have e9:(execOp a.eval o).run C.P w=.ok .skip (World.CX w g (.map (cur.push { key:=.int kk n0,val:=a.eval x,born:=n }) (n+1))):=by
       have h1:=Mh (x:=a.eval x) hu XS hg pH
       unfold execOp
       rw [ho]
       simp only [hmv,hkv,Sem.run_bind,h1,Result.andThen_ok,Sem.run_pure]
      unfold Oper.wp
      rw [e9]
      refine ⟨S,μ,?_⟩
      rw [mj,dE]
      have eN:mpN (.int kk n0) n f=n+1:=by simp [mpN,JD]
      rw [eN]
      refine hs.RC hκ hμ (tJ g _) ⟨_,Lt _ hg,sQ,by simp [jF],fun i hi=>?_⟩
      by_cases c:i < n
      ·obtain ⟨e,h1,h2,h3,h4,h5⟩:=bL i c
       refine ⟨e,?_,by simp only [mpF,JD,c,if_true]; exact h2,h3,h4,by simp only [mpF,JD,c,if_true]; exact h5.mono (fun _ x=>x) (hw _)⟩
       rw [Array.getElem?_push,if_neg (by omega)]
       exact h1
      ·obtain rfl:i=n:=by omega
       refine ⟨_,by rw [Array.getElem?_push,if_pos jF.symm],by simp only [mpF,JD,c,if_false],rfl,rfl,?_⟩
       simp only [mpF,JD,c,if_false]
       exact (iK.1 (hρ _ _ hx)).mono (fun _ x=>x) (hw _)
   ·cases h
  ·cases h
 ·-- an entry is looked up
  rename_i t m k ok
  split at h
  ·rename_i κ kk n0 kt et _ _ _ _ hm hk ht
   split at h
   ·rename_i n f ik _ _ _ _ z hl hkt hz
    simp only [Option.some.injEq] at h
    subst h
    have hκ:=mO (κ,.mp n f) (by simp)
    have Pb:=hs.mem κ _ hκ
    have hv:=hρ _ _ hm
    generalize hmv:a.eval m=mv at hv
    cases hv with
    | @wX _ g cap hμ =>
     rw [hμ] at Pb
     obtain ⟨cur,hg,sQ,jF,bL⟩:=Pb.at
     obtain ⟨v,hrv,hv⟩:=Mk (ok:=ok) hT (dL (hρ _ _ hk)) ht hkt hz bT hg jF bL
     refine mh (τ:=Tr.mk need o.dst (bif ok then .fj [.d (vw (.int kk n0) n f z),.d (.v (.bool (EB (.int kk n0) n f)))] else .d (vw (.int kk n0) n f z)) [(κ,.mp n f)] [] [] gs) hs hd (x:=bif ok then .tuple #[v,.bool (EB (.int kk n0) n f)] else v) ?_ (Mj hv) rfl rfl rfl
     simp only [execOp,ho,hmv,Sem.run_bind,hrv,Result.andThen_ok,Sem.run_pure]
   ·cases h
  ·rename_i n f kk n0 kt et _ _ _ _ hm hk ht
   split at h
   ·rename_i ik _ _ _ _ z hkt hz
    simp only [Option.some.injEq] at h
    subst h
    have hv:=hρ _ _ hm
    generalize hmv:a.eval m=mv at hv
    cases hv with
    | @Bj _ _ g hp =>
     obtain ⟨sQ,cur,hg,jF,bL⟩:=hp
     obtain ⟨v,hrv,hv⟩:=Mk (ok:=ok) hT (dL (hρ _ _ hk)) ht hkt hz bT hg jF bL
     refine mh (τ:=Tr.mk need o.dst (bif ok then .fj [.d (vw (.int kk n0) n f z),.d (.v (.bool (EB (.int kk n0) n f)))] else .d (vw (.int kk n0) n f z)) [] [] [] gs) hs hd (x:=bif ok then .tuple #[v,.bool (EB (.int kk n0) n f)] else v) ?_ (Mj hv) rfl rfl rfl
     simp only [execOp,ho,hmv,Sem.run_bind,hrv,Result.andThen_ok,Sem.run_pure]
   ·cases h
  ·cases h
 ·cases h
theorem Ml {P:Program} {T:List (Nat × TI)} {lb:List (Nat × bw)} {ρ:Operand→Option AV} {dst:Option Nat} {quiet:Bool} {op:Op} {r:R} (h:TL P T lb ρ dst quiet op=some r) :
  (∀ p,p∈r.ro→look lb p.1=some p.2)∧(∀ p,p∈r.mem→look lb p.1=some p.2)∧(quiet=true→r.mem=[]∧r.fo=[])∧∀ k,k∈r.fo.map (·.1)→k∈r.mem.map (·.1):=by
 unfold TL at h
 have nil:∀ {p:Nat × bw},p∈([]:List (Nat × bw))→look lb p.1=some p.2:=fun h=>by cases h
 have one:∀ {κ:Nat} {b:bw},look lb κ=some b→∀ p,p∈[(κ,b)]→look lb p.1=some p.2:=fun h p hp=>by simp only [List.mem_singleton] at hp; subst hp; exact h
 split at h
 ·split at h
  ·split at h
   ·rename_i hl _; simp only [Option.some.injEq] at h; subst h; exact ⟨fun _=>nil,one hl,fun hq=>(by cases hq),fun k hk=>by simpa using hk⟩
   ·cases h
  ·cases h
 ·split at h
  ·split at h
   ·rename_i hl _ _; simp only [Option.some.injEq] at h; subst h; exact ⟨one hl,fun _=>nil,fun _=>⟨rfl,rfl⟩,fun k hk=>(by cases hk)⟩
   ·cases h
  ·split at h
   ·simp only [Option.some.injEq] at h; subst h; exact ⟨fun _=>nil,fun _=>nil,fun _=>⟨rfl,rfl⟩,fun k hk=>(by cases hk)⟩
   ·cases h
  ·cases h
 ·cases h
end
structure qD where
 n:Nat
 n':Nat
 f:Nat→List D
 f':Nat→List D
 eq:n=n'∧∀ i,i < n→wY (f i) (f' i)
structure TN where
 x:AV
 y:AV
 le:∀ w S μ ν v,Rel w S μ ν x v→Rel w S μ ν y v
structure EC where
 n:Nat
 n':Nat
 f:Nat→Value × D
 f':Nat→Value × D
 eq:n=n'∧∀ i,i < n→f i=f' i
inductive Bq where
 | flat (res:AV)
 | gen (hand:List Nat) (res:AV) (back:List (Nat × bw))
 | dn (c:qD)
 | rP (c:EC)
 | cast (d:Nat) (c:TN)
 | pur (d:Nat)
 | same (κ:Nat) (b':bw)
 | bx (hand:List Nat) (mQ:List (Nat × Nat)) (res:AV) (back:List (Nat × bw))
def looks (lb:List (Nat × bw)):List Nat→Option (List (Nat × bw))
 | []=>some []
 | k :: r=>(match look lb k,looks lb r with | some b,some l=>some ((k,b) :: l) | _,_=>none)
def Lu (res:AV) (back:List (Nat × bw)):Bool :=
 res.keys.all (fun k=>(back.map (·.1)).contains k)&&back.all (fun p=>p.2.keys.all fun k=>(back.map (·.1)).contains k)
def RG (T:List (Nat × TI)) (lb:List (Nat × bw)) (t:Nat) (ad v:AV):Option R :=
 match look T t,v.cells with
 | some i,some xs=>(match ad with
  | .ptr κ off=>(match look lb κ with
   | some (.box cs)=>bif Nat.beq xs.length i.size&&Nat.ble (off+i.size) cs.length&&vk.nI xs&&xs.all Rv then some ⟨.any,[],[(κ,.box cs)],[(κ,.box (cs.take off++xs++cs.drop (off+i.size)))],.tt⟩ else none
   | _=>none)
  | .yh κ k p off=>(match look lb κ,zo xs with
   | some (.row e k' n f),some ds=>bif Nat.beq k k'&&Nat.beq ds.length i.size&&Nat.ble (off+i.size) k&&ds.all zD then
     some ⟨.any,[],[(κ,.row e k n f)],[(κ,.row e k n fun q=>if q=p then (f p).take off++ds++(f p).drop (off+i.size) else f q)],.pr (p < n)⟩ else none
   | _,_=>none)
  | _=>none)
 | _,_=>none
def aas (lb:List (Nat × bw)) (k:Nat):AV→Option (Nat × (Nat→List D) × List (Nat × bw) × Ob)
 | .d (.sl m g)=>some (m,g,[],.pr ((∀ i,i < m→(g i).length=k)∧∀ i,i < m→(g i).all zD=true))
 | .d (.v (.slice none 0 0))=>some (0,fun _=>[],[],.tt)
 | .zm m g=>some (m,g,[],.pr ((∀ i,i < m→(g i).length=k)∧∀ i,i < m→(g i).all zD=true))
 | .own κ m=>(match look lb κ with | some (.row e k' m' g)=>bif Nat.beq k k' then some (m,g,[(κ,.row e k' m' g)],(Ob.ne m m').and (.pr (∀ i,i < m→(g i).all zD=true))) else none | _=>none)
 | _=>none
def Mm (T:List (Nat × TI)) (lb:List (Nat × bw)) (dst t:Nat) (dv sv:AV):Option R :=
 match look T t with
 | some { kind:=.slice e,.. }=>(match look T e with
  | some i=>(match aas lb i.size sv with
   | some (m,g,ro,ob)=>(match dv with
    | .d (.v (.slice none 0 0))=>some ⟨.own dst (0+m),ro,[],[(dst,.row e i.size (0+m) fun q=>if q < 0 then [] else g (q - 0))],ob.and (.pr (0+m≤maxLen∧(0+m) * i.bytes≤140737488355328))⟩
    | .own κ n=>(match look lb κ with
     | some (.row e' k n' f)=>bif Nat.beq e e'&&Nat.beq k i.size&&!Nat.beq dst κ then some ⟨.own dst (n+m),ro,[(κ,.row e' k n' f)],[(dst,.row e i.size (n+m) fun q=>if q < n then f q else g (q - n))],ob.and ((Ob.ne n n').and (.pr (n+m≤maxLen∧(n+m) * i.bytes≤140737488355328)))⟩ else none
     | _=>none)
    | _=>none)
   | none=>none)
  | none=>none)
 | _=>none
def Lv (lb:List (Nat × bw)) (κ:Nat):Bool:=match look lb κ with | some (.box _)=>true | _=>false
def aat (κ:Nat):AV→Bool
 | .ptr k 0=>Nat.beq k κ
 | _=>false
def aci (args:List AV) (hand:List Nat) (cR:List (Nat × bw)) (mQ:List (Nat × Nat)) (res:AV) (back:List (Nat × bw)):Bool :=
 mQ.all (fun p=>Nat.ble (p.1+1) args.length&&aat p.2 (args.getD p.1 default)&&Lv cR p.2&&Lv back p.2) &&
 back.all (fun q=>(mQ.map (·.2)).contains q.1||!hand.contains q.1) &&
 res.keys.all (fun k=>(back.map (·.1)).contains k&&!(mQ.map (·.2)).contains k) &&
 back.all (fun q=>q.2.keys.all fun k=>(back.map (·.1)).contains k&&!(mQ.map (·.2)).contains k)
def V8 (P:Program) (lb:List (Nat × bw)) (quiet:Bool) (cf:AV) (args:List AV):List Bq→Option (R × List Bq)
 | .flat res :: jN=>(match cf with
  | .fn f cy=>(match xh lb (args++cy) with
   | some (I2,ro,ob)=>bif fw res then some (⟨res,ro,[],[],ob.and (.pr (eC P f I2 [] res []))⟩,jN) else none
   | none=>none)
  | _=>none)
 | .gen hand res back :: jN=>(match cf with
  | .fn f cy=>(match looks lb hand with
   | some cR=>bif vk.nI (args++cy)&&Lu res back&&vk res&&(!quiet||(hand.isEmpty&&back.isEmpty))&&back.all (fun p=>!hand.contains p.1) then some (⟨res,[],cR,back,.pr (eC P f (args++cy) cR res back)⟩,jN) else none
   | none=>none)
  | _=>none)
 | .same κ b' :: jN=>(match cf with
  | .fn f cy=>(match look lb κ with
   | some b=>bif vk.nI (args++cy)&&!quiet then some (⟨.any,[],[(κ,b)],[(κ,b')],.pr (FnS P f (args++cy) κ b b')⟩,jN) else none
   | none=>none)
  | _=>none)
 | .bx hand mQ res back :: jN=>(match cf with
  | .fn f cy=>(match looks lb hand with
   | some cR=>bif vk.nI (args++cy)&&aci (args++cy) hand cR mQ res back&&vk res&&!quiet then some (⟨res,[],cR,back,.pr (FnB P f (args++cy) cR res back mQ)⟩,jN) else none
   | none=>none)
  | _=>none)
 | _=>none
def ado (quiet:Bool) (dst:Option Nat) (jN:List Bq):Option (List Bq) :=
 match quiet with
 | true=>some jN
 | false=>(match dst,jN with
  | some t,.pur d :: r=>bif Nat.beq t d then some r else none
  | _,_=>none)
def TP (P:Program) (T:List (Nat × TI)) (lb:List (Nat × bw)) (ρ:Operand→Option AV) (dst:Option Nat) (quiet:Bool) (jN:List Bq) (op:Op):Option (R × List Bq) :=
 match op with
 | .alloc t=>(match quiet,dst,look T t with | false,some d,some i=>some (⟨.ptr d 0,[],[],[(d,.box (i.zero.map .d))],.tt⟩,jN) | _,_,_=>none)
 | .box _ x=>(match quiet,dst,ρ x with
  | false,some d,some v=>(match v.cells with
   | some cs=>(match ado false (some d) jN,zo cs with
    | some ta,some ds=>some (⟨.ref ds,[],[],[],.tt⟩,ta)
    | _,_=>bif vk.nI cs&&!(AV.qB cs).contains d then some (⟨.ptr d 0,[],[],[(d,.box cs)],.tt⟩,jN) else none)
   | none=>none)
  | _,_,_=>none)
 | .buildSlice t len ps=>(match ub T (unN ρ) t len ps.toList with
  | some (e,k,ds)=>(match ado quiet dst jN with
   | some jN=>some (⟨.d (.sl len (BT k len ds)),[],[],[],.tt⟩,jN)
   | none=>(match quiet,dst with
    | false,some d=>some (⟨.own d len,[],[],[(d,.row e k len (BT k len ds))],.tt⟩,jN)
    | _,_=>none))
  | none=>none)
 | .store t ad x=>(match quiet,dst,ρ ad,ρ x with
  | false,none,some av,some v=>(match RG T lb t av v with | some r=>some (r,jN) | none=>none)
  | _,_,_,_=>none)
 | .call { callee:=.builtin .append,args:=xs,argTypes:=ts }=>(match quiet,dst,xs.toList,ts.toList with
  | false,some d,[s,x],[t,t']=>(match Nat.beq t t',ρ s,ρ x with
   | true,some dv,some sv=>(match Mm T lb d t dv sv with | some r=>some (r,jN) | none=>none)
   | _,_,_=>none)
  | _,_,_,_=>none)
 | .call { callee:=.value cf,args:=xs,.. }=>(match ρ cf,sw ρ xs.toList with
  | some c,some l=>V8 P lb quiet c l jN
  | _,_=>none)
 | .makeSlice t l c=>(match quiet,dst,look T t,ρ l,ρ c with
  | false,some d,some { kind:=.slice e,.. },some (.d (.v (.int _ n))),some (.d (.v (.int _ m)))=>(match look T e with
   | some i=>some (⟨.own d n.toNat,[],[],[(d,.row e i.size n.toNat fun _=>i.zero)],(Ob.ze n m).and (.pr (0≤n∧n.toNat≤maxLen∧n.toNat * i.bytes≤140737488355328))⟩,jN)
   | none=>none)
  | _,_,_,_,_=>none)
 | op=>(match RB T ρ op with
  | some (v,ob)=>some (⟨v,[],[],[],ob⟩,jN)
  | none=>(match evV T lb ρ op with | some (v,ro,ob)=>some (⟨v,ro,[],[],ob⟩,jN) | none=>none))
def aau (T:List (Nat × TI)) (ρ:Operand→Option AV):Op→Option (AV × Ob)
 | .build t ps=>(match look T t,z7 ρ ps.toList with
  | some { kind:=.array _ e,zero:=z,.. },some vs=>(match look T e with
   | some ie=>(match L0 (fun q=>some (q * ie.size,ie.size)) (z.map .d) vs with | some cs=>some (Tk cs,.tt) | none=>none)
   | none=>none)
  | _,_=>none)
 | .indexAddr t x i=>(match look T t,ρ x,ρ i with
  | some { kind:=.array n e,.. },some (.ptr κ off),some (.d (.v (.int _ q)))=>(match look T e with | some ie=>some (.ptr κ (off+q.toNat * ie.size),.pr (0≤q∧q < n)) | none=>none)
  | some { kind:=.array n e,.. },some (.ref cs),some (.d (.v (.int _ q)))=>(match look T e with | some ie=>some (.ref (cs.drop (q.toNat * ie.size)),.pr (0≤q∧q < n)) | none=>none)
  | _,_,_=>none)
 | _=>none
def TQ (P:Program) (T:List (Nat × TI)) (lb:List (Nat × bw)) (ρ:Operand→Option AV) (dst:Option Nat) (quiet:Bool) (jN:List Bq) (op:Op):Option (R × List Bq) :=
 match TL P T lb ρ dst quiet op with
 | some r=>some (r,jN)
 | none=>(match Mi T lb ρ dst quiet op with
 | some r=>some (r,jN)
 | none=>(match aau T ρ op with
 | some (v,ob)=>some (⟨v,[],[],[],ob⟩,jN)
 | none=>TP P T lb ρ dst quiet jN op))
def ahk:Op→Bool
 | .buildSlice .. | .slice .. | .store .. | .makeSlice .. | .convert ..=>true
 | .call { callee:=.builtin .append,.. }=>true
 | _=>false
def TS (c:qD) (r:R):Option R :=
 match r.fo with
 | [(κ,.row e k n f)]=>(match r.v with
  | .own κ' m=>bif Nat.beq κ' κ then some ⟨.own κ' c.n',r.ro,r.mem,[(κ,.row e k c.n' c.f')],r.ob.and ((Ob.ne m c.n).and ((Ob.ne n c.n).and (.fe f c.f)))⟩ else none
  | .any=>some ⟨.any,r.ro,r.mem,[(κ,.row e k c.n' c.f')],r.ob.and ((Ob.ne n c.n).and (.fe f c.f))⟩
  | _=>none)
 | []=>(match r.v with
  | .d (.sl n f)=>some ⟨.d (.sl c.n' c.f'),r.ro,r.mem,[],r.ob.and ((Ob.ne n c.n).and (.fe f c.f))⟩
  | _=>none)
 | _=>none
def TU (c:EC) (r:R):Option R :=
 match r.fo with
 | [(κ,.mp n f)]=>(match r.v with
  | .any=>some ⟨.any,r.ro,r.mem,[(κ,.mp c.n' c.f')],r.ob.and ((Ob.ne n c.n).and (.me f c.f))⟩
  | .wX q=>some ⟨.wX q,r.ro,r.mem,[(κ,.mp c.n' c.f')],r.ob.and ((Ob.ne n c.n).and (.me f c.f))⟩
  | _=>none)
 | _=>none
def adp (c:TN) (r:R):R:=⟨c.y,r.ro,r.mem,r.fo,r.ob.and (.ve r.v c.x)⟩
def aav (P:Program) (T:List (Nat × TI)) (lb:List (Nat × bw)) (ρ:Operand→Option AV) (dst:Option Nat) (quiet:Bool) (jN:List Bq) (op:Op):Option (R × List Bq) :=
 match TQ P T lb ρ dst quiet jN op with
 | some (r,Pc)=>(match ahk op,Pc with
  | true,.dn c :: V9=>(match TS c r with | some r'=>some (r',V9) | none=>some (r,Pc))
  | _,.rP c :: V9=>(match TU c r with | some r'=>some (r',V9) | none=>some (r,Pc))
  | _,.cast d c :: V9=>(match dst with | some t=>bif Nat.beq t d then some (adp c r,V9) else some (r,Pc) | none=>some (r,Pc))
  | _,_=>some (r,Pc))
 | none=>none
section
variable {C : Cx} {A : M} {a : Act} {w : World} {S : Nat → Prop} {μ : Mu} {ν : Nat → Bool}
theorem GP {lb:List (Nat × bw)}:∀ {ks:List Nat} {l:List (Nat × bw)},looks lb ks=some l→l.map (·.1)=ks
 | [],l,h=>by simp only [looks,Option.some.injEq] at h; subst h; rfl
 | k :: r,l,h=>by
  simp only [looks] at h
  cases h1:look lb k with
  | none=>rw [h1] at h; cases h
  | some b =>
   cases h2:looks lb r with
   | none=>rw [h1,h2] at h; cases h
   | some l' =>
    rw [h1,h2] at h
    simp only [Option.some.injEq] at h
    subst h
    simp [GP h2]
theorem ad2 {T:List (Nat × TI)} (hT:nz C.P T) (hs:cV C A a w S μ ν) {lb:List (Nat × bw)} {o:Oper} {ρ:Operand→Option AV} (hρ:∀ x y,ρ x=some y→Rel w S μ ν y (a.eval x)) (hd:∀ t,o.dst=some t→t < C.nt)
  {v:AV} {ro:List (Nat × bw)} {ob:Ob} (h:evV T lb ρ o.op=some (v,ro,ob)) (mO:∀ p,p∈ro→A.lb p.1=some p.2) (bT:ob.den) (need:List (Nat × AV)) (gs:List (Nat × Bool)) :
  o.wp C.P a w (fun a' w'=>∃ S' μ',cV C ((Tr.mk need o.dst v ro [] [] gs).apply A) a' w' S' μ' ν) (fun _ _ _=>False):=by
 obtain ⟨x,h1,h2⟩:=YV hT hs hρ h mO bT
 exact mh hs hd h1 h2 rfl rfl rfl
theorem RH {o:Oper} {t:TypeId} {ds:List D} {τ:Tr} (hs:cV C A a w S μ ν) (hd:∀ t,o.dst=some t→t < C.nt) {vs:Array Value}
  (e9:(execOp a.eval o).run C.P w=.ok (.value (.pointer (some ⟨w.heap.size,0,none⟩))) (w.alloc (.cells vs t))) (hr:dq w S μ ν (ds.map .d) vs.toList)
  (h0:τ.v=.ref ds) (h1:τ.dst=o.dst) (h2:τ.mem=[]) (h3:τ.fo=[]) :
  o.wp C.P a w (fun a' w'=>∃ S' μ',cV C (τ.apply A) a' w' S' μ' ν) (fun _ _ _=>False):=by
 unfold Oper.wp
 rw [e9]
 let S':Nat→Prop:=fun q=>S q∨q=w.heap.size
 have h4:=hs.world (S':=S') (w':=w.alloc (.cells vs t)) (fun _ x=>.inl x) (fun q hq=>hq.elim .inl (fun e=>.inr ⟨by omega,by rw [e]; simp⟩)) (oT w _ _)
 have hl:=hr.1
 simp only [List.length_map,Array.length_toList] at hl
 have hrd:∀ ν,Rel (w.alloc (.cells vs t)) S' μ ν (.ref ds) (.pointer (some ⟨w.heap.size,0,none⟩)):=fun ν'=>by
  refine .ref (fun j=>vs.toList.getD j undef) (fun j hj=>⟨.inr rfl,?_⟩) (fun j hj=>?_)
  ·rw [gG _ _ _ vs t (0,0) (heap_alloc_new w _)]
   have dK:j < vs.size:=by omega
   simp [List.getD,dK]
  ·have:=hr.2 j (by simpa using hj)
   rw [jZ _ j hj] at this
   exact (iK.1 this).mono (fun _ x=>.inl x) (fun q hq=>heap_alloc_old w _ (hs.bound q hq))
 have h5:=h4.put (dst:=o.dst) (x:=.ref ds) (v:=.pointer (some ⟨w.heap.size,0,none⟩)) hd (hrd ν)
 refine ⟨S',μ,?_⟩
 have e:τ.apply A=A.wZ o.dst (.ref ds):=by
  unfold Tr.apply M.wZ M.put
  rw [h0,h1,h2,h3]
  cases ho:o.dst with
  | none=>simp [look]
  | some d =>
   simp only [look,List.map_nil,List.not_mem_nil,if_false,Option.some.injEq]
   congr 1
   funext t
   by_cases c:d=t
   ·simp [c]
   ·have:¬ t=d:=fun e=>c e.symm
    simp [c,this]
 rw [e]
 exact h5
theorem TV {T:List (Nat × TI)} (hT:nz C.P T) (hs:cV C A a w S μ ν) {lb:List (Nat × bw)} {o:Oper} {ρ:Operand→Option AV} (hρ:∀ x y,ρ x=some y→Rel w S μ ν y (a.eval x)) (hd:∀ t,o.dst=some t→t < C.nt) {quiet:Bool} {jN ta:List Bq} {r:R}
  (h:TP C.P T lb ρ o.dst quiet jN o.op=some (r,ta)) (mO:∀ p,p∈r.ro→A.lb p.1=some p.2) (j0:∀ p,p∈r.mem→A.lb p.1=some p.2) (bT:r.ob.den) (vi:∀ κ,κ∈(r.fo.map (·.1)).filter (fun k=>!(r.mem.map (·.1)).contains k)→jY A κ) (need:List (Nat × AV)) (gs:List (Nat × Bool)) :
  o.wp C.P a w (fun a' w'=>∃ S' μ',cV C ((Tr.mk need o.dst r.v r.ro r.mem r.fo gs).apply A) a' w' S' μ' ν) (fun _ _ _=>False):=by
 unfold TP at h
 split at h
 all_goals rename_i ho
 ·rename_i t0
  split at h
  ·rename_i d i dE hi
   simp only [Option.some.injEq,Prod.mk.injEq] at h
   obtain ⟨rfl,-⟩:=h
   obtain ⟨ti,z,F⟩:=aB (hT _ _ hi)
   obtain ⟨q1,q2⟩:=iV (w:=w) (S:=S) F.zok
   have hz:dq w S μ ν (i.zero.map .d) z.cells.toList:=by
    refine ⟨by simpa using q1,fun j hj=>?_⟩
    simp only [List.length_map] at hj
    rw [jZ _ j hj]
    exact .d (q2 j hj)
   have hng:∀ l:List D,vk.nI (l.map AV.d)=true:=fun l=>by induction l with | nil=>rfl | cons x r ih=>simpa [vk.nI,vk] using ih
   have Wa:∀ l:List D,AV.qB (l.map AV.d)=[]:=fun l=>by induction l with | nil=>rfl | cons x r ih=>simpa [AV.qB,AV.keys] using ih
   rw [dE]
   refine Tz (t:=t0) hs dE (hd d dE) (vs:=z.cells) ?_ hz (hng _) (vi d (by simp)) (by rw [Wa]; simp)
   simp only [execOp,ho,Instr.alloc,zeroValue,typeInfo,Sem.run_bind,run_program,Result.andThen_ok,F.info,Sem.run_pure,F.zero,newVar,newRow,run_newObj]
   rfl
  ·cases h
 ·rename_i t0 x0
  split at h
  ·rename_i d v dE hx
   split at h
   ·rename_i cs hc
    split at h
    ·rename_i ta ds _ hp
     simp only [Option.some.injEq,Prod.mk.injEq] at h
     obtain ⟨rfl,-⟩:=h
     have ecs:=tZ hp
     subst ecs
     refine RH (t:=t0) (ds:=ds) hs hd ?_ (oS hc (hρ _ _ hx)) rfl rfl rfl rfl
     simp only [execOp,ho,Instr.box,newVar,newRow,Sem.run_bind,run_newObj,Result.andThen_ok,Sem.run_pure]
     rfl
    cases hb:(vk.nI cs&&!(AV.qB cs).contains d) with
    | false=>rw [hb] at h; cases h
    | true =>
     rw [hb] at h
     simp only [cond_true,Option.some.injEq,Prod.mk.injEq] at h
     obtain ⟨rfl,-⟩:=h
     simp only [Bool.and_eq_true,Bool.not_eq_true',List.contains_eq_mem,decide_eq_false_iff_not] at hb
     rw [dE]
     refine Tz (t:=t0) hs dE (hd d dE) ?_ (oS hc (hρ _ _ hx)) hb.1 (vi d (by simp)) hb.2
     simp only [execOp,ho,Instr.box,newVar,newRow,Sem.run_bind,run_newObj,Result.andThen_ok,Sem.run_pure]
     rfl
   ·cases h
  ·cases h
 ·split at h
  ·rename_i e k ds hbc
   split at h
   ·simp only [Option.some.injEq,Prod.mk.injEq] at h
    obtain ⟨rfl,-⟩:=h
    exact Me hT hs hd ho (aap hρ) hbc rfl rfl rfl rfl
   ·split at h
    ·rename_i d dE _
     simp only [Option.some.injEq,Prod.mk.injEq] at h
     obtain ⟨rfl,-⟩:=h
     rw [dE]
     exact JC hT hs dE (hd d dE) ho (aap hρ) hbc (vi d (by simp))
    ·cases h
  ·cases h
 ·split at h
  ·rename_i av v dE ZZ hv
   split at h
   ·rename_i r' jK
    simp only [Option.some.injEq,Prod.mk.injEq] at h
    obtain ⟨rfl,-⟩:=h
    rw [dE]
    unfold RG at jK
    split at jK
    ·rename_i i xs hi hc
     split at jK
     ·rename_i κ off
      split at jK
      ·rename_i cs hl
       cases hb:(Nat.beq xs.length i.size&&Nat.ble (off+i.size) cs.length&&vk.nI xs&&xs.all Rv) with
       | false=>rw [hb] at jK; cases jK
       | true =>
        rw [hb] at jK
        simp only [Bool.and_eq_true] at hb
        simp only [cond_true,Option.some.injEq] at jK
        subst jK
        exact L4 hs (hT _ _ hi) ho dE (hρ _ _ ZZ) (hρ _ _ hv) (j0 (κ,.box cs) (by simp)) hc (Nat.eq_of_beq_eq_true hb.1.1.1) (Nat.le_of_ble_eq_true hb.1.1.2) hb.1.2 hb.2 _
      ·cases jK
     ·rename_i κ k p off
      split at jK
      ·rename_i e k' n f ds hl hp
       cases hb:(Nat.beq k k'&&Nat.beq ds.length i.size&&Nat.ble (off+i.size) k&&ds.all zD) with
       | false=>rw [hb] at jK; cases jK
       | true =>
        rw [hb] at jK
        simp only [Bool.and_eq_true] at hb
        simp only [cond_true,Option.some.injEq] at jK
        subst jK
        exact L7 hs (hT _ _ hi) ho dE (hρ _ _ ZZ) (hρ _ _ hv) (j0 (κ,.row e k n f) (by simp)) hc hp (Nat.eq_of_beq_eq_true hb.1.1.2) (Nat.le_of_ble_eq_true hb.1.2) bT hb.2 _
      ·cases jK
     ·cases jK
    ·cases jK
   ·cases h
  ·cases h
 ·rename_i xs ts
  split at h
  ·rename_i d s x t t' dE hxs hts
   split at h
   ·rename_i dv sv htt hdv hsv
    split at h
    ·rename_i r' qP
     simp only [Option.some.injEq,Prod.mk.injEq] at h
     obtain ⟨rfl,-⟩:=h
     rw [dE]
     have e1:=Nat.eq_of_beq_eq_true htt
     subst e1
     have XG:o.op=.call { callee:=.builtin .append,args:=#[s,x],argTypes:=#[t,t] }:=by
      rw [ho]
      congr 2
      ·cases xs; simpa using hxs
      ·cases ts; simpa using hts
     unfold Mm at qP
     split at qP
     ·rename_i e _ _ _ _ hl
      split at qP
      ·rename_i i hi
       split at qP
       ·rename_i m g Qp El iM
        have src:El.den→(∀ p,p∈Qp→A.lb p.1=some p.2)→∃ ys,TA w S i.size m g (a.eval x) ys:=by
         intro Mn ahl
         have hr:=hρ _ _ hsv
         unfold aas at iM
         split at iM
         ·simp only [Option.some.injEq,Prod.mk.injEq] at iM
          obtain ⟨rfl,rfl,rfl,rfl⟩:=iM
          exact TB (iK.1 hr) Mn.1 Mn.2
         ·simp only [Option.some.injEq,Prod.mk.injEq] at iM
          obtain ⟨rfl,rfl,rfl,rfl⟩:=iM
          have:=cH rfl hr
          exact ⟨[],⟨⟨by simp,fun i hi=>absurd hi (by omega)⟩,fun u hu=>(by cases hu),.inl ⟨this,rfl⟩⟩⟩
         ·simp only [Option.some.injEq,Prod.mk.injEq] at iM
          obtain ⟨rfl,rfl,rfl,rfl⟩:=iM
          generalize a.eval x=xv at hr
          cases hr with
          | zm hd=>exact TB hd Mn.1 Mn.2
         ·rename_i κ m0
          split at iM
          ·rename_i e2 k2 m2 g2 ym
           cases hb:Nat.beq i.size k2 with
           | false=>rw [hb] at iM; cases iM
           | true =>
            rw [hb] at iM
            have e3:=Nat.eq_of_beq_eq_true hb
            simp only [cond_true,Option.some.injEq,Prod.mk.injEq] at iM
            obtain ⟨rfl,rfl,rfl,rfl⟩:=iM
            have VP:=ahl (κ,.row e2 k2 m2 g2) (by simp)
            obtain ⟨o5,o6⟩:=Ob.cE Mn
            rw [← e3,← (show _=_ from o5)] at VP
            exact acg hs VP hr o6
          ·cases iM
         ·cases iM
        split at qP
        ·simp only [Option.some.injEq] at qP
         subst qP
         obtain ⟨o1,o2,o3⟩:=Ob.cE bT
         obtain ⟨ys,hys⟩:=src o1 mO
         exact I0 hs dE (hd d dE) (hT _ _ hl) rfl (hT _ _ hi) XG (hρ _ _ hdv) (.nil (fun _=>[])) rfl hys o2 o3 (vi d (by simp))
        ·rename_i κ n
         split at qP
         ·rename_i e' k n' f ym
          cases hb:(Nat.beq e e'&&Nat.beq k i.size&&!Nat.beq d κ) with
          | false=>rw [hb] at qP; cases qP
          | true =>
           rw [hb] at qP
           simp only [cond_true,Option.some.injEq] at qP
           subst qP
           simp only [Bool.and_eq_true] at hb
           have e4:=Nat.eq_of_beq_eq_true hb.1.1
           have e5:=Nat.eq_of_beq_eq_true hb.1.2
           obtain ⟨o1,o7⟩:=Ob.cE bT
           obtain ⟨o2,o3,o4⟩:=Ob.cE o7
           have o2:n=n':=o2
           subst e4; subst e5; subst o2
           obtain ⟨ys,hys⟩:=src o1 mO
           have hκ:=j0 (κ,.row e i.size n f) (by simp)
           have rl:d ∉ [κ]:=fun hc=>by
            simp only [List.mem_singleton] at hc
            subst hc
            have:=hb.2
            rw [Nat.beq_refl] at this
            cases this
           exact I0 hs dE (hd d dE) (hT _ _ hl) rfl (hT _ _ hi) XG (hρ _ _ hdv) (.own hκ) rfl hys o3 o4 (vi d (by simpa using rl))
         ·cases qP
        ·cases qP
       ·cases qP
      ·cases qP
     ·cases qP
    ·cases h
   ·cases h
  ·cases h
 ·rename_i cf xs _
  split at h
  ·rename_i c l hc hl
   have lT:=mi hρ xs.toList l hl
   unfold V8 at h
   split at h
   ·rename_i res Y5
    split at h
    ·rename_i f cy
     split at h
     ·rename_i I2 Qp El hb
      cases XN:fw res with
      | false=>rw [XN] at h; cases h
      | true =>
       rw [XN] at h
       simp only [cond_true,Option.some.injEq,Prod.mk.injEq] at h
       obtain ⟨rfl,-⟩:=h
       exact Mb hs hd ho (hρ _ _ hc) lT hb mO (Ob.cE bT).1 (Ob.cE bT).2 XN rfl rfl rfl rfl
     ·cases h
    ·cases h
   ·rename_i hand res back Y5
    split at h
    ·rename_i f cy
     split at h
     ·rename_i cR ym
      cases hb:(vk.nI (l++cy)&&Lu res back&&vk res&&(!quiet||(hand.isEmpty&&back.isEmpty))&&back.all (fun p=>!hand.contains p.1)) with
      | false=>rw [hb] at h; cases h
      | true =>
       rw [hb] at h
       simp only [cond_true,Option.some.injEq,Prod.mk.injEq] at h
       obtain ⟨rfl,-⟩:=h
       simp only [Bool.and_eq_true,Lu,List.all_eq_true,List.contains_eq_mem,decide_eq_true_eq,Bool.not_eq_true',decide_eq_false_iff_not] at hb
       obtain ⟨⟨⟨⟨h1,h2,h3⟩,h4⟩,h5⟩,h6⟩:=hb
       refine Y0 hs hd ho (hρ _ _ hc) lT h1 bT j0 (fun k hk=>vi k ?_) h2 h3
       have aaw:=GP ym
       simp only [List.mem_filter,Bool.not_eq_true',List.contains_eq_mem,decide_eq_false_iff_not]
       refine ⟨hk,?_⟩
       rw [aaw]
       obtain ⟨p,hp,rfl⟩:=List.mem_map.1 hk
       exact h6 p hp
     ·cases h
    ·cases h
   ·rename_i κ b' Y5
    split at h
    ·rename_i f cy
     split at h
     ·rename_i b ym
      cases hb:(vk.nI (l++cy)&&!quiet) with
      | false=>rw [hb] at h; cases h
      | true =>
       rw [hb] at h
       simp only [cond_true,Option.some.injEq,Prod.mk.injEq] at h
       obtain ⟨rfl,-⟩:=h
       simp only [Bool.and_eq_true] at hb
       exact Md hs hd ho (hρ _ _ hc) lT hb.1 bT (j0 (κ,b) (by simp))
     ·cases h
    ·cases h
   ·rename_i hand mQ res back Y5
    split at h
    ·rename_i f cy
     split at h
     ·rename_i cR ym
      cases hb:(vk.nI (l++cy)&&aci (l++cy) hand cR mQ res back&&vk res&&!quiet) with
      | false=>rw [hb] at h; cases h
      | true =>
       rw [hb] at h
       simp only [cond_true,Option.some.injEq,Prod.mk.injEq] at h
       obtain ⟨rfl,-⟩:=h
       simp only [Bool.and_eq_true,aci,List.all_eq_true,List.contains_eq_mem,decide_eq_true_eq,Bool.not_eq_true',decide_eq_false_iff_not,Bool.or_eq_true] at hb
       obtain ⟨⟨⟨h1,⟨⟨h2,h3⟩,h4⟩,h5⟩,h6⟩,h7⟩:=hb
       have aaw:=GP ym
       have box:∀ (lb:List (Nat × bw)) κ,Lv lb κ=true→∃ cs,look lb κ=some (.box cs):=fun lb κ h=>by
        unfold Lv at h
        split at h
        ·exact ⟨_,by assumption⟩
        ·cases h
       have ptr:∀ κ x,aat κ x=true→x=.ptr κ 0:=fun κ x h=>by
        unfold aat at h
        split at h
        ·rw [Nat.eq_of_beq_eq_true h]
        ·cases h
       refine RA hs hd ho (hρ _ _ hc) lT h1 bT (fun p hp=>?_) j0 (fun k hk hn=>vi k ?_) h4 h5
       ·obtain ⟨⟨⟨a1,a2⟩,a3⟩,a4⟩:=h2 p hp
        exact ⟨Nat.le_of_ble_eq_true a1,ptr _ _ a2,box _ _ a3,box _ _ a4⟩
       ·simp only [List.mem_filter,Bool.not_eq_true',List.contains_eq_mem,decide_eq_false_iff_not]
        refine ⟨hk,?_⟩
        rw [aaw]
        obtain ⟨p,hp,rfl⟩:=List.mem_map.1 hk
        exact (h3 p hp).resolve_left hn
     ·cases h
    ·cases h
   ·cases h
  ·cases h
 ·split at h
  ·rename_i d e _ _ _ _ kl n kc m dE ht hl hc
   split at h
   ·rename_i i hi
    simp only [Option.some.injEq,Prod.mk.injEq] at h
    obtain ⟨rfl,-⟩:=h
    have Mn:((Ob.ze n m).and (.pr (0≤n∧n.toNat≤maxLen∧n.toNat * i.bytes≤140737488355328))).den:=bT
    obtain ⟨o1,o2,o3,o4⟩:=Ob.cE Mn
    have o1:n=m:=o1
    subst o1
    rw [dE]
    exact Y1 hT hs dE (hd d dE) ho ht rfl hi (dL (hρ _ _ hl)) (dL (hρ _ _ hc)) o2 o3 o4 (vi d (by simp))
   ·cases h
  ·cases h
 ·split at h
  ·rename_i v El hv
   simp only [Option.some.injEq,Prod.mk.injEq] at h
   obtain ⟨rfl,-⟩:=h
   exact V7 hT hs hρ hd hv bT need _ gs
  ·split at h
   ·rename_i v Qp El hv
    simp only [Option.some.injEq,Prod.mk.injEq] at h
    obtain ⟨rfl,-⟩:=h
    exact ad2 hT hs hρ hd hv mO bT need gs
   ·cases h
theorem TW {T:List (Nat × TI)} (hT:nz C.P T) {o:Oper} {ρ:Operand→Option AV} (hρ:∀ x y,ρ x=some y→Rel w S μ ν y (a.eval x)) {v:AV} {ob:Ob} (h:aau T ρ o.op=some (v,ob)) (bT:ob.den) :
  ∃ x,(execOp a.eval o).run C.P w=.ok (.value x) w∧Rel w S μ ν v x:=by
 unfold aau at h
 split at h
 ·rename_i t ps ho
  split at h
  ·rename_i n e _ _ z _ vs hl hv
   split at h
   ·rename_i ie he
    split at h
    ·rename_i cs we
     simp only [Option.some.injEq,Prod.mk.injEq] at h
     obtain ⟨rfl,-⟩:=h
     obtain ⟨ti,zz,F⟩:=aB (hT t _ hl)
     have hu:=yk F.kind
     obtain ⟨te,ze,G⟩:=aB (hT e _ he)
     have jF:(sizeOf e).run C.P w=.ok ie.size w:=by simp [sizeOf,typeInfo,G.info,G.size]
     obtain ⟨q1,q2⟩:=iV (w:=w) (S:=S) F.zok
     have hz:dq w S μ ν (z.map .d) zz.cells.toList:=by
      refine ⟨by simpa using q1,fun i hi=>?_⟩
      simp only [List.length_map] at hi
      rw [jZ z i hi]
      exact .d (q2 i hi)
     obtain ⟨v1,v2⟩:=yq hρ ps.toList vs hv
     obtain ⟨L1,hf,hr⟩:=Bm (fun q=>some (q * ie.size,ie.size)) vs (ps.toList.map fun p=>(p.1,a.eval p.2)) (z.map .d) cs zz.cells hz v1 v2 we
     refine ⟨.agg L1,?_,Bl (by have:=hr.1; simpa using this) (fun i hi=>by rw [cM]; exact hr.2 i hi)⟩
     have hps:(ps.map fun (i,x)=>(i,a.eval x)).toList=ps.toList.map fun p=>(p.1,a.eval p.2):=by simp
     simp only [execOp,ho,Instr.build,Sem.run_bind,zeroValue,typeInfo,run_program,Result.andThen_ok,F.info,Sem.run_pure,F.zero,run_underlying hu,jF,hps]
     rw [hf]
     simp
    ·cases h
   ·cases h
  ·cases h
 ·rename_i t x i ho
  split at h
  ·rename_i n e _ _ _ _ κ off kk q hl hx hi
   split at h
   ·rename_i ie he
    simp only [Option.some.injEq,Prod.mk.injEq] at h
    obtain ⟨rfl,rfl⟩:=h
    have bT:0≤q∧q < n:=bT
    obtain ⟨ti,zz,F⟩:=aB (hT t _ hl)
    have hu:=yk F.kind
    obtain ⟨te,ze,G⟩:=aB (hT e _ he)
    have jF:(sizeOf e).run C.P w=.ok ie.size w:=by simp [sizeOf,typeInfo,G.info,G.size]
    have hxv:=hρ _ _ hx
    have Z3:=dL (hρ _ _ hi)
    generalize ZZ:a.eval x=av at hxv
    cases hxv with
    | @ptr _ _ g cap hμ =>
     refine ⟨.pointer (some ⟨g,off+q.toNat * ie.size,none⟩),?_,.ptr hμ⟩
     simp [execOp,ho,ZZ,Z3,Instr.indexAt,asIntOf,run_underlying hu,Instr.sureAddr,bT,jF,ia]
   ·cases h
  ·rename_i n e _ _ _ _ cs kk q hl hx hi
   split at h
   ·rename_i ie he
    simp only [Option.some.injEq,Prod.mk.injEq] at h
    obtain ⟨rfl,rfl⟩:=h
    have bT:0≤q∧q < n:=bT
    obtain ⟨ti,zz,F⟩:=aB (hT t _ hl)
    have hu:=yk F.kind
    obtain ⟨te,ze,G⟩:=aB (hT e _ he)
    have jF:(sizeOf e).run C.P w=.ok ie.size w:=by simp [sizeOf,typeInfo,G.info,G.size]
    have hxv:=hρ _ _ hx
    have Z3:=dL (hρ _ _ hi)
    generalize ZZ:a.eval x=av at hxv
    cases hxv with
    | @ref _ b o' df bL hr =>
     refine ⟨.pointer (some ⟨b,o'+q.toNat * ie.size,none⟩),?_,.ref (fun j=>df (q.toNat * ie.size+j)) (fun j hj=>?_) (fun j hj=>?_)⟩
     ·simp [execOp,ho,ZZ,Z3,Instr.indexAt,asIntOf,run_underlying hu,Instr.sureAddr,bT,jF,ia]
     ·simp only [List.length_drop] at hj
      have:=bL (q.toNat * ie.size+j) (by omega)
      rw [← Nat.add_assoc] at this
      exact this
     ·simp only [List.length_drop] at hj
      have:=hr (q.toNat * ie.size+j) (by omega)
      simpa [List.getD] using this
   ·cases h
  ·cases h
 ·cases h
theorem kG {T:List (Nat × TI)} (hT:nz C.P T) (hs:cV C A a w S μ ν) {lb:List (Nat × bw)} {o:Oper} {ρ:Operand→Option AV} (hρ:∀ x y,ρ x=some y→Rel w S μ ν y (a.eval x)) (hd:∀ t,o.dst=some t→t < C.nt) {quiet:Bool} {jN ta:List Bq} {r:R}
  (h:TQ C.P T lb ρ o.dst quiet jN o.op=some (r,ta)) (mO:∀ p,p∈r.ro→A.lb p.1=some p.2) (j0:∀ p,p∈r.mem→A.lb p.1=some p.2) (bT:r.ob.den) (vi:∀ κ,κ∈(r.fo.map (·.1)).filter (fun k=>!(r.mem.map (·.1)).contains k)→jY A κ) (need:List (Nat × AV)) (gs:List (Nat × Bool)) :
  o.wp C.P a w (fun a' w'=>∃ S' μ',cV C ((Tr.mk need o.dst r.v r.ro r.mem r.fo gs).apply A) a' w' S' μ' ν) (fun _ _ _=>False):=by
 unfold TQ at h
 split at h
 ·rename_i r' hm
  simp only [Option.some.injEq,Prod.mk.injEq] at h
  obtain ⟨rfl,-⟩:=h
  exact TM hT hs hρ hd hm mO j0 bT need gs
 split at h
 ·rename_i r' hm
  simp only [Option.some.injEq,Prod.mk.injEq] at h
  obtain ⟨rfl,-⟩:=h
  exact RE hT hs hρ hd hm mO j0 bT vi need gs
 split at h
 ·rename_i v ob hm
  simp only [Option.some.injEq,Prod.mk.injEq] at h
  obtain ⟨rfl,-⟩:=h
  obtain ⟨x,h1,h2⟩:=TW hT hρ hm bT
  exact mh hs hd h1 h2 rfl rfl rfl
 ·exact TV hT hs hρ hd h mO j0 bT vi need gs
theorem aax {α:Type} (k:Nat) (x:α) (r:List (Nat × α)) (t:Nat):look ((k,x) :: r) t=if k=t then some x else look r t:=by
 simp only [look]
 cases hb:Nat.beq k t with
 | true=>simp [Nat.eq_of_beq_eq_true hb]
 | false =>
  have:¬ k=t:=fun e=>by rw [e,Nat.beq_refl] at hb; cases hb
  simp [this]
theorem cV.weaken {B:M} (h:cV C A a w S μ ν) (VN:∀ t v,Rel w S μ ν (A.sl t) v→Rel w S μ ν (B.sl t) v) (VP:∀ κ b',B.lb κ=some b'→∃ b,A.lb κ=some b∧∀ y,hZ w S μ b y→hZ w S μ b' y):cV C B a w S μ ν:=by
 refine ⟨h.tmps,h.defers,fun t=>VN t _ (h.dG t),fun κ b hb=>?_,fun κ κ' b b' g c c' hb mP hm Ad=>?_,fun κ b g c hb hm=>?_,h.eB,h.fresh,h.bound,h.kept⟩
 ·obtain ⟨d,h1,h2⟩:=VP κ b hb
  exact h2 _ (h.mem κ d h1)
 ·obtain ⟨d,h1,_⟩:=VP κ b hb
  obtain ⟨d',h1',_⟩:=VP κ' b' mP
  exact h.inj κ κ' d d' g c c' h1 h1' hm Ad
 ·obtain ⟨d,h1,_⟩:=VP κ b hb
  exact h.own κ d g c h1 hm
theorem aay {e k n n':Nat} {f f':Nat→List D} (hn:n=n') (hf:∀ i,i < n→wY (f i) (f' i)) (y:Option (Option (Nat × Nat))) (h:hZ w S μ (.row e k n f) y):hZ w S μ (.row e k n' f') y:=by
 subst hn
 cases y with
 | none=>exact h
 | some y =>
  cases y with
  | none=>exact h
  | some gc =>
   obtain ⟨g,c⟩:=gc
   obtain ⟨cur,q1,q2,q3,q4,q5,q6⟩:=h.at
   refine dg.ok ⟨cur,q1,q2,q3,q4,q5,fun i hi=>?_⟩
   obtain ⟨z1,z2⟩:=q6 i hi
   refine ⟨(hf i hi).1 ▸ z1,fun j hj=>?_⟩
   obtain ⟨x,x1,x2⟩:=z2 j hj
   exact ⟨x,x1,(hf i hi).2 j (by omega) _ _ _ x2⟩
theorem Y6 {c:qD} {r r':R} (h:TS c r=some r') (bT:r'.ob.den):r.ob.den∧r'.ro=r.ro∧r'.mem=r.mem∧r'.fo.map (·.1)=r.fo.map (·.1) ∧
  ∀ {A:M} {dst:Option Nat} {need:List (Nat × AV)} {gs:List (Nat × Bool)} {a:Act} {w:World} {S:Nat→Prop} {μ:Mu} {ν:Nat→Bool},cV C ((Tr.mk need dst r.v r.ro r.mem r.fo gs).apply A) a w S μ ν→cV C ((Tr.mk need dst r'.v r'.ro r'.mem r'.fo gs).apply A) a w S μ ν:=by
 obtain ⟨cn,ce⟩:=c.eq
 obtain ⟨v,ro,mem,fo,ob⟩:=r
 unfold TS at h
 split at h
 ·rename_i κ e k n f j0
  dsimp only at j0
  subst j0
  have blk:n=c.n→f=c.f→∀ {A:M} {dst:Option Nat} {need:List (Nat × AV)} {gs:List (Nat × Bool)} {a:Act} {w:World} {S:Nat→Prop} {μ:Mu} {ν:Nat→Bool} {x y:AV},(∀ v,Rel w S μ ν x v→Rel w S μ ν y v)→cV C ((Tr.mk need dst x ro mem [(κ,.row e k n f)] gs).apply A) a w S μ ν→cV C ((Tr.mk need dst y ro mem [(κ,.row e k c.n' c.f')] gs).apply A) a w S μ ν:=by
   intro hn hf A dst need gs a w S μ ν x y hxy hs
   refine hs.weaken (fun t v hv=>?_) (fun κ' b' mP=>?_)
   ·simp only [Tr.apply] at hv ⊢
    split
    ·rename_i hd
     simp only [hd,if_true] at hv
     exact hxy v hv
    ·rename_i hd
     simp only [hd,if_false] at hv
     exact hv
   ·simp only [Tr.apply,aax] at mP ⊢
    by_cases hk:κ=κ'
    ·subst hk
     simp only [if_true,Option.some.injEq] at mP ⊢
     subst mP
     exact ⟨_,rfl,fun y=>aay (hn.trans cn) (fun i hi=>by rw [hf]; exact ce i (by omega)) y⟩
    ·simp only [hk,if_false] at mP ⊢
     exact ⟨b',mP,fun _ h=>h⟩
  split at h
  ·rename_i κ' m hv
   dsimp only at hv
   subst hv
   cases hb:Nat.beq κ' κ with
   | false=>rw [hb] at h; cases h
   | true =>
    rw [hb] at h
    simp only [cond_true,Option.some.injEq] at h
    subst h
    obtain ⟨o1,o2⟩:=Ob.cE bT
    obtain ⟨o3,o4⟩:=Ob.cE o2
    obtain ⟨o5,o6⟩:=Ob.cE o4
    have o3:m=c.n:=o3
    refine ⟨o1,rfl,rfl,rfl,fun hs=>blk o5 o6 (fun v hv=>?_) hs⟩
    rw [o3,cn] at hv
    exact hv
  ·rename_i hv
   dsimp only at hv
   subst hv
   simp only [Option.some.injEq] at h
   subst h
   obtain ⟨o1,o2⟩:=Ob.cE bT
   obtain ⟨o5,o6⟩:=Ob.cE o2
   exact ⟨o1,rfl,rfl,rfl,fun hs=>blk o5 o6 (fun v hv=>hv) hs⟩
  ·cases h
 ·rename_i j0
  dsimp only at j0
  subst j0
  split at h
  ·rename_i n f hv
   dsimp only at hv
   subst hv
   simp only [Option.some.injEq] at h
   subst h
   obtain ⟨o1,o2⟩:=Ob.cE bT
   obtain ⟨o5,o6⟩:=Ob.cE o2
   have o5:n=c.n:=o5
   have o6:f=c.f:=o6
   refine ⟨o1,rfl,rfl,rfl,fun hs=>?_⟩
   refine hs.weaken (fun t v hv=>?_) (fun κ' b' mP=>⟨b',mP,fun _ h=>h⟩)
   simp only [Tr.apply] at hv ⊢
   split
   ·rename_i hd
    simp only [hd,if_true] at hv
    exact .d (su.slc (o5.trans cn) (fun i hi=>by rw [o6]; exact ce i (by omega)) _ _ _ (iK.1 hv))
   ·rename_i hd
    simp only [hd,if_false] at hv
    exact hv
  ·cases h
 ·cases h
theorem adq {n n':Nat} {f f':Nat→Value × D} (hn:n=n') (hf:∀ i,i < n→f i=f' i) (y:Option (Option (Nat × Nat))) (h:hZ w S μ (.mp n f) y):hZ w S μ (.mp n' f') y:=by
 subst hn
 cases y with
 | none=>exact h
 | some y =>
  cases y with
  | none=>exact h
  | some gc =>
   obtain ⟨g,c⟩:=gc
   obtain ⟨cur,q1,q2,q3,q4⟩:=h.at
   refine dg.ok ⟨cur,q1,q2,q3,fun i hi=>?_⟩
   rw [← hf i hi]
   exact q4 i hi
theorem Y7 {c:EC} {r r':R} (h:TU c r=some r') (bT:r'.ob.den):r.ob.den∧r'.ro=r.ro∧r'.mem=r.mem∧r'.fo.map (·.1)=r.fo.map (·.1) ∧
  ∀ {A:M} {dst:Option Nat} {need:List (Nat × AV)} {gs:List (Nat × Bool)} {a:Act} {w:World} {S:Nat→Prop} {μ:Mu} {ν:Nat→Bool},cV C ((Tr.mk need dst r.v r.ro r.mem r.fo gs).apply A) a w S μ ν→cV C ((Tr.mk need dst r'.v r'.ro r'.mem r'.fo gs).apply A) a w S μ ν:=by
 obtain ⟨cn,ce⟩:=c.eq
 obtain ⟨v,ro,mem,fo,ob⟩:=r
 unfold TU at h
 split at h
 ·rename_i κ n f j0
  dsimp only at j0
  subst j0
  split at h
  ·rename_i hv
   dsimp only at hv
   subst hv
   simp only [Option.some.injEq] at h
   subst h
   obtain ⟨o1,o2⟩:=Ob.cE bT
   obtain ⟨o5,o6⟩:=Ob.cE o2
   have o5:n=c.n:=o5
   have o6:f=c.f:=o6
   refine ⟨o1,rfl,rfl,rfl,fun hs=>?_⟩
   refine hs.weaken (fun t v hv=>hv) (fun κ' b' mP=>?_)
   simp only [Tr.apply,aax] at mP ⊢
   by_cases hk:κ=κ'
   ·subst hk
    simp only [if_true,Option.some.injEq] at mP ⊢
    subst mP
    exact ⟨_,rfl,fun y=>adq (o5.trans cn) (fun i hi=>by rw [o6]; exact ce i (by omega)) y⟩
   ·simp only [hk,if_false] at mP ⊢
    exact ⟨b',mP,fun _ h=>h⟩
  ·rename_i hv
   dsimp only at hv
   subst hv
   simp only [Option.some.injEq] at h
   subst h
   obtain ⟨o1,o2⟩:=Ob.cE bT
   obtain ⟨o5,o6⟩:=Ob.cE o2
   have o5:n=c.n:=o5
   have o6:f=c.f:=o6
   refine ⟨o1,rfl,rfl,rfl,fun hs=>?_⟩
   refine hs.weaken (fun t v hv=>hv) (fun κ' b' mP=>?_)
   simp only [Tr.apply,aax] at mP ⊢
   by_cases hk:κ=κ'
   ·subst hk
    simp only [if_true,Option.some.injEq] at mP ⊢
    subst mP
    exact ⟨_,rfl,fun y=>adq (o5.trans cn) (fun i hi=>by rw [o6]; exact ce i (by omega)) y⟩
   ·simp only [hk,if_false] at mP ⊢
    exact ⟨b',mP,fun _ h=>h⟩
  ·cases h
 ·cases h
theorem Y8 {c:TN} {r:R} (bT:(adp c r).ob.den):r.ob.den ∧
  ∀ {A:M} {dst:Option Nat} {need:List (Nat × AV)} {gs:List (Nat × Bool)} {a:Act} {w:World} {S:Nat→Prop} {μ:Mu} {ν:Nat→Bool},cV C ((Tr.mk need dst r.v r.ro r.mem r.fo gs).apply A) a w S μ ν→cV C ((Tr.mk need dst c.y r.ro r.mem r.fo gs).apply A) a w S μ ν:=by
 obtain ⟨o1,o2⟩:=Ob.cE bT
 have o2:r.v=c.x:=o2
 refine ⟨o1,fun hs=>?_⟩
 refine hs.weaken (fun t v hv=>?_) (fun κ' b' mP=>⟨b',mP,fun _ h=>h⟩)
 simp only [Tr.apply] at hv ⊢
 split
 ·rename_i hd
  simp only [hd,if_true] at hv
  rw [o2] at hv
  exact c.le _ _ _ _ _ hv
 ·rename_i hd
  simp only [hd,if_false] at hv
  exact hv
theorem Wb {T:List (Nat × TI)} (hT:nz C.P T) (hs:cV C A a w S μ ν) {lb:List (Nat × bw)} {o:Oper} {ρ:Operand→Option AV} (hρ:∀ x y,ρ x=some y→Rel w S μ ν y (a.eval x)) (hd:∀ t,o.dst=some t→t < C.nt) {quiet:Bool} {jN ta:List Bq} {r:R}
  (h:aav C.P T lb ρ o.dst quiet jN o.op=some (r,ta)) (mO:∀ p,p∈r.ro→A.lb p.1=some p.2) (j0:∀ p,p∈r.mem→A.lb p.1=some p.2) (bT:r.ob.den) (vi:∀ κ,κ∈(r.fo.map (·.1)).filter (fun k=>!(r.mem.map (·.1)).contains k)→jY A κ) (need:List (Nat × AV)) (gs:List (Nat × Bool)) :
  o.wp C.P a w (fun a' w'=>∃ S' μ',cV C ((Tr.mk need o.dst r.v r.ro r.mem r.fo gs).apply A) a' w' S' μ' ν) (fun _ _ _=>False):=by
 unfold aav at h
 split at h
 ·rename_i r0 Pc h0
  split at h
  ·rename_i c V9 _
   split at h
   ·rename_i r' hn
    simp only [Option.some.injEq,Prod.mk.injEq] at h
    obtain ⟨rfl,-⟩:=h
    obtain ⟨o1,e1,e2,e3,cX⟩:=Y6 (C:=C) hn bT
    rw [e3,e2] at vi
    rw [e1] at mO
    rw [e2] at j0
    exact Oper.wp_mono (fun a' w' hh=>let ⟨S',μ',hh⟩:=hh; ⟨S',μ',cX hh⟩) (kG hT hs hρ hd h0 mO j0 o1 vi need gs)
   ·simp only [Option.some.injEq,Prod.mk.injEq] at h
    obtain ⟨rfl,-⟩:=h
    exact kG hT hs hρ hd h0 mO j0 bT vi need gs
  ·split at h
   ·rename_i r' hn
    simp only [Option.some.injEq,Prod.mk.injEq] at h
    obtain ⟨rfl,-⟩:=h
    obtain ⟨o1,e1,e2,e3,cX⟩:=Y7 (C:=C) hn bT
    rw [e3,e2] at vi
    rw [e1] at mO
    rw [e2] at j0
    exact Oper.wp_mono (fun a' w' hh=>let ⟨S',μ',hh⟩:=hh; ⟨S',μ',cX hh⟩) (kG hT hs hρ hd h0 mO j0 o1 vi need gs)
   ·simp only [Option.some.injEq,Prod.mk.injEq] at h
    obtain ⟨rfl,-⟩:=h
    exact kG hT hs hρ hd h0 mO j0 bT vi need gs
  ·split at h
   ·generalize Nat.beq _ _=bb at h
    cases bb with
    | false =>
     simp only [cond_false,Option.some.injEq,Prod.mk.injEq] at h
     obtain ⟨rfl,-⟩:=h
     exact kG hT hs hρ hd h0 mO j0 bT vi need gs
    | true =>
     simp only [cond_true,Option.some.injEq,Prod.mk.injEq] at h
     obtain ⟨rfl,-⟩:=h
     obtain ⟨o1,cX⟩:=Y8 (C:=C) bT
     exact Oper.wp_mono (fun a' w' hh=>let ⟨S',μ',hh⟩:=hh; ⟨S',μ',cX hh⟩) (kG hT hs hρ hd h0 mO j0 o1 vi need gs)
   ·simp only [Option.some.injEq,Prod.mk.injEq] at h
    obtain ⟨rfl,-⟩:=h
    exact kG hT hs hρ hd h0 mO j0 bT vi need gs
  ·simp only [Option.some.injEq,Prod.mk.injEq] at h
   obtain ⟨rfl,-⟩:=h
   exact kG hT hs hρ hd h0 mO j0 bT vi need gs
 ·cases h
end
def acj (q p:List (Nat × Bool)):Bool:=q.all fun y=>p.any fun z=>Nat.beq y.1 z.1&&(y.2 == z.2)

def ad3 (p:List (Nat × Bool)):AV→Option AV
  | .g q a=>bif acj q p then some a else none
  | x=>some x

def TX (need:List (Nat × AV)) (p:List (Nat × Bool)):Operand→Option AV
  | .tmp t=>(match look need t with | some x=>ad3 p x | none=>none)
  | .const v=>ofConst v
  | .func f=>some (.fn f [])
  | .global g=>(match look vr.gl g with | some cs=>some (.ref cs) | none=>none)

def aaz:AV→Option (List (Nat × Bool) × Bool)
  | .d (.v (.bool e))=>some ([],e)
  | .g q (.d (.v (.bool e)))=>some (q,e)
  | _=>none

structure St where
  sl:List (Nat × AV)
  lb:List (Nat × bw)

def St.get (sl:List (Nat × AV)) (t:Nat):AV:=match look sl t with | some x=>x | none=>.any

def St.fB (st:St):M:={ sl:=St.get st.sl,lb:=look st.lb }

def slotsOf:List Operand→List Nat
  | []=>[]
  | .tmp t :: r=>t :: slotsOf r
  | _ :: r=>slotsOf r

def qQ (sl:List (Nat × AV)):List Nat→List (Nat × AV)
  | []=>[]
  | t :: r=>(t,St.get sl t) :: qQ sl r

/-- a bool on afC others aiW is aiG -/
def Y9 (gl:List (Nat × Bool)) (s:Nat) (e:Bool):List (Nat × Bool) × Ob :=
  match look gl s with
  | some e'=>(gl,.be e e')
  | none=>(gl++[(s,e)],.tt)

def RI (gl:List (Nat × Bool)):List Nat→List (Nat × Bool)
  | []=>[]
  | s :: r=>(match look gl s with | some e=>(s,e) :: RI gl r | none=>RI gl r)

def Ae (gl:List (Nat × Bool)):List (Nat × Bool)→Ob→Ob
  | [],ob=>ob
  | (s,w) :: r,ob=>(match look gl s with | some e=>(Ae gl r ob).imp e w | none=>Ae gl r ob)

def ED (p:List (Nat × Bool)) (v:AV):AV:=match p with | []=>v | _ :: _=>.g p v

def Br (ops:Array Oper) (j:Nat):Option Nat:=match ops[j]? with | some o=>o.dst | none=>none

/-- Jw aiH on afC an operation aiI -/
def pathOf (nt:Nat) (ops:Array Oper) (sl:List (Nat × AV)) (gl:List (Nat × Bool)):Option (Nat × Bool)→Option (List (Nat × Bool) × List Nat × List (Nat × Bool) × Ob)
  | none=>some ([],[],gl,.tt)
  | some (j,want)=>(match Br ops j with
    | some s=>bif Nat.ble (s+1) nt then (match aaz (St.get sl s) with
      | some (q,e)=>(match Y9 gl s e with | (TY,ob)=>some (q++[(s,want)],[s],TY,ob))
      | none=>none) else none
    | none=>none)

def aaA (need:List (Nat × AV)) (p:List (Nat × Bool)) (c x y:Operand):Option (Nat × Bool × Bool × Bool) :=
  match c with
  | .tmp s=>(match TX need p c,TX need ((s,true) :: p) x,TX need ((s,false) :: p) y with
    | some (.d (.v (.bool e))),some (.d (.v (.bool ex))),some (.d (.v (.bool ey)))=>some (s,e,ex,ey)
    | _,_,_=>none)
  | _=>none

def Wc (P:Program) (T:List (Nat × TI)) (nt:Nat) (ops:Array Oper) (st:St) (gl:List (Nat × Bool)) (jN:List Bq) (o:Oper):Option (Tr × List (Nat × Bool) × List Bq × Ob) :=
  match pathOf nt ops st.sl gl o.guard,(match o.dst with | some d=>Nat.ble (d+1) nt | none=>true) with
  | some (p,ss,gl1,BV),true =>
    (match o.op with
    | .pick c x y=>(match aaA (qQ st.sl (ss++slotsOf [c,x,y])) p c x y with
      | some (s,e,ex,ey)=>(match Y9 gl1 s e with
        | (gl2,JA)=>some (⟨qQ st.sl (ss++slotsOf [c,x,y]),o.dst,ED p (.d (.v (.bool (bif e then ex else ey)))),[],[],[],RI gl2 (s :: p.map (·.1))⟩,gl2,jN,BV.and JA))
      | none=>none)
    | op=>(match aav P T st.lb (TX (qQ st.sl (ss++slotsOf op.operands.toList)) p) o.dst (!p.isEmpty) jN op with
      | some (r,ta)=>some (⟨qQ st.sl (ss++slotsOf op.operands.toList),o.dst,ED p r.v,r.ro,r.mem,r.fo,RI gl1 (p.map (·.1))⟩,gl1,ta,BV.and (Ae gl1 p r.ob))
      | none=>none))
  | _,_=>none

def aM {α:Type} (ks:List Nat):List (Nat × α)→List (Nat × α)
  | []=>[]
  | (k,x) :: r=>bif ks.any (fun q=>Nat.beq q k) then aM ks r else (k,x) :: aM ks r

def St.apply (st:St) (τ:Tr):St :=
  { sl:=match τ.dst with | some d=>(d,τ.v) :: aM [d] st.sl | none=>st.sl
    lb:=match τ.mem,τ.fo with | [],[]=>st.lb | m,m'=>m'++aM (m.map (·.1)) st.lb }

def TZ (P:Program) (T:List (Nat × TI)) (nt:Nat) (ops:Array Oper):List Oper→St→List (Nat × Bool)→List Bq→Option (List Tr × St × List (Nat × Bool) × List Bq × Ob)
  | [],st,gl,jN=>some ([],st,gl,jN,.tt)
  | o :: r,st,gl,jN=>(match Wc P T nt ops st gl jN o with
    | some (τ,TY,ta,ob)=>(match TZ P T nt ops r (st.apply τ) TY ta with
      | some (l,st',ahm,afD,El)=>some (τ :: l,st',ahm,afD,ob.and El)
      | none=>none)
    | none=>none)

def RJ (st:St) (κ:Nat):Bool:=st.sl.all (fun p=>!p.2.keys.any (fun k=>Nat.beq k κ))&&st.lb.all (fun p=>!Nat.beq p.1 κ&&!p.2.keys.any (fun k=>Nat.beq k κ))

def adr (keep:Option (List Nat)) (t:Nat):Bool:=match keep with | some l=>l.any (fun k=>Nat.beq k t) | none=>true

def aaB (draw:Bool) (ops:Array Oper) (vj:List Tr):Bool:=match draw with | true=>Tg ops vj | false=>zV vj

def zp (keep:Option (List Nat)):List (Nat × AV)→List (Nat × AV)
  | []=>[]
  | (t,x) :: r=>bif vk x&&adr keep t then (t,x) :: zp keep r else zp keep r

def tK:List (Nat × AV)→Bool
  | []=>true
  | (t,_) :: r=>r.all (fun p=>!Nat.beq p.1 t)&&tK r

/-- a region: Jw state behind it,and YN ag6 hold -/
def pI (P:Program) (T:List (Nat × TI)) (nt:Nat) (ops:Array Oper) (draw:Bool) (keep:Option (List Nat)) (st:St) (jN:List Bq):Option (St × Ob) :=
  match TZ P T nt ops ops.toList st [] jN with
  | some (vj,st',_,[],ob)=>bif aaB draw ops vj&&vj.all (fun τ=>τ.created.all (RJ st))&&tK st'.sl then some (⟨zp keep st'.sl,st'.lb⟩,ob) else none
  | _=>none

/-! afe -/

theorem bC {α:Type} (k:Nat) (x:α) (r:List (Nat × α)) (t:Nat):look ((k,x) :: r) t=if k=t then some x else look r t:=by
  simp only [look]
  cases hb:Nat.beq k t with
  | true=>simp [Nat.eq_of_beq_eq_true hb]
  | false =>
    have:¬ k=t:=fun e=>by rw [e,Nat.beq_refl] at hb; cases hb
    simp [this]

theorem vx {α:Type} (l r:List (Nat × α)) (t:Nat):look (l++r) t=match look l t with | some x=>some x | none=>look r t:=by
  induction l with
  | nil=>rfl
  | cons p l ih =>
    obtain ⟨k,x⟩:=p
    simp only [List.cons_append,bC]
    split
    · rfl
    · exact ih

theorem mn {α:Type} (ks:List Nat) (l:List (Nat × α)) (t:Nat):look (aM ks l) t=if t∈ks then none else look l t:=by
  induction l with
  | nil=>simp [aM,look]
  | cons p l ih =>
    obtain ⟨k,x⟩:=p
    simp only [aM]
    cases hb:ks.any (fun q=>Nat.beq q k) with
    | true =>
      simp only [cond_true]
      rw [ih,bC]
      have hk:k∈ks:=by
        obtain ⟨q,hq,he⟩:=List.any_eq_true.1 hb
        rw [← Nat.eq_of_beq_eq_true he]
        exact hq
      by_cases c:k=t
      · subst c; simp [hk]
      · simp [c]
    | false =>
      simp only [cond_false,bC]
      have hk:k ∉ ks:=fun hc=>by
        have:ks.any (fun q=>Nat.beq q k)=true:=List.any_eq_true.2 ⟨k,hc,Nat.beq_refl k⟩
        rw [this] at hb
        cases hb
      by_cases c:k=t
      · subst c; simp [hk]
      · simp only [c,if_false]
        exact ih

theorem Lw (d:Nat) (v:AV) (sl:List (Nat × AV)) (t:Nat):St.get ((d,v) :: aM [d] sl) t=if d=t then v else St.get sl t:=by
  unfold St.get
  rw [bC]
  by_cases c:d=t
  · simp [c]
  · simp only [c,if_false]
    rw [mn]
    have:t ∉ [d]:=by simp; exact fun e=>c e.symm
    simp [this]

theorem St.Za (st:St) (τ:Tr):(st.apply τ).fB=τ.apply st.fB:=by
  unfold St.apply St.fB Tr.apply
  have e1:(St.get (match τ.dst with | some d=>(d,τ.v) :: aM [d] st.sl | none=>st.sl))=fun t=>if τ.dst=some t then τ.v else St.get st.sl t:=by
    funext t
    cases hd:τ.dst with
    | none=>simp
    | some d =>
      simp only [Option.some.injEq]
      exact Lw d τ.v st.sl t
  have e2:look (match τ.mem,τ.fo with | [],[]=>st.lb | m,m'=>m'++aM (m.map (·.1)) st.lb)=fun k=>match look τ.fo k with | some b=>some b | none=>if k∈τ.mem.map (·.1) then none else look st.lb k:=by
    funext k
    split
    · rename_i h1 h2
      simp [h1,h2,look]
    · rw [vx,mn]
      cases look τ.fo k <;> simp
  show M.mk (St.get _) (look _)=_
  rw [e1,e2]
  rfl

/-! Jw blocks VX an operation names are aiJ VX it has looked up -/

theorem I3 {lb:List (Nat × bw)} {x:AV} {cs:List AV} {ro:List (Nat × bw)} {ob:Ob} (h:pG lb x=some (cs,ro,ob)):∀ p,p∈ro→look lb p.1=some p.2:=by
  unfold pG at h
  split at h
  · split at h
    · rename_i hl
      simp only [Option.some.injEq,Prod.mk.injEq] at h
      obtain ⟨-,rfl,-⟩:=h
      intro p hp
      simp only [List.mem_singleton] at hp
      subst hp
      exact hl
    · cases h
  · rename_i key k i off
    split at h
    · rename_i e k' n f hl
      cases hb:Nat.beq k k' with
      | false=>rw [hb] at h; cases h
      | true =>
        rw [hb] at h
        simp only [cond_true,Option.some.injEq,Prod.mk.injEq] at h
        obtain ⟨-,rfl,-⟩:=h
        intro p hp
        simp only [List.mem_singleton] at hp
        subst hp
        exact hl
    · cases h
  · simp only [Option.some.injEq,Prod.mk.injEq] at h
    obtain ⟨-,rfl,-⟩:=h
    intro p hp
    cases hp
  · cases h

theorem bM {lb ro:List (Nat × bw)} (h:ro=[]):∀ p,p∈ro→look lb p.1=some p.2:=fun p hp=>by subst h; cases hp

theorem ad4 {T:List (Nat × TI)} {lb:List (Nat × bw)} {ρ:Operand→Option AV} {o:Op} {v:AV} {ro:List (Nat × bw)} {ob:Ob} (h:evV T lb ρ o=some (v,ro,ob)):∀ p,p∈ro→look lb p.1=some p.2:=by
  have Wd:∀ {x:AV},ok x=some (v,ro,ob)→ro=[]:=fun h=>by simp only [ok,Option.some.injEq,Prod.mk.injEq] at h; exact h.2.1.symm
  unfold evV at h
  split at h
  · split at h
    · exact bM (Wd h)
    · cases h
  · split at h
    · exact bM (Wd h)
    · cases h
  · split at h
    · split at h
      · rename_i hc
        split at h
        · simp only [Option.some.injEq,Prod.mk.injEq] at h
          obtain ⟨-,rfl,-⟩:=h
          exact I3 hc
        · cases h
      · cases h
    · cases h
  · split at h
    · unfold Lo at h
      split at h
      · split at h <;> first | exact bM (Wd h) | cases h
      · cases h
    · cases h
  · split at h
    · unfold Ru at h
      split at h
      · split at h
        · split at h
          · split at h
            · exact bM (Wd h)
            · cases h
          · cases h
        · cases h
      · cases h
    · cases h
  · split at h
    · unfold vu at h
      split at h
      · split at h
        · split at h
          · rename_i ie _ n _ m f _ _ _
            generalize hb:Nat.beq _ _=bb at h
            cases bb with
            | false=>cases h
            | true =>
              simp only [cond_true,Option.some.injEq,Prod.mk.injEq] at h
              exact bM h.2.1.symm
          · simp only [Option.some.injEq,Prod.mk.injEq] at h
            exact bM h.2.1.symm
          · cases h
        · cases h
      · cases h
    · cases h
  · split at h
    · unfold Lp at h
      split at h
      · simp only [Option.some.injEq,Prod.mk.injEq] at h
        exact bM h.2.1.symm
      · cases h
    · cases h
  · split at h
    · unfold XJ at h
      split at h
      · split at h
        · simp only [Option.some.injEq,Prod.mk.injEq] at h
          exact bM h.2.1.symm
        · simp only [Option.some.injEq,Prod.mk.injEq] at h
          exact bM h.2.1.symm
        · cases h
      · split at h
        · simp only [Option.some.injEq,Prod.mk.injEq] at h
          exact bM h.2.1.symm
        · cases h
      · split at h
        · exact bM (Wd h)
        · cases h
      · cases h
    · cases h
  · split at h
    · unfold acf at h
      split at h <;> first | exact bM (Wd h) | cases h
    · cases h
  · split at h
    · unfold VZ at h
      split at h
      · exact bM (Wd h)
      · cases h
    · cases h
  · split at h
    · unfold Bn at h
      split at h
      · split at h
        · exact bM (Wd h)
        · cases h
      · cases h
    · cases h
  · unfold Lq at h
    split at h
    · split at h
      · split at h
        · exact bM (Wd h)
        · cases h
      · cases h
    · cases h
  · split at h
    · exact bM (Wd h)
    · cases h
  · split at h
    · unfold Lr at h
      split at h
      · unfold yo at h
        split at h <;> first | exact bM (Wd h) | (simp only [Option.some.injEq,Prod.mk.injEq] at h; exact bM h.2.1.symm) | cases h
      · split at h
        · unfold Bo at h
          split at h <;> first | (simp only [Option.some.injEq,Prod.mk.injEq] at h; exact bM h.2.1.symm) | cases h
        · cases h
      · split at h
        · unfold yp at h
          split at h
          · generalize (_&&_&&_:Bool)=bb at h
            cases bb with
            | false=>cases h
            | true=>exact bM (Wd h)
          · cases h
        · cases h
      · cases h
    · cases h
  · split at h
    · unfold XK at h
      split at h <;> first | exact bM (Wd h) | cases h
    · cases h
  · split at h
    · unfold GI at h
      split at h
      · split at h
        · exact bM (Wd h)
        · cases h
      · cases h
    · cases h
  · split at h
    · unfold GI at h
      split at h
      · split at h
        · exact bM (Wd h)
        · cases h
      · cases h
    · cases h
  · cases h

theorem XV {lb:List (Nat × bw)} {x:AV} {y:D} {ro:List (Nat × bw)} {ob:Ob} (h:Ry lb x=some (y,ro,ob)):∀ p,p∈ro→look lb p.1=some p.2:=by
  unfold Ry at h
  split at h
  · simp only [Option.some.injEq,Prod.mk.injEq] at h
    exact bM h.2.1.symm
  · simp only [Option.some.injEq,Prod.mk.injEq] at h
    exact bM h.2.1.symm
  · split at h
    · rename_i hl
      simp only [Option.some.injEq,Prod.mk.injEq] at h
      obtain ⟨-,rfl,-⟩:=h
      intro p hp
      simp only [List.mem_singleton] at hp
      subst hp
      exact hl
    · cases h
  · cases h

theorem Mo {lb:List (Nat × bw)}:∀ {xs:List AV} {ys:List D} {ro:List (Nat × bw)} {ob:Ob},CE lb xs=some (ys,ro,ob)→∀ p,p∈ro→look lb p.1=some p.2
  | [],ys,ro,ob,h=>by simp only [CE,Option.some.injEq,Prod.mk.injEq] at h; exact bM h.2.1.symm
  | x :: r,ys,ro,ob,h=>by
    simp only [CE] at h
    split at h
    · rename_i h1 h2
      simp only [Option.some.injEq,Prod.mk.injEq] at h
      obtain ⟨-,rfl,-⟩:=h
      intro p hp
      rcases List.mem_append.1 hp with hp | hp
      · exact XV h1 p hp
      · exact Mo h2 p hp
    · cases h

theorem T1 {lb:List (Nat × bw)} {x y:AV} {ro:List (Nat × bw)} {ob:Ob} (h:Aa lb x=some (y,ro,ob)):∀ p,p∈ro→look lb p.1=some p.2:=by
  unfold Aa at h
  split at h
  · simp only [Option.some.injEq,Prod.mk.injEq] at h
    exact bM h.2.1.symm
  · split at h
    · rename_i hl
      split at h
      · rename_i hb
        simp only [Option.some.injEq,Prod.mk.injEq] at h
        obtain ⟨-,rfl,-⟩:=h
        intro p hp
        rcases List.mem_cons.1 hp with rfl | hp
        · exact hl
        · exact Mo hb p hp
      · cases h
    · cases h
  · split at h
    · rename_i hb
      simp only [Option.some.injEq,Prod.mk.injEq] at h
      obtain ⟨-,rfl,-⟩:=h
      exact Mo hb
    · cases h
  · split at h
    · rename_i hl
      simp only [Option.some.injEq,Prod.mk.injEq] at h
      obtain ⟨-,rfl,-⟩:=h
      intro p hp
      simp only [List.mem_singleton] at hp
      subst hp
      exact hl
    · simp only [Option.some.injEq,Prod.mk.injEq] at h
      exact bM h.2.1.symm
    · cases h
  · simp only [Option.some.injEq,Prod.mk.injEq] at h
    exact bM h.2.1.symm
  · split at h
    · rename_i hb
      simp only [Option.some.injEq,Prod.mk.injEq] at h
      obtain ⟨-,rfl,-⟩:=h
      exact XV hb
    · cases h

theorem Qt {lb:List (Nat × bw)}:∀ {xs ys:List AV} {ro:List (Nat × bw)} {ob:Ob},yu lb xs=some (ys,ro,ob)→∀ p,p∈ro→look lb p.1=some p.2
  | [],ys,ro,ob,h=>by simp only [yu,Option.some.injEq,Prod.mk.injEq] at h; exact bM h.2.1.symm
  | x :: r,ys,ro,ob,h=>by
    simp only [yu] at h
    split at h
    · rename_i h1 h2
      simp only [Option.some.injEq,Prod.mk.injEq] at h
      obtain ⟨-,rfl,-⟩:=h
      intro p hp
      rcases List.mem_append.1 hp with hp | hp
      · exact T1 h1 p hp
      · exact Qt h2 p hp
    · cases h

theorem ack {lb:List (Nat × bw)} {x y:AV} {ro:List (Nat × bw)} {ob:Ob} (h:zF lb x=some (y,ro,ob)):∀ p,p∈ro→look lb p.1=some p.2:=by
  unfold zF at h
  split at h
  · split at h
    · rename_i hb
      simp only [Option.some.injEq,Prod.mk.injEq] at h
      obtain ⟨-,rfl,-⟩:=h
      exact Qt hb
    · cases h
  · exact T1 h

theorem Mp {lb:List (Nat × bw)}:∀ {xs ys:List AV} {ro:List (Nat × bw)} {ob:Ob},xh lb xs=some (ys,ro,ob)→∀ p,p∈ro→look lb p.1=some p.2
  | [],ys,ro,ob,h=>by simp only [xh,Option.some.injEq,Prod.mk.injEq] at h; exact bM h.2.1.symm
  | x :: r,ys,ro,ob,h=>by
    simp only [xh] at h
    split at h
    · rename_i h1 h2
      simp only [Option.some.injEq,Prod.mk.injEq] at h
      obtain ⟨-,rfl,-⟩:=h
      intro p hp
      rcases List.mem_append.1 hp with hp | hp
      · exact ack h1 p hp
      · exact Mp h2 p hp
    · cases h

theorem C0 {lb:List (Nat × bw)}:∀ {ks:List Nat} {l:List (Nat × bw)},looks lb ks=some l→∀ p,p∈l→look lb p.1=some p.2
  | [],l,h=>by simp only [looks,Option.some.injEq] at h; exact bM h.symm
  | k :: r,l,h=>by
    simp only [looks] at h
    split at h
    · rename_i h1 h2
      simp only [Option.some.injEq] at h
      subst h
      intro p hp
      rcases List.mem_cons.1 hp with rfl | hp
      · exact h1
      · exact C0 h2 p hp
    · cases h

theorem T2 {P:Program} {T:List (Nat × TI)} {lb:List (Nat × bw)} {ρ:Operand→Option AV} {dst:Option Nat} {quiet:Bool} {jN ta:List Bq} {op:Op} {r:R} (h:TP P T lb ρ dst quiet jN op=some (r,ta)) :
    (∀ p,p∈r.ro→look lb p.1=some p.2)∧(∀ p,p∈r.mem→look lb p.1=some p.2)∧(quiet=true→r.mem=[]∧r.fo=[]):=by
  have one:∀ {κ:Nat} {b:bw},look lb κ=some b→∀ p,p∈[(κ,b)]→look lb p.1=some p.2:=fun hl p hp=>by
    simp only [List.mem_singleton] at hp
    subst hp
    exact hl
  unfold TP at h
  split at h
  · split at h
    · simp only [Option.some.injEq,Prod.mk.injEq] at h
      obtain ⟨rfl,-⟩:=h
      exact ⟨bM rfl,bM rfl,fun hq=>(by cases hq)⟩
    · cases h
  · split at h
    · split at h
      · split at h
        · simp only [Option.some.injEq,Prod.mk.injEq] at h
          obtain ⟨rfl,-⟩:=h
          exact ⟨bM rfl,bM rfl,fun hq=>(by cases hq)⟩
        generalize (vk.nI _&&_)=bb at h
        cases bb with
        | false=>cases h
        | true =>
          simp only [cond_true,Option.some.injEq,Prod.mk.injEq] at h
          obtain ⟨rfl,-⟩:=h
          exact ⟨bM rfl,bM rfl,fun hq=>(by cases hq)⟩
      · cases h
    · cases h
  · split at h
    · split at h
      · simp only [Option.some.injEq,Prod.mk.injEq] at h
        obtain ⟨rfl,-⟩:=h
        exact ⟨bM rfl,bM rfl,fun _=>⟨rfl,rfl⟩⟩
      · split at h
        · simp only [Option.some.injEq,Prod.mk.injEq] at h
          obtain ⟨rfl,-⟩:=h
          exact ⟨bM rfl,bM rfl,fun hq=>(by cases hq)⟩
        · cases h
    · cases h
  · split at h
    · split at h
      · rename_i r' jK
        simp only [Option.some.injEq,Prod.mk.injEq] at h
        obtain ⟨rfl,-⟩:=h
        refine ⟨?_,?_,fun hq=>(by cases hq)⟩
        all_goals
          unfold RG at jK
          split at jK
          · rename_i i xs hi hc
            split at jK
            · rename_i κ off
              split at jK
              · rename_i cs hl
                generalize (Nat.beq _ _&&_&&_&&_)=bb at jK
                cases bb with
                | false=>cases jK
                | true =>
                  simp only [cond_true,Option.some.injEq] at jK
                  subst jK
                  first | exact one hl | exact bM rfl
              · cases jK
            · split at jK
              · rename_i e k' n f ds hl hp
                generalize hb:(Nat.beq _ k'&&_&&_&&_)=bb at jK
                cases bb with
                | false=>cases jK
                | true =>
                  simp only [Bool.and_eq_true] at hb
                  have ek:=Nat.eq_of_beq_eq_true hb.1.1.1
                  subst ek
                  simp only [cond_true,Option.some.injEq] at jK
                  subst jK
                  first | exact one hl | exact bM rfl
              · cases jK
            · cases jK
          · cases jK
      · cases h
    · cases h
  · split at h
    · split at h
      · split at h
        · rename_i r' qP
          simp only [Option.some.injEq,Prod.mk.injEq] at h
          obtain ⟨rfl,-⟩:=h
          have main:(∀ p,p∈r'.ro→look lb p.1=some p.2)∧(∀ p,p∈r'.mem→look lb p.1=some p.2):=by
            unfold Mm at qP
            split at qP
            · split at qP
              · rename_i i hi
                split at qP
                · rename_i m g ro ob iM
                  have mO:∀ p,p∈ro→look lb p.1=some p.2:=by
                    unfold aas at iM
                    split at iM
                    · simp only [Option.some.injEq,Prod.mk.injEq] at iM
                      exact bM iM.2.2.1.symm
                    · simp only [Option.some.injEq,Prod.mk.injEq] at iM
                      exact bM iM.2.2.1.symm
                    · simp only [Option.some.injEq,Prod.mk.injEq] at iM
                      exact bM iM.2.2.1.symm
                    · split at iM
                      · rename_i hl
                        generalize hb:Nat.beq _ _=bb at iM
                        cases bb with
                        | false=>cases iM
                        | true =>
                          simp only [cond_true,Option.some.injEq,Prod.mk.injEq] at iM
                          obtain ⟨-,-,rfl,-⟩:=iM
                          exact one hl
                      · cases iM
                    · cases iM
                  split at qP
                  · simp only [Option.some.injEq] at qP
                    subst qP
                    exact ⟨mO,bM rfl⟩
                  · split at qP
                    · rename_i hl
                      generalize (Nat.beq _ _&&_&&_)=bb at qP
                      cases bb with
                      | false=>cases qP
                      | true =>
                        simp only [cond_true,Option.some.injEq] at qP
                        subst qP
                        exact ⟨mO,one hl⟩
                    · cases qP
                  · cases qP
                · cases qP
              · cases qP
            · cases qP
          exact ⟨main.1,main.2,fun hq=>(by cases hq)⟩
        · cases h
      · cases h
    · cases h
  · split at h
    · unfold V8 at h
      split at h
      · split at h
        · split at h
          · rename_i hb
            generalize fw _=bb at h
            cases bb with
            | false=>cases h
            | true =>
              simp only [cond_true,Option.some.injEq,Prod.mk.injEq] at h
              obtain ⟨rfl,-⟩:=h
              exact ⟨Mp hb,bM rfl,fun _=>⟨rfl,rfl⟩⟩
          · cases h
        · cases h
      · rename_i hand res back Y5
        split at h
        · split at h
          · rename_i cR ym
            generalize hb:(vk.nI _&&Lu res back&&vk res&&(!quiet||(hand.isEmpty&&back.isEmpty))&&back.all (fun p=>!hand.contains p.1))=bb at h
            cases bb with
            | false=>cases h
            | true =>
              simp only [cond_true,Option.some.injEq,Prod.mk.injEq] at h
              obtain ⟨rfl,-⟩:=h
              simp only [Bool.and_eq_true,Bool.or_eq_true,Bool.not_eq_true',List.isEmpty_iff] at hb
              refine ⟨bM rfl,C0 ym,fun hq=>?_⟩
              rcases hb.1.2 with h1 | ⟨h1,h2⟩
              · rw [hq] at h1; cases h1
              · subst h1; subst h2
                simp only [looks,Option.some.injEq] at ym
                exact ⟨ym.symm,rfl⟩
          · cases h
        · cases h
      · rename_i κ b' Y5
        split at h
        · split at h
          · rename_i b ym
            generalize hb:(vk.nI _&&!quiet)=bb at h
            cases bb with
            | false=>cases h
            | true =>
              simp only [cond_true,Option.some.injEq,Prod.mk.injEq] at h
              obtain ⟨rfl,-⟩:=h
              simp only [Bool.and_eq_true,Bool.not_eq_true'] at hb
              refine ⟨bM rfl,fun p hp=>?_,fun hq=>?_⟩
              · have:p=(κ,b):=by simpa using hp
                subst this
                exact ym
              · rw [hq] at hb; cases hb.2
          · cases h
        · cases h
      · rename_i hand mQ res back Y5
        split at h
        · split at h
          · rename_i cR ym
            generalize hb:(vk.nI _&&aci _ hand cR mQ res back&&vk res&&!quiet)=bb at h
            cases bb with
            | false=>cases h
            | true =>
              simp only [cond_true,Option.some.injEq,Prod.mk.injEq] at h
              obtain ⟨rfl,-⟩:=h
              simp only [Bool.and_eq_true,Bool.not_eq_true'] at hb
              exact ⟨bM rfl,C0 ym,fun hq=>by rw [hq] at hb; cases hb.2⟩
          · cases h
        · cases h
      · cases h
    · cases h
  · split at h
    · split at h
      · simp only [Option.some.injEq,Prod.mk.injEq] at h
        obtain ⟨rfl,-⟩:=h
        exact ⟨bM rfl,bM rfl,fun hq=>(by cases hq)⟩
      · cases h
    · cases h
  · split at h
    · simp only [Option.some.injEq,Prod.mk.injEq] at h
      obtain ⟨rfl,-⟩:=h
      exact ⟨bM rfl,bM rfl,fun _=>⟨rfl,rfl⟩⟩
    · split at h
      · rename_i hv
        simp only [Option.some.injEq,Prod.mk.injEq] at h
        obtain ⟨rfl,-⟩:=h
        exact ⟨ad4 hv,bM rfl,fun _=>⟨rfl,rfl⟩⟩
      · cases h

theorem T3 {P:Program} {T:List (Nat × TI)} {lb:List (Nat × bw)} {ρ:Operand→Option AV} {dst:Option Nat} {quiet:Bool} {jN ta:List Bq} {op:Op} {r:R} (h:TQ P T lb ρ dst quiet jN op=some (r,ta)) :
    (∀ p,p∈r.ro→look lb p.1=some p.2)∧(∀ p,p∈r.mem→look lb p.1=some p.2)∧(quiet=true→r.mem=[]∧r.fo=[]):=by
  unfold TQ at h
  split at h
  · rename_i hm
    simp only [Option.some.injEq,Prod.mk.injEq] at h
    obtain ⟨rfl,-⟩:=h
    exact ⟨(Ml hm).1,(Ml hm).2.1,(Ml hm).2.2.1⟩
  split at h
  · rename_i hm
    simp only [Option.some.injEq,Prod.mk.injEq] at h
    obtain ⟨rfl,-⟩:=h
    exact Y4 hm
  split at h
  · simp only [Option.some.injEq,Prod.mk.injEq] at h
    obtain ⟨rfl,-⟩:=h
    exact ⟨bM rfl,bM rfl,fun _=>⟨rfl,rfl⟩⟩
  · exact T2 h

theorem We {c:qD} {r r':R} (h:TS c r=some r'):r'.ro=r.ro∧r'.mem=r.mem∧(r.fo=[]→r'.fo=[]):=by
  unfold TS at h
  split at h
  · rename_i hm
    have nn:∀ {x:List (Nat × bw)},r.fo=[]→x=[]:=fun e=>by rw [hm] at e; cases e
    split at h
    · generalize Nat.beq _ _=bb at h
      cases bb with
      | false=>cases h
      | true =>
        simp only [cond_true,Option.some.injEq] at h
        subst h
        exact ⟨rfl,rfl,nn⟩
    · simp only [Option.some.injEq] at h
      subst h
      exact ⟨rfl,rfl,nn⟩
    · cases h
  · split at h
    · simp only [Option.some.injEq] at h
      subst h
      exact ⟨rfl,rfl,fun _=>rfl⟩
    · cases h
  · cases h

theorem Wf {c:EC} {r r':R} (h:TU c r=some r'):r'.ro=r.ro∧r'.mem=r.mem∧(r.fo=[]→r'.fo=[]):=by
  unfold TU at h
  split at h
  · rename_i hm
    split at h
    · simp only [Option.some.injEq] at h
      subst h
      exact ⟨rfl,rfl,fun e=>by rw [hm] at e; cases e⟩
    · simp only [Option.some.injEq] at h
      subst h
      exact ⟨rfl,rfl,fun e=>by rw [hm] at e; cases e⟩
    · cases h
  · cases h

theorem Wg {P:Program} {T:List (Nat × TI)} {lb:List (Nat × bw)} {ρ:Operand→Option AV} {dst:Option Nat} {quiet:Bool} {jN ta:List Bq} {op:Op} {r:R} (h:aav P T lb ρ dst quiet jN op=some (r,ta)) :
    (∀ p,p∈r.ro→look lb p.1=some p.2)∧(∀ p,p∈r.mem→look lb p.1=some p.2)∧(quiet=true→r.mem=[]∧r.fo=[]):=by
  unfold aav at h
  split at h
  · rename_i r0 Pc h0
    obtain ⟨q1,q2,q3⟩:=T3 h0
    split at h
    · split at h
      · rename_i r' hn
        simp only [Option.some.injEq,Prod.mk.injEq] at h
        obtain ⟨rfl,-⟩:=h
        obtain ⟨e1,e2,e3⟩:=We hn
        rw [e1,e2]
        exact ⟨q1,q2,fun hq=>⟨(q3 hq).1,e3 (q3 hq).2⟩⟩
      · simp only [Option.some.injEq,Prod.mk.injEq] at h
        obtain ⟨rfl,-⟩:=h
        exact ⟨q1,q2,q3⟩
    · split at h
      · rename_i r' hn
        simp only [Option.some.injEq,Prod.mk.injEq] at h
        obtain ⟨rfl,-⟩:=h
        obtain ⟨e1,e2,e3⟩:=Wf hn
        rw [e1,e2]
        exact ⟨q1,q2,fun hq=>⟨(q3 hq).1,e3 (q3 hq).2⟩⟩
      · simp only [Option.some.injEq,Prod.mk.injEq] at h
        obtain ⟨rfl,-⟩:=h
        exact ⟨q1,q2,q3⟩
    · split at h
      · generalize Nat.beq _ _=bb at h
        cases bb with
        | false =>
          simp only [cond_false,Option.some.injEq,Prod.mk.injEq] at h
          obtain ⟨rfl,-⟩:=h
          exact ⟨q1,q2,q3⟩
        | true =>
          simp only [cond_true,Option.some.injEq,Prod.mk.injEq] at h
          obtain ⟨rfl,-⟩:=h
          exact ⟨q1,q2,q3⟩
      · simp only [Option.some.injEq,Prod.mk.injEq] at h
        obtain ⟨rfl,-⟩:=h
        exact ⟨q1,q2,q3⟩
    · simp only [Option.some.injEq,Prod.mk.injEq] at h
      obtain ⟨rfl,-⟩:=h
      exact ⟨q1,q2,q3⟩
  · cases h

def ud (ν:Nat→Bool) (p:List (Nat × Bool)):Prop:=∀ y,y∈p→ν y.1=y.2

theorem Wh {ν:Nat→Bool} {q p:List (Nat × Bool)} (h:acj q p=true) (hp:ud ν p):ud ν q:=by
  intro y hy
  simp only [acj,List.all_eq_true,List.any_eq_true,Bool.and_eq_true,beq_iff_eq] at h
  obtain ⟨z,hz,h1,h2⟩:=h y hy
  have:=hp z hz
  rw [Nat.eq_of_beq_eq_true h1,h2]
  exact this

section
variable {C : Cx} {A : M} {a : Act} {w : World} {S : Nat → Prop} {μ : Mu} {ν : Nat → Bool}

theorem EE (hgl:gM w S) {need:List (Nat × AV)} {p:List (Nat × Bool)} (Mq:∀ q,q∈need→Rel w S μ ν q.2 (a.tmps.getD q.1 undef)) (hp:ud ν p) (x:Operand) (y:AV) (h:TX need p x=some y):Rel w S μ ν y (a.eval x):=by
  cases x with
  | tmp t =>
    simp only [TX] at h
    cases hl:look need t with
    | none=>rw [hl] at h; cases h
    | some z =>
      rw [hl] at h
      have hr:=Mq (t,z) (jd hl)
      show Rel w S μ ν y (a.tmps.getD t undef)
      simp only at h hr
      cases z with
      | g q b =>
        simp only [ad3] at h
        cases hs:acj q p with
        | false=>rw [hs] at h; cases h
        | true =>
          rw [hs] at h
          simp only [cond_true,Option.some.injEq] at h
          subst h
          cases hr with
          | g h1 _=>exact h1 (Wh hs hp)
      | _=>simp only [ad3,Option.some.injEq] at h; subst h; exact hr
  | const v=>exact Tj h
  | func f =>
    simp only [TX,Option.some.injEq] at h
    subst h
    exact .fn rfl (fun i hi=>absurd hi (by simp))
  | global g =>
    simp only [TX] at h
    cases hl:look (vr.gl) g with
    | none=>rw [hl] at h; cases h
    | some cs =>
      rw [hl] at h
      simp only [Option.some.injEq] at h
      subst h
      obtain ⟨df,h1,h2⟩:=hgl (g,cs) (jd hl)
      exact .ref df h1 h2

theorem Mr {sl:List (Nat × AV)}:∀ {ts:List Nat} {q:Nat × AV},q∈qQ sl ts→q.2=St.get sl q.1∧q.1∈ts
  | t :: r,q,h=>by
    rcases List.mem_cons.1 h with rfl | h'
    · exact ⟨rfl,List.mem_cons_self⟩
    · obtain ⟨h1,h2⟩:=Mr h'
      exact ⟨h1,List.mem_cons_of_mem _ h2⟩

theorem GQ {sl:List (Nat × AV)}:∀ {ts:List Nat} {s:Nat},s∈ts→(s,St.get sl s)∈qQ sl ts
  | t :: r,s,h=>by
    rcases List.mem_cons.1 h with rfl | h'
    · exact List.mem_cons_self
    · exact List.mem_cons_of_mem _ (GQ h')

theorem EF {gl:List (Nat × Bool)}:∀ {ss:List Nat} {q:Nat × Bool},q∈RI gl ss→look gl q.1=some q.2
  | s :: r,q,h=>by
    simp only [RI] at h
    cases hl:look gl s with
    | none=>rw [hl] at h; exact EF h
    | some e =>
      rw [hl] at h
      rcases List.mem_cons.1 h with rfl | h'
      · exact hl
      · exact EF h'

theorem Af {gl:List (Nat × Bool)} {ob:Ob}:∀ {p:List (Nat × Bool)},(Ae gl p ob).den→(∀ s e,s∈p.map (·.1)→look gl s=some e→ν s=e)→ud ν p→ob.den
  | [],h,_,_=>h
  | (s,w) :: r,h,hg,hp=>by
    simp only [Ae] at h
    have hr:∀ s e,s∈r.map (·.1)→look gl s=some e→ν s=e:=fun s e hs=>hg s e (by simp only [List.map_cons,List.mem_cons]; exact .inr hs)
    have hp':ud ν r:=fun y hy=>hp y (List.mem_cons_of_mem _ hy)
    cases hl:look gl s with
    | none=>rw [hl] at h; exact Af h hr hp'
    | some e =>
      rw [hl] at h
      exact Af (Ob.ace h (by rw [← hg s e (by simp) hl]; exact hp (s,w) List.mem_cons_self)) hr hp'

theorem Qu {gl TY:List (Nat × Bool)} {s:Nat} {e:Bool} {ob:Ob} (h:Y9 gl s e=(TY,ob)) (bT:ob.den):look TY s=some e∧∀ t x,look gl t=some x→look TY t=some x:=by
  unfold Y9 at h
  cases hl:look gl s with
  | some e' =>
    rw [hl] at h
    simp only [Prod.mk.injEq] at h
    obtain ⟨rfl,rfl⟩:=h
    simp only [Ob.den] at bT
    exact ⟨by rw [hl,bT],fun t x h=>h⟩
  | none =>
    rw [hl] at h
    simp only [Prod.mk.injEq] at h
    obtain ⟨rfl,rfl⟩:=h
    refine ⟨by rw [vx,hl]; simp [look],fun t x ht=>by rw [vx,ht]⟩

theorem T4 {ops:Array Oper} {j s:Nat} (hj:Br ops j=some s) (dK:s < a.tmps.size):yielded ops a.tmps j=match a.tmps.getD s undef with | .bool b=>some b | _=>none:=by
  unfold Br at hj
  cases ho:ops[j]? with
  | none=>rw [ho] at hj; cases hj
  | some o =>
    rw [ho] at hj
    simp only at hj
    unfold yielded
    rw [ho]
    simp only [Option.bind_some,hj,Array.getElem?_eq_getElem dK]
    have e:a.tmps.getD s undef=a.tmps[s]:=by simp [Array.getD,dK]
    rw [e]
    cases a.tmps[s] <;> rfl


theorem T5 {p:List (Nat × Bool)} {v:AV} {x:Value} (hp:ud ν p) (h:Rel w S μ ν v x):Rel w S μ ν (ED p v) x:=by
  cases p with
  | nil=>exact h
  | cons y r=>exact .g (fun _=>h) (fun hn=>absurd hp hn)

/-- Jw same ad5,with XW name for its result -/
theorem cV.rename {τ τ':Tr} {a':Act} {w':World} {S':Nat→Prop} {μ':Mu} (h:cV C (τ.apply A) a' w' S' μ' ν) (hd:τ'.dst=τ.dst) (hm:τ'.mem=τ.mem) (Ad:τ'.fo=τ.fo) (hv:∀ x,Rel w' S' μ' ν τ.v x→Rel w' S' μ' ν τ'.v x):cV C (τ'.apply A) a' w' S' μ' ν:=by
  have e:(τ'.apply A).lb=(τ.apply A).lb:=by simp only [Tr.apply,hm,Ad]
  refine ⟨h.tmps,h.defers,fun t=>?_,by rw [e]; exact h.mem,by rw [e]; exact h.inj,by rw [e]; exact h.own,h.eB,h.fresh,h.bound,h.kept⟩
  have h0:=h.dG t
  simp only [Tr.apply,hd] at h0 ⊢
  split
  · rename_i c
    simp only [c,if_true] at h0
    exact hv _ h0
  · rename_i c
    simp only [c,if_false] at h0
    exact h0

theorem RK {T:List (Nat × TI)} (hT:nz C.P T) {ops:Array Oper} {st:St} {gl TY:List (Nat × Bool)} {jN ta:List Bq} {o:Oper} {τ:Tr} {ob:Ob}
    (h:Wc C.P T C.nt ops st gl jN o=some (τ,TY,ta,ob)) (bT:ob.den) (hν:∀ s e,look TY s=some e→ν s=e) :
    Ln C ν ops o τ∧(∀ p,p∈τ.gs→ν p.1=p.2)∧En τ st.fB∧∀ t x,look gl t=some x→look TY t=some x:=by
  unfold Wc at h
  split at h
  case h_2=>cases h
  rename_i p ss gl1 BV ue dE
  have hd:∀ t,o.dst=some t→t < C.nt:=fun t ht=>by
    rw [ht] at dE
    simp only at dE
    exact Nat.lt_of_succ_le (Nat.le_of_ble_eq_true dE)
  -- Jw path
  have path:BV.den→(∀ s e,look gl1 s=some e→ν s=e)→(∀ t x,look gl t=some x→look gl1 t=some x) ∧
      ∀ (A:M) (a:Act) (w:World) (S:Nat→Prop) (μ:Mu),cV C A a w S μ ν→(∀ s,s∈ss→A.sl s=St.get st.sl s)→(Region.wanted o (yielded ops a.tmps)=true→ud ν p)∧(Region.wanted o (yielded ops a.tmps)=false→p≠[]∧¬ ud ν p):=by
    intro Ag hν1
    unfold pathOf at ue
    split at ue
    · rename_i hg
      simp only [Option.some.injEq,Prod.mk.injEq] at ue
      obtain ⟨rfl,rfl,rfl,rfl⟩:=ue
      refine ⟨fun _ _ h=>h,fun A a w S μ hs _=>⟨fun _ y hy=>(by cases hy),fun hw=>?_⟩⟩
      simp [Region.wanted,hg] at hw
    · rename_i j want hg
      split at ue
      · rename_i s YR
        cases hnt:Nat.ble (s+1) C.nt with
        | false=>rw [hnt] at ue; cases ue
        | true =>
        rw [hnt] at ue
        simp only [cond_true] at ue
        split at ue
        · rename_i q e hbo
          generalize Wi:Y9 gl s e=rg at ue
          obtain ⟨gl2,JA⟩:=rg
          simp only [Option.some.injEq,Prod.mk.injEq] at ue
          obtain ⟨rfl,rfl,rfl,rfl⟩:=ue
          obtain ⟨g1,g2⟩:=Qu Wi Ag
          refine ⟨g2,fun A a w S μ hs hss=>?_⟩
          have hνs:=hν1 s e g1
          have hsA:=hss s (by simp)
          have hr:=hs.dG s
          rw [hsA] at hr
          have dK:s < a.tmps.size:=by rw [hs.tmps]; exact Nat.lt_of_succ_le (Nat.le_of_ble_eq_true hnt)
          have hy:=T4 (a:=a) YR dK
          have afE:Region.wanted o (yielded ops a.tmps)=((match a.tmps.getD s undef with | .bool b=>some b | _=>none) == some want):=by
            unfold Region.wanted
            rw [hg]
            simp only [hy]
          rw [afE]
          unfold aaz at hbo
          split at hbo
          · rename_i V6
            simp only [Option.some.injEq,Prod.mk.injEq] at hbo
            obtain ⟨rfl,rfl⟩:=hbo
            rw [V6] at hr
            have:=nH hr
            rw [this]
            refine ⟨fun hw y hy=>?_,fun hw=>⟨by simp,fun hh=>?_⟩⟩
            · simp only [List.nil_append,List.mem_singleton] at hy
              subst hy
              simp only [beq_iff_eq,Option.some.injEq] at hw
              rw [hνs,hw]
            · have:=hh (s,want) (by simp)
              rw [hνs] at this
              simp [this] at hw
          · rename_i V6
            simp only [Option.some.injEq,Prod.mk.injEq] at hbo
            obtain ⟨rfl,rfl⟩:=hbo
            rw [V6] at hr
            generalize a.tmps.getD s undef=xv at hr ⊢
            cases hr with
            | g h1 h0 =>
              rename_i q0 e0
              by_cases hq:ud ν q0
              · have:=nH (h1 hq)
                rw [this]
                refine ⟨fun hw y hy=>?_,fun hw=>⟨by simp,fun hh=>?_⟩⟩
                · rcases List.mem_append.1 hy with hy | hy
                  · exact hq y hy
                  · simp only [List.mem_singleton] at hy
                    subst hy
                    simp only [beq_iff_eq,Option.some.injEq] at hw
                    rw [hνs,hw]
                · have:=hh (s,want) (by simp)
                  rw [hνs] at this
                  simp [this] at hw
              · have:=h0 hq
                rw [this]
                refine ⟨fun hw=>?_,fun _=>⟨by simp,fun hh=>hq (fun y hy=>hh y (List.mem_append.2 (.inl hy)))⟩⟩
                simp [undef] at hw
          · cases hbo
        · cases ue
      · cases ue
  have enN:∀ (ts:List Nat) (τ:Tr),τ.need=qQ st.sl ts→(∀ p,p∈τ.ro→st.fB.lb p.1=some p.2)→(∀ p,p∈τ.mem→st.fB.lb p.1=some p.2)→En τ st.fB:=fun ts τ hn h1 h2 =>
    ⟨fun q hq=>by rw [hn] at hq; exact (Mr hq).1.symm,h1,h2⟩
  split at h
  · -- pick
    rename_i c x y CU
    split at h
    · rename_i s e ex ey EG
      generalize Wi:Y9 gl1 s e=rg at h
      obtain ⟨gl2,JA⟩:=rg
      simp only [Option.some.injEq,Prod.mk.injEq] at h
      obtain ⟨rfl,rfl,rfl,rfl⟩:=h
      obtain ⟨Ag,BW⟩:=Ob.cE bT
      obtain ⟨r1,r2⟩:=Qu Wi BW
      obtain ⟨aaC,ad6⟩:=path Ag (fun s' e' hl=>hν s' e' (r2 s' e' hl))
      refine ⟨?_,fun q hq=>hν _ _ (EF hq),enN _ _ rfl (fun p hp=>by cases hp) (fun p hp=>by cases hp),fun t x h=>r2 t x (aaC t x h)⟩
      intro A a w S μ hs hen _ _
      have hA:∀ t,t∈ss++slotsOf [c,x,y]→A.sl t=St.get st.sl t:=fun t ht=>hen.need (t,St.get st.sl t) (GQ ht)
      obtain ⟨p1,p0⟩:=ad6 A a w S μ hs (fun s' xb=>hA s' (List.mem_append.2 (.inl xb)))
      have Mq:∀ q,q∈qQ st.sl (ss++slotsOf [c,x,y])→Rel w S μ ν q.2 (a.tmps.getD q.1 undef):=fun q hq=>by
        have:=hs.dG q.1
        rw [hen.need q hq] at this
        exact this
      split
      · rename_i hw
        have hp:=p1 hw
        have hνs:ν s=e:=hν s e r1
        unfold aaA at EG
        cases c with
        | tmp s' =>
          simp only at EG
          split at EG
          · rename_i e' ex' ey' h1 h2 h3
            simp only [Option.some.injEq,Prod.mk.injEq] at EG
            obtain ⟨rfl,rfl,rfl,rfl⟩:=EG
            have hc:=nH (EE hs.zU Mq hp _ _ h1)
            refine mh (x:=.bool (bif e' then ex' else ey')) hs hd ?_ (T5 hp (gF rfl)) rfl rfl rfl
            simp only [execOp,CU,hc,asBool,Sem.run_bind,Sem.run_pure,Result.andThen_ok]
            cases e' with
            | true =>
              have hpx:ud ν ((s',true) :: p):=fun y hy=>by
                rcases List.mem_cons.1 hy with rfl | hy
                · exact hνs
                · exact hp y hy
              have hx:=nH (EE hs.zU Mq hpx _ _ h2)
              simp [hx]
            | false =>
              have hpy:ud ν ((s',false) :: p):=fun y hy=>by
                rcases List.mem_cons.1 hy with rfl | hy
                · exact hνs
                · exact hp y hy
              have hx:=nH (EE hs.zU Mq hpy _ _ h3)
              simp [hx]
          · cases EG
        | const=>cases EG
        | global=>cases EG
        | func=>cases EG
      · rename_i hw
        obtain ⟨rl,hnp⟩:=p0 (by simpa using hw)
        refine ⟨S,μ,?_⟩
        have hr:Rel w S μ ν (ED p (.d (.v (.bool (bif e then ex else ey))))) undef:=by
          cases p with
          | nil=>exact absurd rfl rl
          | cons y r=>exact .g (fun hh=>absurd hh hnp) (fun _=>rfl)
        have h5:=hs.put (dst:=o.dst) hd hr
        have e0:(Tr.mk (qQ st.sl (ss++slotsOf [c,x,y])) o.dst (ED p (.d (.v (.bool (bif e then ex else ey))))) [] [] [] (RI gl2 (s :: p.map (·.1)))).apply A=A.wZ o.dst (ED p (.d (.v (.bool (bif e then ex else ey))))):=by
          unfold Tr.apply M.wZ M.put
          cases hdd:o.dst with
          | none=>simp [look]
          | some d =>
            simp only [look,List.map_nil,List.not_mem_nil,if_false,Option.some.injEq]
            congr 1
            funext t
            by_cases cc:d=t
            · simp [cc]
            · have:¬ t=d:=fun e=>cc e.symm
              simp [cc,this]
        rw [e0]
        exact h5
    · cases h
  · rename_i op0 hnp
    split at h
    · rename_i r Pc hev
      simp only [Option.some.injEq,Prod.mk.injEq] at h
      obtain ⟨rfl,rfl,rfl,rfl⟩:=h
      obtain ⟨Ag,BW⟩:=Ob.cE bT
      obtain ⟨aaC,ad6⟩:=path Ag hν
      have aaD:(∀ p,p∈r.ro→look st.lb p.1=some p.2)∧(∀ p,p∈r.mem→look st.lb p.1=some p.2)∧(p≠[]→r.mem=[]∧r.fo=[]):=by
        obtain ⟨q1,q2,q3⟩:=Wg hev
        exact ⟨q1,q2,fun rl=>q3 (by cases p with | nil=>exact absurd rfl rl | cons _ _=>rfl)⟩
      refine ⟨?_,fun q hq=>hν _ _ (EF hq),enN _ _ rfl aaD.1 aaD.2.1,aaC⟩
      intro A a w S μ hs hen vi _
      have hA:∀ t,t∈ss++slotsOf o.op.operands.toList→A.sl t=St.get st.sl t:=fun t ht=>hen.need (t,St.get st.sl t) (GQ ht)
      obtain ⟨p1,p0⟩:=ad6 A a w S μ hs (fun s' xb=>hA s' (List.mem_append.2 (.inl xb)))
      have Mq:∀ q,q∈qQ st.sl (ss++slotsOf o.op.operands.toList)→Rel w S μ ν q.2 (a.tmps.getD q.1 undef):=fun q hq=>by
        have:=hs.dG q.1
        rw [hen.need q hq] at this
        exact this
      split
      · rename_i hw
        have hp:=p1 hw
        have ahn:r.ob.den:=Af BW (fun s e _ hl=>hν s e hl) hp
        have:=Wb hT hs (fun x y hxy=>EE hs.zU Mq hp x y hxy) hd hev hen.ro hen.mem ahn (fun κ hκ=>vi κ hκ) (qQ st.sl (ss++slotsOf o.op.operands.toList)) (RI gl1 (p.map (·.1)))
        refine Oper.wp_mono (fun a' w' hh=>?_) this
        obtain ⟨S',μ',cX⟩:=hh
        exact ⟨S',μ',cX.rename rfl rfl rfl (fun x hx=>T5 hp hx)⟩
      · rename_i hw
        obtain ⟨rl,aho⟩:=p0 (by simpa using hw)
        obtain ⟨hm1,hm2⟩:=aaD.2.2 rl
        refine ⟨S,μ,?_⟩
        have hr:Rel w S μ ν (ED p r.v) undef:=by
          cases p with
          | nil=>exact absurd rfl rl
          | cons y r=>exact .g (fun hh=>absurd hh aho) (fun _=>rfl)
        have h5:=hs.put (dst:=o.dst) hd hr
        have e0:(Tr.mk (qQ st.sl (ss++slotsOf o.op.operands.toList)) o.dst (ED p r.v) r.ro r.mem r.fo (RI gl1 (p.map (·.1)))).apply A=A.wZ o.dst (ED p r.v):=by
          unfold Tr.apply M.wZ M.put
          simp only [hm1,hm2]
          cases hdd:o.dst with
          | none=>simp [look]
          | some d =>
            simp only [look,List.map_nil,List.not_mem_nil,if_false,Option.some.injEq]
            congr 1
            funext t
            by_cases cc:d=t
            · simp [cc]
            · have:¬ t=d:=fun e=>cc e.symm
              simp [cc,this]
        rw [e0]
        exact h5
    · cases h

end

end Go.Av
