/- Calls by contract. -/
import Derived.Test.YtcpmocecjgipbaaGreatDoorLa
import Derived.Lib.ConvBytes
set_option linter.unusedSimpArgs false
set_option linter.unusedVariables false
set_option linter.unusedSectionVars false
namespace Go.Av
open Go
variable [zr]
def ib (P:Program) (f:FuncId):Bool :=
 match P.funcs[f]? with
 | some fn=>fn.name != "runtime.NumGoroutine"&&fn.body.isSome
 | none=>false
def Handed (cZ:List (Nat × bK)) (μ:Mu) (g:Nat):Prop:=∃ κ b c,look cZ κ=some b∧μ κ=some (some (g,c))
def TE (cZ:List (Nat × bK)) (μ:Mu):Prop:=∀ κ κ' b b' g c c',look cZ κ=some b→look cZ κ'=some b'→μ κ=some (some (g,c))→μ κ'=some (some (g,c'))→κ=κ'
structure MG (w:World) (S:Nat→Prop) (T:Nat→Prop) (res:AV) (cZ:List (Nat × bK)) (v:Value) (S':Nat→Prop) (μ':Mu) (w':World):Prop where
 res:∀ ν,Rel w' S' μ' ν res v
 mem:∀ κ b,look cZ κ=some b→gF w' S' μ' b (μ' κ)
 inj:TE cZ μ'
 own:∀ κ b g c,look cZ κ=some b→μ' κ=some (some (g,c))→w.heap.size≤g∨T g
 sub:∀ b,S b→S' b
 new:∀ b,S' b→S b∨w.heap.size≤b∨T b
 bound:∀ b,S' b→b < w'.heap.size
 kept:Kept w w' T
theorem MG.TF {w w':World} {S T T' S':Nat→Prop} {res:AV} {cZ:List (Nat × bK)} {v:Value} {μ':Mu} (h:MG w S T res cZ v S' μ' w') (hT:∀ b,T b→T' b):MG w S T' res cZ v S' μ' w' :=
 ⟨h.res,h.mem,h.inj,fun κ b g c h1 h2=>(h.own κ b g c h1 h2).imp id (hT g),h.sub,fun b hb=>(h.new b hb).imp id (Or.imp id (hT b)),h.bound,h.kept.A0 hT⟩
def iU (P:Program) (f:FuncId) (args:List AV) (cZ:List (Nat × bK)) (res:AV) (gp:List (Nat × bK)):Prop :=
 ib P f=true∧∀ (w:World) (S:Nat→Prop) (μ:Mu) (vs:Array Value),(∀ b,S b→b < w.heap.size)→iZ w S→(∀ ν,dG w S μ ν args vs.toList)→(∀ κ b,look cZ κ=some b→gF w S μ b (μ κ))→TE cZ μ →
  Calls P f vs w fun e w'=>∃ v S' μ',e=.returned v∧MG w S (Handed cZ μ) res gp v S' μ' w'
theorem Ba {P:Program} {w:World} {f:FuncId} (h:ib P f=true) (args:Array Value):(callFunc f args).run P w=.ok (.enter f args) w:=by
 unfold ib at h
 cases hf:P.funcs[f]? with
 | none=>rw [hf] at h; cases h
 | some fn =>
  rw [hf] at h
  simp only [Bool.and_eq_true,bne_iff_ne,ne_eq] at h
  have h2:¬ fn.body=none:=by cases hb:fn.body <;> simp_all
  simp [callFunc,hf,h.1,h2]
section
variable {C : Cx} {A : M} {a : Act} {w : World} {S : Nat → Prop} {μ : Mu} {ν : Nat → Bool}
def flat:D→Bool
 | .v _=>true
 | .agg cs=>JX cs
 | .sl _ _=>false
where JX:List D→Bool
 | []=>true
 | .v _ :: r=>JX r
 | _ :: _=>false
theorem FN:∀ (l:List D) (i:Nat),flat.JX l=true→i < l.length→∃ x,l.getD i default=.v x
 | [],i,_,hi=>absurd hi (by simp)
 | .v x :: r,0,_,_=>⟨x,rfl⟩
 | .v x :: r,i+1,h,hi=>by simpa using FN r i (by simpa [flat.JX] using h) (by simpa using hi)
 | .agg _ :: r,_,h,_=>by simp [flat.JX] at h
 | .sl _ _ :: r,_,h,_=>by simp [flat.JX] at h
theorem QR {d:D} (h:flat d=true) {w':World} {S':Nat→Prop} {x:Value} (hr:Rd w S d x):Rd w' S' d x:=by
 cases hr with
 | v _ hs=>exact .v _ hs
 | agg cs vs hl hh =>
  refine .agg cs vs hl (fun i hi=>?_)
  obtain ⟨y,hy⟩:=FN cs i (by simpa [flat] using h) hi
  have:=hh i hi
  rw [hy] at this ⊢
  cases this with
  | v _ hs=>exact .v _ hs
 | nil=>simp [flat] at h
 | sl=>simp [flat] at h
def fJ:AV→Bool
 | .d x=>flat x
 | .ef l=>kM l
 | _=>false
where kM:List AV→Bool
 | []=>true
 | .d x :: r=>flat x&&kM r
 | _ :: _=>false
theorem DS:∀ (l:List AV) (i:Nat),fJ.kM l=true→i < l.length→∃ x,l.getD i default=.d x∧flat x=true
 | [],i,_,hi=>absurd hi (by simp)
 | .d x :: r,0,h,_=>⟨x,rfl,by simp only [fJ.kM,Bool.and_eq_true] at h; exact h.1⟩
 | .d x :: r,i+1,h,hi=>by
  simp only [fJ.kM,Bool.and_eq_true] at h
  simpa using DS r i h.2 (by simpa using hi)
 | .any :: r,_,h,_=>by simp [fJ.kM] at h
 | .own _ _ :: r,_,h,_=>by simp [fJ.kM] at h
 | .ptr _ _ :: r,_,h,_=>by simp [fJ.kM] at h
 | .u7 _ _ _ _ :: r,_,h,_=>by simp [fJ.kM] at h
 | .ref _ :: r,_,h,_=>by simp [fJ.kM] at h
 | .wu _ _ :: r,_,h,_=>by simp [fJ.kM] at h
 | .uh _ :: r,_,h,_=>by simp [fJ.kM] at h
 | .yo _ _ :: r,_,h,_=>by simp [fJ.kM] at h
 | .fn _ _ :: r,_,h,_=>by simp [fJ.kM] at h
 | .ef _ :: r,_,h,_=>by simp [fJ.kM] at h
 | .ag _ :: r,_,h,_=>by simp [fJ.kM] at h
 | .g _ _ :: r,_,h,_=>by simp [fJ.kM] at h
theorem R2 {x:AV} (h:fJ x=true) {w':World} {S':Nat→Prop} {μ':Mu} {ν':Nat→Bool} {v:Value} (hr:Rel w S μ ν x v):Rel w' S' μ' ν' x v:=by
 cases hr with
 | d hd=>exact .d (QR (by simpa [fJ] using h) hd)
 | ef hl hh =>
  refine .ef hl (fun i hi=>?_)
  obtain ⟨y,hy,hf⟩:=DS _ i (by simpa [fJ] using h) hi
  have:=hh i hi
  rw [hy] at this ⊢
  exact .d (QR hf (gT.1 this))
 | any=>simp [fJ] at h
 | eH=>simp [fJ] at h
 | own=>simp [fJ] at h
 | ptr=>simp [fJ] at h
 | u7=>simp [fJ] at h
 | ref=>simp [fJ] at h
 | wu=>simp [fJ] at h
 | uh=>simp [fJ] at h
 | yo=>simp [fJ] at h
 | fn=>simp [fJ] at h
 | ag=>simp [fJ] at h
 | g=>simp [fJ] at h
abbrev BR (α:Type):=Option (α × List (Nat × bK) × Ob)
def KK (lb:List (Nat × bK)):AV→BR D
 | .d x=>some (x,[],.tt)
 | .wu n f=>some (.sl n f,[],.tt)
 | .own κ n=>(match look lb κ with | some (.row e k m f)=>some (.sl n f,[(κ,.row e k m f)],.ne n m) | _=>none)
 | _=>none
def zt (lb:List (Nat × bK)):List AV→BR (List D)
 | []=>some ([],[],.tt)
 | x :: r=>(match KK lb x,zt lb r with | some (y,ro,ob),some (l,JW,AW)=>some (y :: l,ro++JW,ob.and AW) | _,_=>none)
def xi (lb:List (Nat × bK)):AV→BR AV
 | .ref cs=>some (.ref cs,[],.tt)
 | .ptr κ off=>(match look lb κ with
  | some (.box cs)=>(match zt lb cs with | some (ds,ro,ob)=>some (.ref (ds.drop off),(κ,.box cs) :: ro,ob) | none=>none)
  | _=>none)
 | .ag l=>(match zt lb l with | some (ds,ro,ob)=>some (.d (.agg ds),ro,ob) | none=>none)
 | .uh κ=>(match look lb κ with | some (.mp n f)=>some (.yo n f,[(κ,.mp n f)],.tt) | some (.mx _)=>some (.any,[],.tt) | _=>none)
 | .yo n f=>some (.yo n f,[],.tt)
 | x=>(match KK lb x with | some (y,ro,ob)=>some (.d y,ro,ob) | none=>none)
def vi (lb:List (Nat × bK)):List AV→BR (List AV)
 | []=>some ([],[],.tt)
 | x :: r=>(match xi lb x,vi lb r with | some (y,ro,ob),some (l,JW,AW)=>some (y :: l,ro++JW,ob.and AW) | _,_=>none)
def wN (lb:List (Nat × bK)):AV→BR AV
 | .fn f cR=>(match vi lb cR with | some (l,ro,ob)=>some (.fn f l,ro,ob) | none=>none)
 | x=>xi lb x
def uv (lb:List (Nat × bK)):List AV→BR (List AV)
 | []=>some ([],[],.tt)
 | x :: r=>(match wN lb x,uv lb r with | some (y,ro,ob),some (l,JW,AW)=>some (y :: l,ro++JW,ob.and AW) | _,_=>none)
theorem QS (hs:df C A a w S μ ν) {S':Nat→Prop} (hS:∀ b,S b→S' b) (hO:∀ κ b g c,A.lb κ=some b→μ κ=some (some (g,c))→S' g) {lb:List (Nat × bK)} {x:AV} {y:D} {ro:List (Nat × bK)} {ob:Ob} (h:KK lb x=some (y,ro,ob)) (lf:∀ p,p∈ro→A.lb p.1=some p.2) (cb:ob.den) {v:Value} (hr:Rel w S μ ν x v):Rd w S' y v:=by
 unfold KK at h
 split at h
 ·simp only [Option.some.injEq,Prod.mk.injEq] at h
  obtain ⟨rfl,-,-⟩:=h
  exact (gT.1 hr).mono hS (fun _ _=>rfl)
 ·simp only [Option.some.injEq,Prod.mk.injEq] at h
  obtain ⟨rfl,-,-⟩:=h
  cases hr with
  | wu hd=>exact hd.mono hS (fun _ _=>rfl)
 ·rename_i κ n
  split at h
  ·rename_i e k m f hl
   simp only [Option.some.injEq,Prod.mk.injEq] at h
   obtain ⟨rfl,rfl,rfl⟩:=h
   simp only [Ob.den] at cb
   have hm:=hs.mem κ _ (lf (κ,.row e k m f) (by simp))
   cases hr with
   | @eH _ ad =>
    cases ad with
    | none=>exact .nil f
    | some ad=>exact .sl 0 f ad 0 0 (fun _ _=>undef) (Nat.le_refl _) (by simp [maxLen]) (.inl rfl) (fun i hi=>absurd hi (by omega)) (fun i j hi=>absurd hi (by omega)) (fun i j hi=>absurd hi (by omega))
   | @own _ _ g cap hμ =>
    rw [hμ] at hm
    have iR:=hO κ _ g cap (lf (κ,.row e k m f) (by simp)) hμ
    obtain ⟨cur,hg,_,kI,hn,hc,pD⟩:=hm.at
    refine .sl n f ⟨g,0,none⟩ cap k (fun i j=>(cur[i * k+j]?).getD undef) (by omega) hc (.inr rfl) (fun i hi=>(pD i (by omega)).1) (fun i j hi hj=>⟨iR,?_⟩) (fun i j hi hj=>?_)
    ·obtain ⟨u,hu,_⟩:=(pD i (by omega)).2 j hj
     rw [Nat.zero_add,gb w g _ cur e _ hg,hu]
     rfl
    ·obtain ⟨u,hu,Pc⟩:=(pD i (by omega)).2 j hj
     rw [hu]
     exact Pc.mono hS (fun _ _=>rfl)
  ·cases h
 ·cases h
theorem FO (hs:df C A a w S μ ν) {S':Nat→Prop} (hS:∀ b,S b→S' b) (hO:∀ κ b g c,A.lb κ=some b→μ κ=some (some (g,c))→S' g) {lb:List (Nat × bK)}:∀ {xs:List AV} {ys:List D} {ro:List (Nat × bK)} {ob:Ob},zt lb xs=some (ys,ro,ob)→(∀ p,p∈ro→A.lb p.1=some p.2)→ob.den→∀ {vs:List Value},dG w S μ ν xs vs →
  ys.length=xs.length∧∀ i,i < ys.length→Rd w S' (ys.getD i default) (vs.getD i undef)
 | [],ys,ro,ob,h,_,_,vs,_=>by
  simp only [zt,Option.some.injEq,Prod.mk.injEq] at h
  obtain ⟨rfl,-,-⟩:=h
  exact ⟨rfl,fun i hi=>absurd hi (by simp)⟩
 | x :: r,ys,ro,ob,h,lf,cb,vs,hr=>by
  simp only [zt] at h
  cases h1:KK lb x with
  | none=>rw [h1] at h; cases h
  | some p =>
   obtain ⟨y,Zz,yX⟩:=p
   cases h2:zt lb r with
   | none=>rw [h1,h2] at h; cases h
   | some q =>
    obtain ⟨l,ro2,Ej⟩:=q
    rw [h1,h2] at h
    simp only [Option.some.injEq,Prod.mk.injEq] at h
    obtain ⟨rfl,rfl,rfl⟩:=h
    have hr0:=hr.2 0 (by simp)
    match vs,hr with
    | [],hr=>have:=hr.1; simp at this
    | v :: vs,hr =>
     have ht:dG w S μ ν r vs:=⟨by simpa using hr.1,fun i hi=>by simpa using hr.2 (i+1) (by simpa using hi)⟩
     obtain ⟨i1,i2⟩:=FO hs hS hO h2 (fun p hp=>lf p (List.mem_append.2 (.inr hp))) (Ob.cG cb).2 ht
     refine ⟨by simp [i1],fun i hi=>?_⟩
     cases i with
     | zero=>simpa using QS hs hS hO h1 (fun p hp=>lf p (List.mem_append.2 (.inl hp))) (Ob.cG cb).1 (by simpa using hr.2 0 (by simp))
     | succ i=>simpa using i2 i (by simpa using hi)
theorem gz (hs:df C A a w S μ ν) {S':Nat→Prop} (hS:∀ b,S b→S' b) (hO:∀ κ b g c,A.lb κ=some b→μ κ=some (some (g,c))→S' g) {lb:List (Nat × bK)} {x y:AV} {ro:List (Nat × bK)} {ob:Ob} (h:xi lb x=some (y,ro,ob)) (lf:∀ p,p∈ro→A.lb p.1=some p.2) (cb:ob.den) {v:Value} (hr:Rel w S μ ν x v) (μ':Mu) (ν':Nat→Bool):Rel w S' μ' ν' y v:=by
 have other:(match KK lb x with | some (y,ro,ob)=>some (AV.d y,ro,ob) | none=>none)=some (y,ro,ob)→Rel w S' μ' ν' y v:=fun h=>by
  cases h1:KK lb x with
  | none=>rw [h1] at h; cases h
  | some p =>
   obtain ⟨y',Zz,yX⟩:=p
   rw [h1] at h
   simp only [Option.some.injEq,Prod.mk.injEq] at h
   obtain ⟨rfl,rfl,rfl⟩:=h
   exact .d (QS hs hS hO h1 lf cb hr)
 cases x with
 | ref cs =>
  simp only [xi,Option.some.injEq,Prod.mk.injEq] at h
  obtain ⟨rfl,-,-⟩:=h
  cases hr with
  | ref dp bX h=>exact .ref dp (fun j hj=>⟨hS _ (bX j hj).1,(bX j hj).2⟩) (fun j hj=>(h j hj).mono hS (fun _ _=>rfl))
 | ptr κ off =>
  simp only [xi] at h
  split at h
  ·rename_i cs hl
   split at h
   ·rename_i ds JW AW hb
    simp only [Option.some.injEq,Prod.mk.injEq] at h
    obtain ⟨rfl,rfl,rfl⟩:=h
    cases hr with
    | @ptr _ _ g cap hμ =>
     have hm:=hs.mem κ _ (lf (κ,.box cs) (by simp))
     rw [hμ] at hm
     have iR:=hO κ _ g cap (lf (κ,.box cs) (by simp)) hμ
     obtain ⟨cur,e,hg,_,kI,pD⟩:=hm.at
     have WY:dG w S μ ν cs cur.toList:=⟨by simpa using kI,fun i hi=>by
      obtain ⟨u,hu,Pc⟩:=pD i hi
      rw [show cur.toList.getD i undef=u from by simp [List.getD,hu]]
      exact Pc ν⟩
     obtain ⟨i1,i2⟩:=FO hs hS hO hb (fun p hp=>lf p (List.mem_cons_of_mem _ hp)) cb WY
     refine .ref (fun j=>cur.toList.getD (off+j) undef) (fun j hj=>⟨iR,?_⟩) (fun j hj=>?_)
     ·simp only [List.length_drop] at hj
      rw [gb w g _ cur e _ hg]
      have:off+j < cur.size:=by omega
      simp [List.getD,this]
     ·simp only [List.length_drop] at hj
      rw [show (ds.drop off).getD j default=ds.getD (off+j) default from by simp [List.getD]]
      exact i2 (off+j) (by omega)
   ·cases h
  ·cases h
 | ag l =>
  simp only [xi] at h
  split at h
  ·rename_i ds JW AW hb
   simp only [Option.some.injEq,Prod.mk.injEq] at h
   obtain ⟨rfl,rfl,rfl⟩:=h
   cases hr with
   | @ag _ vs hl hh =>
    obtain ⟨i1,i2⟩:=FO hs hS hO hb lf cb (vs:=vs.toList) ⟨by rw [Array.length_toList]; exact hl,fun i hi=>by rw [← cY]; exact hh i hi⟩
    exact .d (.agg ds vs (by omega) (fun i hi=>by rw [cY]; exact i2 i hi))
  ·cases h
 | any=>exact other h
 | d=>exact other h
 | own=>exact other h
 | u7=>exact other h
 | wu=>exact other h
 | yo n f =>
  simp only [xi,Option.some.injEq,Prod.mk.injEq] at h
  obtain ⟨rfl,-,-⟩:=h
  cases hr with
  | yo h=>exact .yo (h.mono hS (fun _ _=>rfl))
 | uh κ =>
  simp only [xi] at h
  split at h
  ·rename_i n f hl
   simp only [Option.some.injEq,Prod.mk.injEq] at h
   obtain ⟨rfl,rfl,rfl⟩:=h
   have hκ:=lf (κ,.mp n f) (by simp)
   cases hr with
   | @uh _ g cap hμ =>
    have hm:=hs.mem κ _ hκ
    rw [hμ] at hm
    obtain ⟨cur,h1,_,h2,h3⟩:=hm.at
    refine .yo ⟨hO κ _ g cap hκ hμ,cur,h1,h2,fun i hi=>?_⟩
    obtain ⟨e,q1,q2,q3,q4,q5⟩:=h3 i hi
    exact ⟨e,q1,q2,q3,q4,q5.mono hS (fun _ _=>rfl)⟩
  ·simp only [Option.some.injEq,Prod.mk.injEq] at h
   obtain ⟨rfl,-,-⟩:=h
   exact .any _
  ·cases h
 | fn=>exact other h
 | ef=>exact other h
 | g=>exact other h
theorem FP (hs:df C A a w S μ ν) {S':Nat→Prop} (hS:∀ b,S b→S' b) (hO:∀ κ b g c,A.lb κ=some b→μ κ=some (some (g,c))→S' g) {lb:List (Nat × bK)} (μ':Mu) (ν':Nat→Bool):∀ {xs ys:List AV} {ro:List (Nat × bK)} {ob:Ob},vi lb xs=some (ys,ro,ob)→(∀ p,p∈ro→A.lb p.1=some p.2)→ob.den→∀ {vs:List Value},dG w S μ ν xs vs →
  dG w S' μ' ν' ys vs
 | [],ys,ro,ob,h,_,_,vs,hr=>by
  simp only [vi,Option.some.injEq,Prod.mk.injEq] at h
  obtain ⟨rfl,-,-⟩:=h
  exact ⟨hr.1,fun i hi=>absurd hi (by simp)⟩
 | x :: r,ys,ro,ob,h,lf,cb,vs,hr=>by
  simp only [vi] at h
  cases h1:xi lb x with
  | none=>rw [h1] at h; cases h
  | some p =>
   obtain ⟨y,Zz,yX⟩:=p
   cases h2:vi lb r with
   | none=>rw [h1,h2] at h; cases h
   | some q =>
    obtain ⟨l,ro2,Ej⟩:=q
    rw [h1,h2] at h
    simp only [Option.some.injEq,Prod.mk.injEq] at h
    obtain ⟨rfl,rfl,rfl⟩:=h
    match vs,hr with
    | [],hr=>have:=hr.1; simp at this
    | v :: vs,hr =>
     have ht:dG w S μ ν r vs:=⟨by simpa using hr.1,fun i hi=>by simpa using hr.2 (i+1) (by simpa using hi)⟩
     have ih:=FP hs hS hO μ' ν' h2 (fun p hp=>lf p (List.mem_append.2 (.inr hp))) (Ob.cG cb).2 ht
     refine ⟨by simpa using ih.1,fun i hi=>?_⟩
     cases i with
     | zero=>simpa using gz hs hS hO h1 (fun p hp=>lf p (List.mem_append.2 (.inl hp))) (Ob.cG cb).1 (by simpa using hr.2 0 (by simp)) μ' ν'
     | succ i=>simpa using ih.2 i (by simpa using hi)
theorem TG (hs:df C A a w S μ ν) {S':Nat→Prop} (hS:∀ b,S b→S' b) (hO:∀ κ b g c,A.lb κ=some b→μ κ=some (some (g,c))→S' g) {lb:List (Nat × bK)} {x y:AV} {ro:List (Nat × bK)} {ob:Ob} (h:wN lb x=some (y,ro,ob)) (lf:∀ p,p∈ro→A.lb p.1=some p.2) (cb:ob.den) {v:Value} (hr:Rel w S μ ν x v) (μ':Mu) (ν':Nat→Bool):Rel w S' μ' ν' y v:=by
 cases x with
 | fn f cR =>
  simp only [wN] at h
  split at h
  ·rename_i l JW AW hb
   simp only [Option.some.injEq,Prod.mk.injEq] at h
   obtain ⟨rfl,rfl,rfl⟩:=h
   cases hr with
   | @fn _ _ vs hl hh =>
    obtain ⟨i1,i2⟩:=FP hs hS hO μ' ν' hb lf cb (vs:=vs.toList) ⟨by simpa using hl,fun i hi=>by rw [← cY]; exact hh i hi⟩
    exact .fn (by simpa using i1) (fun i hi=>by rw [cY]; exact i2 i hi)
  ·cases h
 | any=>exact gz hs hS hO (lb:=lb) (by simpa only [wN] using h) lf cb hr μ' ν'
 | d=>exact gz hs hS hO (lb:=lb) (by simpa only [wN] using h) lf cb hr μ' ν'
 | own=>exact gz hs hS hO (lb:=lb) (by simpa only [wN] using h) lf cb hr μ' ν'
 | ptr=>exact gz hs hS hO (lb:=lb) (by simpa only [wN] using h) lf cb hr μ' ν'
 | u7=>exact gz hs hS hO (lb:=lb) (by simpa only [wN] using h) lf cb hr μ' ν'
 | ref=>exact gz hs hS hO (lb:=lb) (by simpa only [wN] using h) lf cb hr μ' ν'
 | wu=>exact gz hs hS hO (lb:=lb) (by simpa only [wN] using h) lf cb hr μ' ν'
 | uh=>exact gz hs hS hO (lb:=lb) (by simpa only [wN] using h) lf cb hr μ' ν'
 | yo=>exact gz hs hS hO (lb:=lb) (by simpa only [wN] using h) lf cb hr μ' ν'
 | ef=>exact gz hs hS hO (lb:=lb) (by simpa only [wN] using h) lf cb hr μ' ν'
 | ag=>exact gz hs hS hO (lb:=lb) (by simpa only [wN] using h) lf cb hr μ' ν'
 | g=>exact gz hs hS hO (lb:=lb) (by simpa only [wN] using h) lf cb hr μ' ν'
theorem CA (hs:df C A a w S μ ν) {S':Nat→Prop} (hS:∀ b,S b→S' b) (hO:∀ κ b g c,A.lb κ=some b→μ κ=some (some (g,c))→S' g) {lb:List (Nat × bK)} (μ':Mu) (ν':Nat→Bool):∀ {xs ys:List AV} {ro:List (Nat × bK)} {ob:Ob},uv lb xs=some (ys,ro,ob)→(∀ p,p∈ro→A.lb p.1=some p.2)→ob.den→∀ {vs:List Value},dG w S μ ν xs vs →
  dG w S' μ' ν' ys vs
 | [],ys,ro,ob,h,_,_,vs,hr=>by
  simp only [uv,Option.some.injEq,Prod.mk.injEq] at h
  obtain ⟨rfl,-,-⟩:=h
  exact ⟨hr.1,fun i hi=>absurd hi (by simp)⟩
 | x :: r,ys,ro,ob,h,lf,cb,vs,hr=>by
  simp only [uv] at h
  cases h1:wN lb x with
  | none=>rw [h1] at h; cases h
  | some p =>
   obtain ⟨y,Zz,yX⟩:=p
   cases h2:uv lb r with
   | none=>rw [h1,h2] at h; cases h
   | some q =>
    obtain ⟨l,ro2,Ej⟩:=q
    rw [h1,h2] at h
    simp only [Option.some.injEq,Prod.mk.injEq] at h
    obtain ⟨rfl,rfl,rfl⟩:=h
    match vs,hr with
    | [],hr=>have:=hr.1; simp at this
    | v :: vs,hr =>
     have ht:dG w S μ ν r vs:=⟨by simpa using hr.1,fun i hi=>by simpa using hr.2 (i+1) (by simpa using hi)⟩
     have ih:=CA hs hS hO μ' ν' h2 (fun p hp=>lf p (List.mem_append.2 (.inr hp))) (Ob.cG cb).2 ht
     refine ⟨by simpa using ih.1,fun i hi=>?_⟩
     cases i with
     | zero=>simpa using TG hs hS hO h1 (fun p hp=>lf p (List.mem_append.2 (.inl hp))) (Ob.cG cb).1 (by simpa using hr.2 0 (by simp)) μ' ν'
     | succ i=>simpa using ih.2 i (by simpa using hi)
theorem vj {P:Program} {o:Oper} {cf:Operand} {xs:Array Operand} {ts:Array TypeId} (ho:o.op=.call { callee:=.value cf,args:=xs,argTypes:=ts }) {f:FuncId} {AX:Array Value} (R3:a.eval cf=.func (.func f) #[] AX) (hc:ib P f=true) :
  (execOp a.eval o).run P w=.ok (.enter f (xs.map a.eval++AX)) w:=by
 simp only [execOp,ho,resolve,R3,Deferred.ofValue,Sem.run_bind,Sem.run_pure,Result.andThen_ok,invoke,Array.empty_append]
 exact Ba hc _
theorem FQ {o:Oper} {cf:Operand} {xs:Array Operand} {ts:Array TypeId} {f:FuncId} {args cR DT:List AV} {res:AV} {ro:List (Nat × bK)} {ob:Ob} {lb:List (Nat × bK)} {τ:Tr}
  (hs:df C A a w S μ ν) (hd:∀ t,o.dst=some t→t < C.nt) (ho:o.op=.call { callee:=.value cf,args:=xs,argTypes:=ts }) (R3:Rel w S μ ν (.fn f cR) (a.eval cf)) (lH:dG w S μ ν args (xs.toList.map a.eval))
  (hb:uv lb (args++cR)=some (DT,ro,ob)) (lf:∀ p,p∈ro→A.lb p.1=some p.2) (cb:ob.den) (R4:iU C.P f DT [] res []) (Vz:fJ res=true)
  (h0:τ.v=res) (h1:τ.dst=o.dst) (h2:τ.mem=[]) (h3:τ.fk=[]) :
  o.wp C.P a w (fun a' w'=>∃ S' μ',df C (τ.apply A) a' w' S' μ' ν) (fun _ _ _=>False):=by
 generalize XY:a.eval cf=cv at R3
 cases R3 with
 | @fn _ _ AX hl hh =>
  unfold Oper.wp
  rw [vj ho XY R4.1]
  have uo:dG w S μ ν (args++cR) (xs.map a.eval++AX).toList:=by
   rw [Array.toList_append,Array.toList_map]
   exact lH.append ⟨by simpa using hl,fun i hi=>by rw [← cY]; exact hh i hi⟩
  refine (R4.2 w (fun b=>b < w.heap.size) (fun _=>none) (xs.map a.eval++AX) (fun b hb=>hb) (hs.yU.mono hs.bound (fun _ _=>rfl)) (fun ν'=>CA hs hs.bound (fun κ b g c h1 h2=>by have:=hs.mem κ b h1; rw [h2] at this; exact this.at.lt) _ ν' hb lf cb uo) (fun κ b hk=>by simp [look] at hk) (fun κ κ' b b' g c c' hk=>by simp [look] at hk)).mono ?_
  rintro e w' ⟨v,S',μ',rfl,B⟩
  have hk:Kept w w' (fun _=>False):=⟨B.kept.os,B.kept.tape,B.kept.output,B.kept.size,fun b hb _=>B.kept.block b hb (fun ⟨κ,b',c,hx,_⟩=>by simp [look] at hx)⟩
  have h4:=hs.world (S':=S) (fun _ x=>x) (fun _ x=>.inl x) hk
  have h5:=h4.put (dst:=o.dst) (x:=res) (v:=v) hd (R2 Vz (B.res ν))
  refine ⟨S,μ,?_⟩
  have e:τ.apply A=A.wL o.dst res:=by
   unfold Tr.apply M.wL M.put
   rw [h0,h1,h2,h3]
   cases ho:o.dst with
   | none=>simp [look]
   | some d =>
    simp only [look,List.map_nil,List.not_mem_nil,if_false,Option.some.injEq]
    congr 1
    funext t
    by_cases c:d=t
    ·simp [c]
    ·have:¬ t=d:=fun e=>c e.symm
     simp [c,this]
  rw [e]
  exact h5
end
section
variable {C : Cx} {A : M} {a : Act} {w : World} {S : Nat → Prop} {μ : Mu} {ν : Nat → Bool}
theorem AV.uw {k:Nat}:∀ (l:List AV) (i:Nat),i < l.length→k∈(l.getD i default).keys→k∈AV.qy l
 | [],i,hi,_=>absurd hi (by simp)
 | a :: r,0,_,h=>by simp only [AV.qy,List.mem_append]; exact .inl (by simpa using h)
 | a :: r,i+1,hi,h=>by simp only [AV.qy,List.mem_append]; exact .inr (AV.uw r i (by simpa using hi) (by simpa using h))
theorem Rel.sK {μ':Mu} {x:AV} {v:Value} (h:Rel w S μ ν x v) (hk:∀ k,k∈x.keys→μ' k=μ k):Rel w S μ' ν x v:=by
 induction h with
 | any x=>exact .any x
 | d h=>exact .d h
 | @eH key _ h=>exact .eH (by rw [hk key (by simp [AV.keys])]; exact h)
 | @own key _ _ _ h=>exact .own (by rw [hk key (by simp [AV.keys])]; exact h)
 | @ptr key _ _ _ h=>exact .ptr (by rw [hk key (by simp [AV.keys])]; exact h)
 | @u7 key _ _ _ _ _ h=>exact .u7 (by rw [hk key (by simp [AV.keys])]; exact h)
 | ref dp bX h=>exact .ref dp bX h
 | wu h=>exact .wu h
 | @uh key _ _ h=>exact .uh (by rw [hk key (by simp [AV.keys])]; exact h)
 | yo h=>exact .yo h
 | @fn _ cR _ hl _ ih=>exact .fn hl (fun i hi=>ih i hi (fun k fP=>hk k (by simp only [AV.keys]; exact AV.uw cR i hi fP)))
 | @ef l _ hl _ ih=>exact .ef hl (fun i hi=>ih i hi (fun k fP=>hk k (by simp only [AV.keys]; exact AV.uw l i hi fP)))
 | @ag l _ hl _ ih=>exact .ag hl (fun i hi=>ih i hi (fun k fP=>hk k (by simp only [AV.keys]; exact AV.uw l i hi fP)))
 | g _ h0 ih=>exact .g (fun hp=>ih hp (fun k fP=>hk k (by simpa [AV.keys] using fP))) h0
theorem eI.sK {μ':Mu} {b:bK} {g cap:Nat} (h:eI w S μ b g cap) (hk:∀ k,k∈b.keys→μ' k=μ k):eI w S μ' b g cap:=by
 cases b with
 | box cs =>
  obtain ⟨cur,e,h1,h0,h2,h6⟩:=h
  refine ⟨cur,e,h1,h0,h2,fun j hj=>?_⟩
  obtain ⟨x,hx,hr⟩:=h6 j hj
  exact ⟨x,hx,fun ν=>(hr ν).sK (fun k fP=>hk k (AV.uw _ j hj fP))⟩
 | row e k n f=>exact h
 | mp n f=>exact h
 | it mk n seen =>
  obtain ⟨mg,c,h0,h1⟩:=h
  exact ⟨mg,c,by rw [hk mk (by simp [bK.keys])]; exact h0,h1⟩
 | mx=>exact h
theorem gF.sK {μ':Mu} {b:bK} {y:Option (Option (Nat × Nat))} (h:gF w S μ b y) (hk:∀ k,k∈b.keys→μ' k=μ k):gF w S μ' b y:=by
 cases y with
 | none=>cases b <;> exact h
 | some y =>
  cases y with
  | none=>cases b <;> exact h
  | some gc=>obtain ⟨g,c⟩:=gc; exact (h.at.sK hk).ok
theorem dG.nu {ν':Nat→Bool} {l:List AV} {vs:List Value} (h:dG w S μ ν l vs) (hn:sC.lN l=true):dG w S μ ν' l vs:=⟨h.1,fun i hi=>(h.2 i hi).nu (od l i hn hi)⟩
theorem R5 {o:Oper} {cf:Operand} {xs:Array Operand} {ts:Array TypeId} {f:FuncId} {args cR:List AV} {res:AV} {cZ gp:List (Nat × bK)} {need:List (Nat × AV)} {ro:List (Nat × bK)} {gs:List (Nat × Bool)}
  (hs:df C A a w S μ ν) (hd:∀ t,o.dst=some t→t < C.nt) (ho:o.op=.call { callee:=.value cf,args:=xs,argTypes:=ts }) (R3:Rel w S μ ν (.fn f cR) (a.eval cf)) (lH:dG w S μ ν args (xs.toList.map a.eval)) (hn:sC.lN (args++cR)=true)
  (R4:iU C.P f (args++cR) cZ res gp) (OY:∀ p,p∈cZ→A.lb p.1=some p.2) (ui:∀ k,k∈gp.map (·.1)→ja A k) (R6:∀ k,k∈res.keys→k∈gp.map (·.1)) (uj:∀ p,p∈gp→∀ k,k∈p.2.keys→k∈gp.map (·.1)) :
  o.wp C.P a w (fun a' w'=>∃ S' μ',df C ((Tr.mk need o.dst res ro cZ gp gs).apply A) a' w' S' μ' ν) (fun _ _ _=>False):=by
 generalize XY:a.eval cf=cv at R3
 cases R3 with
 | @fn _ _ AX hl hh =>
  unfold Oper.wp
  rw [vj ho XY R4.1]
  have uo:dG w S μ ν (args++cR) (xs.map a.eval++AX).toList:=by
   rw [Array.toList_append,Array.toList_map]
   exact lH.append ⟨by simpa using hl,fun i hi=>by rw [← cY]; exact hh i hi⟩
  have yt:∀ κ b,look cZ κ=some b→A.lb κ=some b:=fun κ b h=>OY (κ,b) (hZ h)
  refine (R4.2 w S μ (xs.map a.eval++AX) hs.bound hs.yU (fun ν'=>uo.nu hn) (fun κ b hk=>hs.mem κ b (yt κ b hk)) (fun κ κ' b b' g c c' h1 h2 h3 h4=>hs.inj κ κ' b b' g c c' (yt _ _ h1) (yt _ _ h2) h3 h4)).mono ?_
  rintro e w' ⟨v,S',μ',rfl,B⟩
  have hT:∀ q,Handed cZ μ q→C.w0.heap.size≤q∨C.T0 q:=fun q ⟨κ,b,c,h1,h2⟩=>hs.own κ b q c (yt κ b h1) h2
  have hTs:∀ q,Handed cZ μ q→¬ S q:=fun q ⟨κ,b,c,h1,h2⟩=>by
   have:=hs.mem κ b (yt κ b h1)
   rw [h2] at this
   exact this.at.not
  have hw:∀ q,S q→w'.heap[q]? = w.heap[q]?:=fun q hq=>B.kept.block q (hs.bound q hq) (fun ht=>hTs q ht hq)
  let μ'':Mu:=fun k=>if k∈gp.map (·.1) then μ' k else μ k
  have ag:∀ k,k ∉ gp.map (·.1)→μ'' k=μ k:=fun k hk=>by simp only [μ'',hk,if_false]
  have Tb:∀ k,k∈gp.map (·.1)→μ'' k=μ' k:=fun k hk=>by simp only [μ'',hk,if_true]
  have old:∀ x v,Rel w S μ ν x v→(∀ k,k∈gp.map (·.1)→k ∉ x.keys)→Rel w' S' μ'' ν x v:=fun x v hr hk =>
   (hr.mono B.sub hw (fun _ _ e=>e)).sK (fun k hkx=>ag k (fun fP=>hk k fP hkx))
  refine ⟨S',μ'',?_⟩
  have FR:∀ κ b,((Tr.mk need o.dst res ro cZ gp gs).apply A).lb κ=some b→(look gp κ=some b∧κ∈gp.map (·.1))∨(κ ∉ gp.map (·.1)∧κ ∉ cZ.map (·.1)∧A.lb κ=some b):=by
   intro κ b hb
   simp only [Tr.apply] at hb
   cases Mg:look gp κ with
   | some b' =>
    rw [Mg] at hb
    simp only [Option.some.injEq] at hb
    subst hb
    exact .inl ⟨rfl,n9 Mg⟩
   | none =>
    rw [Mg] at hb
    simp only at hb
    have hnk:κ ∉ gp.map (·.1):=fun hk=>by
     obtain ⟨p,hp,e⟩:=List.mem_map.1 hk
     have:∀ (l:List (Nat × bK)),p∈l→look l κ≠none:=by
      intro l
      induction l with
      | nil=>intro h; cases h
      | cons q r ih =>
       intro h hn
       obtain ⟨q1,q2⟩:=q
       simp only [look] at hn
       cases hq:Nat.beq q1 κ with
       | true=>rw [hq] at hn; cases hn
       | false =>
        rw [hq] at hn
        rcases List.mem_cons.1 h with h' | h'
        ·subst h'
         simp only at e
         rw [e,Nat.beq_refl] at hq
         cases hq
        ·exact ih h' (by simpa using hn)
     exact this gp hp Mg
    split at hb
    ·cases hb
    ·rename_i TC
     exact .inr ⟨hnk,TC,hb⟩
  have XZ:∀ κ b g c,κ ∉ cZ.map (·.1)→A.lb κ=some b→μ κ=some (some (g,c))→¬ Handed cZ μ g∧g < w.heap.size∧¬ S g:=by
   intro κ b g c TC hb hμ
   have hm:=hs.mem κ b hb
   rw [hμ] at hm
   refine ⟨fun ⟨κ2,b2,c2,h1,h2⟩=>?_,hm.at.lt,hm.at.not⟩
   have:=hs.inj κ κ2 b b2 g c c2 hb (yt _ _ h1) hμ h2
   rw [this] at TC
   exact TC (n9 h1)
  refine ⟨?_,?_,fun t=>?_,fun κ b hb=>?_,fun κ1 κ2 b1 b2 g c c' h1 h2 h3 h4=>?_,fun κ b g c hb hμ=>?_,fun b hb=>B.sub b (hs.eJ b hb),fun b hb=>?_,B.bound,?_⟩
  ·simp only [Act.put]; split <;> simp [hs.tmps]
  ·simp only [Act.put]; split <;> exact hs.defers
  ·simp only [Tr.apply]
   by_cases c:o.dst=some t
   ·simp only [c,if_true,Act.put]
    rw [iH _ _ _ (by rw [hs.tmps]; exact hd t c)]
    exact (B.res ν).sK (fun k hk=>Tb k (R6 k hk))
   ·simp only [c,if_false]
    have e:(a.put o.dst v).tmps.getD t undef=a.tmps.getD t undef:=by
     cases dH:o.dst with
     | none=>rfl
     | some d =>
      simp only [Act.put]
      exact dg _ _ _ _ (fun e=>c (by rw [dH,e]))
    rw [e]
    exact old _ _ (hs.eF t) (fun k hk=>(ui k hk).sl t)
  ·rcases FR κ b hb with ⟨h1,h2⟩ | ⟨h1,h2,h3⟩
   ·rw [Tb κ h2]
    exact (B.mem κ b h1).sK (fun k hk=>Tb k (uj (κ,b) (hZ h1) k hk))
   ·rw [ag κ h1]
    have hm:=hs.mem κ b h3
    refine (hm.mono B.sub hw (fun _ _ e=>e) (fun g c e=>?_)).sK (fun k hk=>ag k (fun fP=>(ui k fP).bl κ b h3 hk))
    obtain ⟨q1,q2,q3⟩:=XZ κ b g c h2 h3 e
    refine ⟨B.kept.block g q2 q1,fun xa=>?_⟩
    rcases B.new g xa with h | h | h
    ·exact q3 h
    ·omega
    ·exact q1 h
  ·rcases FR κ1 b1 h1 with ⟨x1,x2⟩ | ⟨x1,x2,x3⟩
   ·rw [Tb κ1 x2] at h3
    rcases FR κ2 b2 h2 with ⟨y1,y2⟩ | ⟨y1,y2,y3⟩
    ·rw [Tb κ2 y2] at h4
     exact B.inj κ1 κ2 b1 b2 g c c' x1 y1 h3 h4
    ·rw [ag κ2 y1] at h4
     obtain ⟨q1,q2,q3⟩:=XZ κ2 b2 g c' y2 y3 h4
     rcases B.own κ1 b1 g c x1 h3 with h | h
     ·omega
     ·exact absurd h q1
   ·rw [ag κ1 x1] at h3
    obtain ⟨q1,q2,q3⟩:=XZ κ1 b1 g c x2 x3 h3
    rcases FR κ2 b2 h2 with ⟨y1,y2⟩ | ⟨y1,y2,y3⟩
    ·rw [Tb κ2 y2] at h4
     rcases B.own κ2 b2 g c' y1 h4 with h | h
     ·omega
     ·exact absurd h q1
    ·rw [ag κ2 y1] at h4
     exact hs.inj κ1 κ2 b1 b2 g c c' x3 y3 h3 h4
  ·rcases FR κ b hb with ⟨h1,h2⟩ | ⟨h1,h2,h3⟩
   ·rw [Tb κ h2] at hμ
    rcases B.own κ b g c h1 hμ with h | h
    ·exact .inl (Nat.le_trans hs.kept.size h)
    ·exact hT g h
   ·rw [ag κ h1] at hμ
    exact hs.own κ b g c h3 hμ
  ·rcases B.new b hb with h | h | h
   ·exact hs.fresh b h
   ·exact .inr (.inl (Nat.le_trans hs.kept.size h))
   ·rcases hT b h with h' | h'
    ·exact .inr (.inl h')
    ·exact .inr (.inr h')
  ·refine hs.kept.trans B.kept (fun b hb h=>?_)
   rcases hT b h with h' | h'
   ·omega
   ·exact h'
def FnB (P:Program) (f:FuncId) (args:List AV) (cZ:List (Nat × bK)) (res:AV) (gp:List (Nat × bK)) (lg:List (Nat × Nat)):Prop :=
 ib P f=true∧∀ (w:World) (S:Nat→Prop) (μ:Mu) (vs:Array Value),(∀ b,S b→b < w.heap.size)→iZ w S→(∀ ν,dG w S μ ν args vs.toList)→(∀ κ b,look cZ κ=some b→gF w S μ b (μ κ))→TE cZ μ →
  Calls P f vs w fun e w'=>∃ v S' μ',e=.returned v∧MG w S (Handed cZ μ) res gp v S' μ' w'∧∀ p,p∈lg→∀ ν,Rel w' S' μ' ν (.ptr p.2 0) (vs.toList.getD p.1 undef)
theorem KL {lg:List (Nat × Nat)} {o:Oper} {cf:Operand} {xs:Array Operand} {ts:Array TypeId} {f:FuncId} {args cR:List AV} {res:AV} {cZ gp:List (Nat × bK)} {need:List (Nat × AV)} {ro:List (Nat × bK)} {gs:List (Nat × Bool)}
  (hs:df C A a w S μ ν) (hd:∀ t,o.dst=some t→t < C.nt) (ho:o.op=.call { callee:=.value cf,args:=xs,argTypes:=ts }) (R3:Rel w S μ ν (.fn f cR) (a.eval cf)) (lH:dG w S μ ν args (xs.toList.map a.eval)) (hn:sC.lN (args++cR)=true)
  (R4:FnB C.P f (args++cR) cZ res gp lg) (abU:∀ p,p∈lg→p.1 < (args++cR).length∧(args++cR).getD p.1 default=.ptr p.2 0∧(∃ cs,look cZ p.2=some (.box cs))∧∃ cs,look gp p.2=some (.box cs)) (OY:∀ p,p∈cZ→A.lb p.1=some p.2) (ui:∀ k,k∈gp.map (·.1)→k ∉ lg.map (·.2)→ja A k) (R6:∀ k,k∈res.keys→k∈gp.map (·.1)∧k ∉ lg.map (·.2)) (uj:∀ p,p∈gp→∀ k,k∈p.2.keys→k∈gp.map (·.1)∧k ∉ lg.map (·.2)) :
  o.wp C.P a w (fun a' w'=>∃ S' μ',df C ((Tr.mk need o.dst res ro cZ gp gs).apply A) a' w' S' μ' ν) (fun _ _ _=>False):=by
 generalize XY:a.eval cf=cv at R3
 cases R3 with
 | @fn _ _ AX hl hh =>
  unfold Oper.wp
  rw [vj ho XY R4.1]
  have uo:dG w S μ ν (args++cR) (xs.map a.eval++AX).toList:=by
   rw [Array.toList_append,Array.toList_map]
   exact lH.append ⟨by simpa using hl,fun i hi=>by rw [← cY]; exact hh i hi⟩
  have yt:∀ κ b,look cZ κ=some b→A.lb κ=some b:=fun κ b h=>OY (κ,b) (hZ h)
  refine (R4.2 w S μ (xs.map a.eval++AX) hs.bound hs.yU (fun ν'=>uo.nu hn) (fun κ b hk=>hs.mem κ b (yt κ b hk)) (fun κ κ' b b' g c c' h1 h2 h3 h4=>hs.inj κ κ' b b' g c c' (yt _ _ h1) (yt _ _ h2) h3 h4)).mono ?_
  rintro e w' ⟨v,S',μ',rfl,B,ha⟩
  have aaf:∀ κ,κ∈lg.map (·.2)→κ∈gp.map (·.1)∧(∃ cs,look gp κ=some (.box cs))∧∃ g c c',μ κ=some (some (g,c))∧μ' κ=some (some (g,c')):=by
   intro κ hκ
   obtain ⟨p,hp,rfl⟩:=List.mem_map.1 hκ
   obtain ⟨h1,h2,-,cs,h4⟩:=abU p hp
   have h5:=uo.2 p.1 h1
   rw [h2] at h5
   have h6:=ha p hp ν
   generalize (xs.map a.eval++AX).toList.getD p.1 undef=u at h5 h6
   refine ⟨n9 h4,⟨cs,h4⟩,?_⟩
   cases h5 with
   | @ptr _ _ g c hμ =>
    cases h6 with
    | @ptr _ _ _ c' TH=>exact ⟨g,c,c',hμ,TH⟩
  have hT:∀ q,Handed cZ μ q→C.w0.heap.size≤q∨C.T0 q:=fun q ⟨κ,b,c,h1,h2⟩=>hs.own κ b q c (yt κ b h1) h2
  have hTs:∀ q,Handed cZ μ q→¬ S q:=fun q ⟨κ,b,c,h1,h2⟩=>by
   have:=hs.mem κ b (yt κ b h1)
   rw [h2] at this
   exact this.at.not
  have hw:∀ q,S q→w'.heap[q]? = w.heap[q]?:=fun q hq=>B.kept.block q (hs.bound q hq) (fun ht=>hTs q ht hq)
  let μ'':Mu:=fun k=>if k∈lg.map (·.2) then μ k else if k∈gp.map (·.1) then μ' k else μ k
  have ag:∀ k,(k∈gp.map (·.1)→k∈lg.map (·.2))→μ'' k=μ k:=fun k hk=>by
   simp only [μ'']
   by_cases h1:k∈lg.map (·.2)
   ·rw [if_pos h1]
   ·rw [if_neg h1,if_neg (fun h=>h1 (hk h))]
  have Tb:∀ k,k∈gp.map (·.1)→k ∉ lg.map (·.2)→μ'' k=μ' k:=fun k hk hn=>by simp only [μ'']; rw [if_neg hn,if_pos hk]
  have tr:∀ k g c,k∈gp.map (·.1)→μ'' k=some (some (g,c))→∃ c',μ' k=some (some (g,c')):=fun k g c hk h=>by
   by_cases h1:k∈lg.map (·.2)
   ·obtain ⟨-,-,g',c1,c2,e1,e2⟩:=aaf k h1
    rw [ag k (fun _=>h1),e1] at h
    simp only [Option.some.injEq,Prod.mk.injEq] at h
    obtain ⟨rfl,rfl⟩:=h
    exact ⟨c2,e2⟩
   ·rw [Tb k hk h1] at h
    exact ⟨c,h⟩
  have old:∀ x v,Rel w S μ ν x v→(∀ k,k∈gp.map (·.1)→k ∉ lg.map (·.2)→k ∉ x.keys)→Rel w' S' μ'' ν x v:=fun x v hr hk =>
   (hr.mono B.sub hw (fun _ _ e=>e)).sK (fun k hkx=>ag k (fun fP=>Classical.byContradiction (fun hn=>hk k fP hn hkx)))
  refine ⟨S',μ'',?_⟩
  have FR:∀ κ b,((Tr.mk need o.dst res ro cZ gp gs).apply A).lb κ=some b→(look gp κ=some b∧κ∈gp.map (·.1))∨(κ ∉ gp.map (·.1)∧κ ∉ cZ.map (·.1)∧A.lb κ=some b):=by
   intro κ b hb
   simp only [Tr.apply] at hb
   cases Mg:look gp κ with
   | some b' =>
    rw [Mg] at hb
    simp only [Option.some.injEq] at hb
    subst hb
    exact .inl ⟨rfl,n9 Mg⟩
   | none =>
    rw [Mg] at hb
    simp only at hb
    have hnk:κ ∉ gp.map (·.1):=fun hk=>by
     obtain ⟨p,hp,e⟩:=List.mem_map.1 hk
     have:∀ (l:List (Nat × bK)),p∈l→look l κ≠none:=by
      intro l
      induction l with
      | nil=>intro h; cases h
      | cons q r ih =>
       intro h hn
       obtain ⟨q1,q2⟩:=q
       simp only [look] at hn
       cases hq:Nat.beq q1 κ with
       | true=>rw [hq] at hn; cases hn
       | false =>
        rw [hq] at hn
        rcases List.mem_cons.1 h with h' | h'
        ·subst h'
         simp only at e
         rw [e,Nat.beq_refl] at hq
         cases hq
        ·exact ih h' (by simpa using hn)
     exact this gp hp Mg
    split at hb
    ·cases hb
    ·rename_i TC
     exact .inr ⟨hnk,TC,hb⟩
  have XZ:∀ κ b g c,κ ∉ cZ.map (·.1)→A.lb κ=some b→μ κ=some (some (g,c))→¬ Handed cZ μ g∧g < w.heap.size∧¬ S g:=by
   intro κ b g c TC hb hμ
   have hm:=hs.mem κ b hb
   rw [hμ] at hm
   refine ⟨fun ⟨κ2,b2,c2,h1,h2⟩=>?_,hm.at.lt,hm.at.not⟩
   have:=hs.inj κ κ2 b b2 g c c2 hb (yt _ _ h1) hμ h2
   rw [this] at TC
   exact TC (n9 h1)
  refine ⟨?_,?_,fun t=>?_,fun κ b hb=>?_,fun κ1 κ2 b1 b2 g c c' h1 h2 h3 h4=>?_,fun κ b g c hb hμ=>?_,fun b hb=>B.sub b (hs.eJ b hb),fun b hb=>?_,B.bound,?_⟩
  ·simp only [Act.put]; split <;> simp [hs.tmps]
  ·simp only [Act.put]; split <;> exact hs.defers
  ·simp only [Tr.apply]
   by_cases c:o.dst=some t
   ·simp only [c,if_true,Act.put]
    rw [iH _ _ _ (by rw [hs.tmps]; exact hd t c)]
    exact (B.res ν).sK (fun k hk=>Tb k (R6 k hk).1 (R6 k hk).2)
   ·simp only [c,if_false]
    have e:(a.put o.dst v).tmps.getD t undef=a.tmps.getD t undef:=by
     cases dH:o.dst with
     | none=>rfl
     | some d =>
      simp only [Act.put]
      exact dg _ _ _ _ (fun e=>c (by rw [dH,e]))
    rw [e]
    exact old _ _ (hs.eF t) (fun k hk hn=>(ui k hk hn).sl t)
  ·rcases FR κ b hb with ⟨h1,h2⟩ | ⟨h1,h2,h3⟩
   ·have hm:=B.mem κ b h1
    have hk2:∀ k,k∈b.keys→μ'' k=μ' k:=fun k hk=>Tb k (uj (κ,b) (hZ h1) k hk).1 (uj (κ,b) (hZ h1) k hk).2
    by_cases hn:κ∈lg.map (·.2)
    ·obtain ⟨-,⟨cs,e0⟩,g',c1,c2,e1,e2⟩:=aaf κ hn
     rw [h1] at e0
     simp only [Option.some.injEq] at e0
     subst e0
     rw [ag κ (fun _=>hn),e1]
     rw [e2] at hm
     have h3:eI w' S' μ' (.box cs) g' c1:=hm.at
     exact eI.ok (b:=.box cs) (h3.sK hk2)
    ·rw [Tb κ h2 hn]
     exact hm.sK hk2
   ·rw [ag κ (fun h=>absurd h h1)]
    have hm:=hs.mem κ b h3
    refine (hm.mono B.sub hw (fun _ _ e=>e) (fun g c e=>?_)).sK (fun k hk=>ag k (fun fP=>Classical.byContradiction (fun hn=>(ui k fP hn).bl κ b h3 hk)))
    obtain ⟨q1,q2,q3⟩:=XZ κ b g c h2 h3 e
    refine ⟨B.kept.block g q2 q1,fun xa=>?_⟩
    rcases B.new g xa with h | h | h
    ·exact q3 h
    ·omega
    ·exact q1 h
  ·rcases FR κ1 b1 h1 with ⟨x1,x2⟩ | ⟨x1,x2,x3⟩
   ·obtain ⟨d1,h3⟩:=tr κ1 g c x2 h3
    rcases FR κ2 b2 h2 with ⟨y1,y2⟩ | ⟨y1,y2,y3⟩
    ·obtain ⟨d2,h4⟩:=tr κ2 g c' y2 h4
     exact B.inj κ1 κ2 b1 b2 g d1 d2 x1 y1 h3 h4
    ·rw [ag κ2 (fun h=>absurd h y1)] at h4
     obtain ⟨q1,q2,q3⟩:=XZ κ2 b2 g c' y2 y3 h4
     rcases B.own κ1 b1 g d1 x1 h3 with h | h
     ·omega
     ·exact absurd h q1
   ·rw [ag κ1 (fun h=>absurd h x1)] at h3
    obtain ⟨q1,q2,q3⟩:=XZ κ1 b1 g c x2 x3 h3
    rcases FR κ2 b2 h2 with ⟨y1,y2⟩ | ⟨y1,y2,y3⟩
    ·obtain ⟨d2,h4⟩:=tr κ2 g c' y2 h4
     rcases B.own κ2 b2 g d2 y1 h4 with h | h
     ·omega
     ·exact absurd h q1
    ·rw [ag κ2 (fun h=>absurd h y1)] at h4
     exact hs.inj κ1 κ2 b1 b2 g c c' x3 y3 h3 h4
  ·rcases FR κ b hb with ⟨h1,h2⟩ | ⟨h1,h2,h3⟩
   ·obtain ⟨d1,hμ⟩:=tr κ g c h2 hμ
    rcases B.own κ b g d1 h1 hμ with h | h
    ·exact .inl (Nat.le_trans hs.kept.size h)
    ·exact hT g h
   ·rw [ag κ (fun h=>absurd h h1)] at hμ
    exact hs.own κ b g c h3 hμ
  ·rcases B.new b hb with h | h | h
   ·exact hs.fresh b h
   ·exact .inr (.inl (Nat.le_trans hs.kept.size h))
   ·rcases hT b h with h' | h'
    ·exact .inr (.inl h')
    ·exact .inr (.inr h')
  ·refine hs.kept.trans B.kept (fun b hb h=>?_)
   rcases hT b h with h' | h'
   ·omega
   ·exact h'
def FnS (P:Program) (f:FuncId) (args:List AV) (κ:Nat) (b b':bK):Prop :=
 ib P f=true∧∀ (w:World) (S:Nat→Prop) (μ:Mu) (vs:Array Value),(∀ b,S b→b < w.heap.size)→iZ w S→(∀ ν,dG w S μ ν args vs.toList)→gF w S μ b (μ κ) →
  Calls P f vs w fun e w'=>(∃ v,e=.returned v)∧gF w' S μ b' (μ κ)∧Kept w w' (fun q=>∃ c,μ κ=some (some (q,c)))
theorem FT {o:Oper} {cf:Operand} {xs:Array Operand} {ts:Array TypeId} {f:FuncId} {args cR:List AV} {κ:Nat} {b b':bK} {need:List (Nat × AV)} {ro:List (Nat × bK)} {gs:List (Nat × Bool)}
  (hs:df C A a w S μ ν) (hd:∀ t,o.dst=some t→t < C.nt) (ho:o.op=.call { callee:=.value cf,args:=xs,argTypes:=ts }) (R3:Rel w S μ ν (.fn f cR) (a.eval cf)) (lH:dG w S μ ν args (xs.toList.map a.eval)) (hn:sC.lN (args++cR)=true)
  (R4:FnS C.P f (args++cR) κ b b') (hκ:A.lb κ=some b) :
  o.wp C.P a w (fun a' w'=>∃ S' μ',df C ((Tr.mk need o.dst .any ro [(κ,b)] [(κ,b')] gs).apply A) a' w' S' μ' ν) (fun _ _ _=>False):=by
 generalize XY:a.eval cf=cv at R3
 cases R3 with
 | @fn _ _ AX hl hh =>
  unfold Oper.wp
  rw [vj ho XY R4.1]
  have uo:dG w S μ ν (args++cR) (xs.map a.eval++AX).toList:=by
   rw [Array.toList_append,Array.toList_map]
   exact lH.append ⟨by simpa using hl,fun i hi=>by rw [← cY]; exact hh i hi⟩
  refine (R4.2 w S μ (xs.map a.eval++AX) hs.bound hs.yU (fun ν'=>uo.nu hn) (hs.mem κ b hκ)).mono ?_
  rintro e w' ⟨⟨v,rfl⟩,mQ,hk⟩
  have hg:∀ q,(∃ c,μ κ=some (some (q,c)))→¬ S q:=fun q ⟨c,hc⟩=>by
   have:=hs.mem κ b hκ
   rw [hc] at this
   exact this.at.not
  have hw:∀ q,S q→w'.heap[q]? = w.heap[q]?:=fun q hq=>hk.block q (hs.bound q hq) (fun h=>hg q h hq)
  have h1:df C (A.set κ (some b')) a w' S μ ν:=by
   refine ⟨hs.tmps,hs.defers,fun t=>(hs.eF t).mono (fun _ x=>x) hw (fun _ _ e=>e),fun κ' bk ZA=>?_,fun κ1 κ2 b1 b2 g c c' h1 h2 h3 h4=>?_,fun κ' bk g c h1 h2=>?_,hs.eJ,hs.fresh,fun q hq=>Nat.lt_of_lt_of_le (hs.bound q hq) hk.size,?_⟩
   ·simp only [M.set] at ZA
    by_cases e:κ'=κ
    ·subst e
     simp only [if_true,Option.some.injEq] at ZA
     subst ZA
     exact mQ
    ·simp only [e,if_false] at ZA
     have hm:=hs.mem κ' bk ZA
     refine hm.mono (fun _ x=>x) hw (fun _ _ e=>e) (fun g c hgc=>?_)
     rw [hgc] at hm
     exact ⟨hk.block g hm.at.lt (fun ⟨c',hc'⟩=>e (hs.inj κ' κ bk b g c c' ZA hκ hgc hc')),hm.at.not⟩
   ·have get:∀ k bk,(A.set κ (some b')).lb k=some bk→∃ bk',A.lb k=some bk':=fun k bk h=>by
     simp only [M.set] at h
     by_cases e:k=κ
     ·subst e; exact ⟨b,hκ⟩
     ·simp only [e,if_false] at h; exact ⟨bk,h⟩
    obtain ⟨b1',q1⟩:=get _ _ h1
    obtain ⟨b2',q2⟩:=get _ _ h2
    exact hs.inj κ1 κ2 b1' b2' g c c' q1 q2 h3 h4
   ·simp only [M.set] at h1
    by_cases e:κ'=κ
    ·subst e; exact hs.own κ' b g c hκ h2
    ·simp only [e,if_false] at h1; exact hs.own κ' bk g c h1 h2
   ·exact hs.kept.trans hk (fun q hq ⟨c,hc⟩=>by
     rcases hs.own κ b q c hκ hc with h | h
     ·omega
     ·exact h)
  refine ⟨S,μ,?_⟩
  have e:(Tr.mk need o.dst .any ro [(κ,b)] [(κ,b')] gs).apply A=(A.set κ (some b')).wL o.dst .any:=by
   cases dH:o.dst with
   | none=>exact kL _
   | some d =>
    have:=kL (A:=A) (κ:=κ) (b:=b) (b':=b') (need:=need) (ro:=ro) (gs:=gs) .any
    unfold Tr.apply at this ⊢
    simp only [M.wL,M.put,M.set,M.mk.injEq,Option.some.injEq] at this ⊢
    refine ⟨?_,this.2⟩
    funext t
    by_cases c:t=d
    ·simp [c]
    ·have:¬ d=t:=fun e=>c e.symm
     simp [c,this]
  rw [e]
  exact h1.put hd (.any _)
end
def CB (n k:Nat) (z:List D):List AV:=(List.range n).map fun q=>.d (z.getD (q % k) default)
section
variable {C : Cx} {A : M} {a : Act} {w : World} {S : Nat → Prop} {μ : Mu} {ν : Nat → Bool}
def unN (ρ:Operand→Option AV) (x:Operand):Option AV:=match ρ x with
 | some (.wu n f)=>some (.d (.sl n f))
 | y=>y
theorem TJ {ρ:Operand→Option AV} (h:∀ x y,ρ x=some y→Rel w S μ ν y (a.eval x)):∀ x y,unN ρ x=some y→Rel w S μ ν y (a.eval x):=by
 intro x y hy
 unfold unN at hy
 split at hy
 ·rename_i n f hx
  have h1:=h x _ hx
  obtain rfl:=Option.some.inj hy
  generalize a.eval x=v at h1
  cases h1 with
  | wu hd=>exact .d hd
 ·exact h x y hy
def rF (T:List (Nat × TI)) (ρ:Operand→Option AV) (t len:Nat) (ps:List (Nat × Operand)):Option (Nat × Nat × List D) :=
 match look T t,xg ρ ps with
 | some { kind:=.slice e,.. },some vs=>(match look T e with
  | some i=>bif Nat.ble (len * i.size) 16777216&&Nat.ble 1 i.size then (match FF (fun q=>some (q * i.size,i.size)) (CB (len * i.size) i.size i.zero) vs with
   | some cs=>(match wv cs with | some ds=>bif Nat.beq ds.length (len * i.size) then some (e,i.size,ds) else none | none=>none)
   | none=>none) else none
  | none=>none)
 | _,_=>none
theorem xj {P:Program} {T:List (Nat × TI)} (hT:mP P T) {ρ:Operand→Option AV} (hρ:∀ x y,ρ x=some y→Rel w S μ ν y (a.eval x)) {t len:Nat} {ps:Array (Nat × Operand)} {e k:Nat} {ds:List D} (h:rF T ρ t len ps.toList=some (e,k,ds)) :
  ∃ cells:Array Value,(Instr.buildSlice t len (ps.map fun (i,x)=>(i,a.eval x))).run P w=.ok (.slice (some ⟨w.heap.size,0,none⟩) len len) (w.alloc (.cells cells e))∧cells.size=len * k∧ia w S k len (yW k len ds) cells.toList∧ds.length=len * k∧len≤maxLen:=by
 unfold rF at h
 split at h
 ·rename_i e' _ _ _ _ vs hl hv
  split at h
  ·rename_i i hi
   cases hb:(Nat.ble (len * i.size) 16777216&&Nat.ble 1 i.size) with
   | false=>rw [hb] at h; cases h
   | true =>
    rw [hb] at h
    simp only [Bool.and_eq_true] at hb
    have hle:=Nat.le_of_ble_eq_true hb.1
    have R7:=Nat.le_of_ble_eq_true hb.2
    simp only [cond_true] at h
    split at h
    ·rename_i cs Ip
     split at h
     ·rename_i ds' hp
      cases Ik:Nat.beq ds'.length (len * i.size) with
      | false=>rw [Ik] at h; cases h
      | true =>
       rw [Ik] at h
       have hdl:=Nat.eq_of_beq_eq_true Ik
       simp only [cond_true,Option.some.injEq,Prod.mk.injEq] at h
       obtain ⟨rfl,rfl,rfl⟩:=h
       have ecs:=rC hp
       subst ecs
       obtain ⟨ti,z,F⟩:=aH (hT t _ hl)
       have hu:=ee F.kind
       obtain ⟨tj,zj,G⟩:=aH (hT e' _ hi)
       obtain ⟨q1,q2⟩:=jb (w:=w) (S:=S) G.Vx
       have hzs:zj.cells.size=i.size:=by rw [← G.zM,← q1]; simp
       have hz:dG w S μ ν (CB (len * i.size) i.size i.zero) ((Array.range (len * i.size)).map (zj.cells[· % zj.cells.size]!)).toList:=by
        refine ⟨by simp [CB],fun q hq=>?_⟩
        have QN:q < len * i.size:=by simpa [CB] using hq
        have hm:q % i.size < i.size:=Nat.mod_lt _ R7
        have e1:(CB (len * i.size) i.size i.zero).getD q default=.d (i.zero.getD (q % i.size) default):=by simp [CB,List.getD,QN]
        have e2:((Array.range (len * i.size)).map (zj.cells[· % zj.cells.size]!)).toList.getD q undef=zj.cells.toList.getD (q % i.size) undef:=by
         have h1:q % i.size < zj.cells.size:=by omega
         simp only [List.getD,Array.getElem?_toList,Array.getElem?_map,Array.getElem?_range,QN,if_true,Option.map_some,Option.getD_some,hzs]
         rw [getElem!_pos zj.cells _ h1,Array.getElem?_eq_getElem h1]
         rfl
        rw [e1,e2]
        exact .d (q2 _ (by rw [G.zM]; exact hm))
       obtain ⟨v1,v2⟩:=vg hρ ps.toList vs hv
       obtain ⟨FG,hf,hr⟩:=yu (fun q=>some (q * i.size,i.size)) vs (ps.toList.map fun p=>(p.1,a.eval p.2)) _ _ ((Array.range (len * i.size)).map (zj.cells[· % zj.cells.size]!)) hz v1 v2 Ip
       have AU:FG.size=len * i.size:=by have:=hr.1; simp at this; omega
       refine ⟨FG,?_,AU,⟨by simpa using AU,fun q hq=>⟨(uu hdl hq).1,fun j hj=>?_⟩⟩,hdl,?_⟩
       ·have W8:(ps.map fun (i,x)=>(i,a.eval x)).toList=ps.toList.map fun p=>(p.1,a.eval p.2):=by simp
        have hn:¬ len * i.size > 2 ^ 24:=by omega
        simp only [Instr.buildSlice,Sem.run_bind,run_underlying hu,Result.andThen_ok,sizeOf,typeInfo,run_program,G.info,Sem.run_pure,G.size,Sem.run_ite,hn,if_false,W8]
        by_cases h0:len * i.size=0
        ·rw [h0] at AU hf
         simp only [h0,if_true]
         have:∀ (g g':Nat→Value),(Array.range 0).map g=(Array.range 0).map g':=fun g g'=>by simp
         rw [this _ (zj.cells[· % zj.cells.size]!),hf]
         simp [newRow]
        ·simp only [h0,if_false,zeroValue,typeInfo,Sem.run_bind,run_program,Result.andThen_ok,G.info,Sem.run_pure,G.zero]
         rw [hf]
         simp [newRow]
       ·rw [(uu hdl hq).2 j hj]
        have iR:q * i.size+j < ds'.length:=by
         rw [hdl]
         calc q * i.size+j < q * i.size+i.size:=by omega
          _=(q+1) * i.size:=by rw [Nat.add_mul,Nat.one_mul]
          _≤len * i.size:=Nat.mul_le_mul_right _ hq
        have:=hr.2 (q * i.size+j) (by simpa using iR)
        rw [jc _ _ iR] at this
        exact gT.1 this
       ·have:len * 1≤len * i.size:=Nat.mul_le_mul_left len R7
        simp only [maxLen]
        omega
     ·cases h
    ·cases h
  ·cases h
 ·cases h
theorem Ek {T:List (Nat × TI)} (hT:mP C.P T) {o:Oper} {dst t len:Nat} {ps:Array (Nat × Operand)} {e k:Nat} {ds:List D} {ρ:Operand→Option AV} {need:List (Nat × AV)} {ro:List (Nat × bK)} {gs:List (Nat × Bool)}
  (hs:df C A a w S μ ν) (hd:o.dst=some dst) (Vy:dst < C.nt) (ho:o.op=.buildSlice t len ps) (hρ:∀ x y,ρ x=some y→Rel w S μ ν y (a.eval x)) (h:rF T ρ t len ps.toList=some (e,k,ds)) (hf:ja A dst) :
  o.wp C.P a w (fun a' w'=>∃ S' μ',df C ((Tr.mk need (some dst) (.own dst len) ro [] [(dst,.row e k len (yW k len ds))] gs).apply A) a' w' S' μ' ν) (fun _ _ _=>False):=by
 obtain ⟨cells,ga,kI,pD,_,X0⟩:=xj hT hρ h
 unfold Oper.wp execOp
 simp only [ho,Sem.run_bind,ga,Result.andThen_ok,Sem.run_pure]
 have rE:¬ S w.heap.size:=fun h=>by have:=hs.bound _ h; omega
 have hw:∀ q,S q→(w.alloc (.cells cells e)).heap[q]? = w.heap[q]?:=fun q hq=>heap_alloc_old w _ (hs.bound q hq)
 have h1:=hs.alloc hf (b:=.row e k len (yW k len ds)) (cur:=cells) (e:=e) (cap:=len) (by simp [bK.keys]) (FK (heap_alloc_new w _) rE kI (Nat.le_refl _) X0 (by rw [← kI,← Array.length_toList,List.take_length]) (pD.mono (fun _ x=>x) hw))
 have h2:=h1.put (dst:=some dst) (x:=.own dst len) (v:=.slice (some ⟨w.heap.size,0,none⟩) len len) (fun t ht=>by cases ht; exact Vy) (.own (by simp [da]))
 rw [oa]
 exact ⟨S,_,by rw [hd]; exact h2⟩
theorem R8 {T:List (Nat × TI)} (hT:mP C.P T) {o:Oper} {dst t e:Nat} {l c:Operand} {it i:TI} {kl kc:IntKind} {n:Int} {need:List (Nat × AV)} {ro:List (Nat × bK)} {gs:List (Nat × Bool)}
  (hs:df C A a w S μ ν) (hd:o.dst=some dst) (Vy:dst < C.nt) (ho:o.op=.makeSlice t l c) (ht:look T t=some it) (hk:it.kind=.slice e) (he:look T e=some i) (hl:a.eval l=.int kl n) (hc:a.eval c=.int kc n)
  (h0:0≤n) (hm:n.toNat≤maxLen) (hb:n.toNat * i.bytes≤140737488355328) (hf:ja A dst) :
  o.wp C.P a w (fun a' w'=>∃ S' μ',df C ((Tr.mk need (some dst) (.own dst n.toNat) ro [] [(dst,.row e i.size n.toNat fun _=>i.zero)] gs).apply A) a' w' S' μ' ν) (fun _ _ _=>False):=by
 obtain ⟨tj,z,F⟩:=aH (hT _ _ ht)
 obtain ⟨ej,ez,G⟩:=aH (hT _ _ he)
 have sB:=F.kind
 rw [hk] at sB
 have hu:=ee sB
 have X0:n≤9223372036854775807:=by have:=hm; simp only [maxLen] at this; omega
 have VA:(ej.bytes:Int) * n≤281474976710656:=by
  rw [G.bytes]
  have h1:((i.bytes * n.toNat:Nat):Int)≤281474976710656:=by rw [Nat.mul_comm]; omega
  rw [Int.natCast_mul,Int.toNat_of_nonneg h0] at h1
  exact h1
 have ga:=run_make (P:=C.P) w t e ej ez hu G.info G.zero kl kc n n h0 (Int.le_refl _) VA X0
 rw [G.size] at ga
 unfold Oper.wp execOp
 simp only [ho,hl,hc,Sem.run_bind,ga,Result.andThen_ok,Sem.run_pure]
 have rE:¬ S w.heap.size:=fun h=>by have:=hs.bound _ h; omega
 have hw:∀ q,S q→(w.alloc (.cells (madeCells ez.cells (n.toNat * i.size)) e)).heap[q]? = w.heap[q]?:=fun q hq=>heap_alloc_old w _ (hs.bound q hq)
 obtain ⟨q1,q2⟩:=jb (w:=w) (S:=S) G.Vx
 have VZ:ez.cells.size=i.size:=by have:=q1; simp only [Array.length_toList] at this; rw [this,G.zM]
 have pD:ia w S i.size n.toNat (fun _=>i.zero) (madeCells ez.cells (n.toNat * i.size)).toList:=by
  refine ⟨by simp [size_madeCells],fun q hq=>⟨G.zM,fun j hj=>?_⟩⟩
  have iR:q * i.size+j < n.toNat * i.size:=by
   calc q * i.size+j < q * i.size+i.size:=by omega
    _=(q+1) * i.size:=by rw [Nat.add_mul,Nat.one_mul]
    _≤n.toNat * i.size:=Nat.mul_le_mul_right _ hq
  have e1:(madeCells ez.cells (n.toNat * i.size)).toList.getD (q * i.size+j) undef=ez.cells.toList.getD j undef:=by
   have JS:j < ez.cells.size:=by omega
   have MH:(q * i.size+j) % ez.cells.size=j:=by rw [VZ,Nat.mul_comm,Nat.mul_add_mod,Nat.mod_eq_of_lt hj]
   simp [madeCells,List.getD,iR,MH,JS]
  rw [e1]
  exact q2 j (by rw [G.zM]; exact hj)
 have h1:=hs.alloc hf (b:=.row e i.size n.toNat fun _=>i.zero) (cur:=madeCells ez.cells (n.toNat * i.size)) (e:=e) (cap:=n.toNat) (by simp [bK.keys]) (FK (heap_alloc_new w _) rE (size_madeCells _ _) (Nat.le_refl _) hm (List.take_of_length_le (by simp [size_madeCells])) (pD.mono (fun _ x=>x) hw))
 have h2:=h1.put (dst:=some dst) (x:=.own dst n.toNat) (v:=.slice (some ⟨w.heap.size,0,none⟩) n.toNat n.toNat) (fun t ht=>by cases ht; exact Vy) (.own (by simp [da]))
 rw [oa]
 exact ⟨S,_,by rw [hd]; exact h2⟩
theorem FU {T:List (Nat × TI)} (hT:mP C.P T) {o:Oper} {t len:Nat} {ps:Array (Nat × Operand)} {e k:Nat} {ds:List D} {ρ:Operand→Option AV} {τ:Tr}
  (hs:df C A a w S μ ν) (hd:∀ t,o.dst=some t→t < C.nt) (ho:o.op=.buildSlice t len ps) (hρ:∀ x y,ρ x=some y→Rel w S μ ν y (a.eval x)) (h:rF T ρ t len ps.toList=some (e,k,ds))
  (h0:τ.v=.d (.sl len (yW k len ds))) (h1:τ.dst=o.dst) (h2:τ.mem=[]) (h3:τ.fk=[]) :
  o.wp C.P a w (fun a' w'=>∃ S' μ',df C (τ.apply A) a' w' S' μ' ν) (fun _ _ _=>False):=by
 obtain ⟨cells,ga,kI,pD,_,X0⟩:=xj hT hρ h
 unfold Oper.wp execOp
 simp only [ho,Sem.run_bind,ga,Result.andThen_ok,Sem.run_pure]
 let S':Nat→Prop:=fun q=>S q∨q=w.heap.size
 have h4:=hs.world (S':=S') (w':=w.alloc (.cells cells e)) (fun _ x=>.inl x) (fun q hq=>hq.elim .inl (fun e=>.inr ⟨by omega,by rw [e]; simp⟩)) (mI w _ _)
 have TL:Rd (w.alloc (.cells cells e)) S' (.sl len (yW k len ds)) (.slice (some ⟨w.heap.size,0,none⟩) len len):=by
  refine .sl len _ ⟨w.heap.size,0,none⟩ len k (fun i j=>cells.toList.getD (i * k+j) undef) (Nat.le_refl _) X0 (.inr rfl) (fun i hi=>(pD.2 i hi).1) (fun i j hi hj=>⟨.inr rfl,?_⟩) (fun i j hi hj=>?_)
  ·have iR:i * k+j < cells.size:=by
    rw [kI]
    calc i * k+j < i * k+k:=by omega
     _=(i+1) * k:=by rw [Nat.add_mul,Nat.one_mul]
     _≤len * k:=Nat.mul_le_mul_right k hi
   rw [gb _ _ _ cells e (0,0) (heap_alloc_new w _)]
   simp [List.getD,iR]
  ·exact ((pD.2 i hi).2 j hj).mono (fun _ x=>.inl x) (fun q hq=>heap_alloc_old w _ (hs.bound q hq))
 have h5:=h4.put (dst:=o.dst) (x:=.d (.sl len (yW k len ds))) (v:=.slice (some ⟨w.heap.size,0,none⟩) len len) hd (.d TL)
 refine ⟨S',μ,?_⟩
 have e:τ.apply A=A.wL o.dst (.d (.sl len (yW k len ds))):=by
  unfold Tr.apply M.wL M.put
  rw [h0,h1,h2,h3]
  cases ho:o.dst with
  | none=>simp [look]
  | some d =>
   simp only [look,List.map_nil,List.not_mem_nil,if_false,Option.some.injEq]
   congr 1
   funext t
   by_cases c:d=t
   ·simp [c]
   ·have:¬ t=d:=fun e=>c e.symm
    simp [c,this]
 rw [e]
 exact h5
def KM (T:List (Nat × TI)) (ρ:Operand→Option AV):Op→Option (AV × Ob)
 | .convert src d x=>(match ρ x,look T src,look T d with
  | some (.d (.v (.string s))),some _,some { kind:=.slice e,.. }=>(match look T e with
   | some { kind:=.int .u8,.. }=>some (.d (.sl s.size fun i=>[.v (.int .u8 (s.data.toList.getD i 0).toNat)]),.pr (s.size≤maxLen))
   | _=>none)
  | _,_,_=>none)
 | _=>none
theorem Ph {T:List (Nat × TI)} (hT:mP C.P T) (hs:df C A a w S μ ν) {o:Oper} {ρ:Operand→Option AV} (hρ:∀ x y,ρ x=some y→Rel w S μ ν y (a.eval x)) (hd:∀ t,o.dst=some t→t < C.nt) {v:AV} {ob:Ob} (h:KM T ρ o.op=some (v,ob)) (cb:ob.den) (need:List (Nat × AV)) (ro:List (Nat × bK)) (gs:List (Nat × Bool)) :
  o.wp C.P a w (fun a' w'=>∃ S' μ',df C ((Tr.mk need o.dst v ro [] [] gs).apply A) a' w' S' μ' ν) (fun _ _ _=>False):=by
 unfold KM at h
 split at h
 ·rename_i src d x ho
  split at h
  ·rename_i s ti e _ _ _ _ hx ki dH
   split at h
   ·rename_i _ _ _ _ he
    simp only [Option.some.injEq,Prod.mk.injEq] at h
    obtain ⟨rfl,rfl⟩:=h
    have cb:s.size≤maxLen:=cb
    have hv:=cI rfl (hρ _ _ hx)
    obtain ⟨ds,hds⟩:∃ q,C.P.underlying src=some q:=by
     obtain ⟨tj,zj,G⟩:=aH (hT _ _ ki)
     have:=G.kind
     cases hu:C.P.underlying src with
     | some q=>exact ⟨q,rfl⟩
     | none=>cases hk:ti.kind <;> rw [hk] at this <;> simp [dq,hu] at this
    obtain ⟨t1,z1,F1⟩:=aH (hT _ _ dH)
    obtain ⟨t2,z2,F2⟩:=aH (hT _ _ he)
    have ga:=Lib.run_convert_string_bytes (P:=C.P) w src d e s hds (ee F1.kind) (rD F2.kind)
    unfold Oper.wp execOp
    simp only [ho,hv,Sem.run_bind,ga,Result.andThen_ok,Sem.run_pure]
    let S':Nat→Prop:=fun q=>S q∨q=w.heap.size
    have A9:Kept w (Lib.bytesWorld w e s) (fun _=>False):=⟨rfl,rfl,rfl,by rw [Lib.bytesWorld_size]; omega,fun b hb _=>Lib.bytesWorld_at_old w e s b hb⟩
    have h4:=hs.world (S':=S') (fun _ x=>.inl x) (fun q hq=>hq.elim .inl (fun e'=>.inr ⟨by omega,by rw [e',Lib.bytesWorld_size]; omega⟩)) A9
    have TL:Rd (Lib.bytesWorld w e s) S' (.sl s.size fun i=>[.v (.int .u8 (s.data.toList.getD i 0).toNat)]) (.slice (some ⟨w.heap.size,0,none⟩) s.size (grownCap w s.size 0 e)):=by
     refine .sl s.size _ ⟨w.heap.size,0,none⟩ _ 1 (fun i _=>.int .u8 (s.data.toList.getD i 0).toNat) (grownCap_ge w s.size 0 e) (grownCap_le_maxLen w s.size 0 e cb) (.inr rfl) (fun i hi=>rfl) (fun i j hi hj=>⟨.inr rfl,?_⟩) (fun i j hi hj=>?_)
     ·obtain rfl:j=0:=by omega
      simp only [Nat.mul_one,Nat.add_zero,Nat.zero_add]
      exact Lib.bytesWorld_cell w e s i hi
     ·obtain rfl:j=0:=by omega
      exact .v _ rfl
    have h5:=h4.put (dst:=o.dst) hd (.d TL)
    refine ⟨S',μ,?_⟩
    have e:(Tr.mk need o.dst (.d (.sl s.size fun i=>[.v (.int .u8 (s.data.toList.getD i 0).toNat)])) ro [] [] gs).apply A=A.wL o.dst (.d (.sl s.size fun i=>[.v (.int .u8 (s.data.toList.getD i 0).toNat)])):=by
     unfold Tr.apply M.wL M.put
     cases ho:o.dst with
     | none=>simp [look]
     | some d =>
      simp only [look,List.map_nil,List.not_mem_nil,if_false,Option.some.injEq]
      congr 1
      funext t
      by_cases c:d=t
      ·simp [c]
      ·have:¬ t=d:=fun e=>c e.symm
       simp [c,this]
    rw [e]
    exact h5
   ·cases h
  ·cases h
 ·cases h
end
section
variable {C : Cx} {A : M} {a : Act} {w : World} {S : Nat → Prop} {μ : Mu} {ν : Nat → Bool}
theorem Bb {P:Program} {t k e:Nat} (h:dq P t (.map k e)=true):P.underlying t=some (.map k e):=by
 simp only [dq] at h
 split at h
 ·rename_i x; simp only [Bool.and_eq_true,beq_iff_eq] at h; obtain ⟨rfl,rfl⟩:=h; exact x
 ·cases h
theorem df.KN (h:df C A a w S μ ν) {κ g cap:Nat} {b b':bK} {w':World} (hκ:A.lb κ=some b) (hμ:μ κ=some (some (g,cap))) (hk:Kept w w' (fun q=>q=g)) (hb:eI w' S μ b' g cap):df C (A.set κ (some b')) a w' S μ ν:=by
 have RZ:=h.mem κ b hκ
 rw [hμ] at RZ
 have rE:=RZ.at.not
 have hw:∀ q,S q→w'.heap[q]? = w.heap[q]?:=fun q hq=>hk.block q (h.bound q hq) (fun e=>rE (e ▸ hq))
 refine ⟨h.tmps,h.defers,fun t=>(h.eF t).mono (fun _ x=>x) hw (fun _ _ x=>x),fun κ' XT Cz=>?_,fun κ1 κ2 b1 b2 g' c c' h1 h2 h3 h4=>?_,fun κ' XT g' c h1 h2=>?_,h.eJ,h.fresh,fun q hq=>Nat.lt_of_lt_of_le (h.bound q hq) hk.size,?_⟩
 ·simp only [M.set] at Cz
  by_cases c:κ'=κ
  ·simp only [c,if_true,Option.some.injEq] at Cz
   subst Cz
   rw [c,hμ]
   exact hb.ok
  ·simp only [c,if_false] at Cz
   have hm:=h.mem κ' XT Cz
   refine hm.mono (fun _ x=>x) hw (fun _ _ x=>x) (fun g' cc e=>?_)
   have XU:=hm
   rw [e] at XU
   exact ⟨hk.block g' XU.at.lt (fun eg=>c (h.inj κ' κ XT b g' cc cap Cz hκ e (by rw [eg]; exact hμ))),XU.at.not⟩
 ·have q1:∃ x,A.lb κ1=some x:=by
   simp only [M.set] at h1
   by_cases c:κ1=κ
   ·rw [c]; exact ⟨b,hκ⟩
   ·simp only [c,if_false] at h1; exact ⟨_,h1⟩
  have q2:∃ x,A.lb κ2=some x:=by
   simp only [M.set] at h2
   by_cases c:κ2=κ
   ·rw [c]; exact ⟨b,hκ⟩
   ·simp only [c,if_false] at h2; exact ⟨_,h2⟩
  obtain ⟨x1,q1⟩:=q1
  obtain ⟨x2,q2⟩:=q2
  exact h.inj κ1 κ2 x1 x2 g' c c' q1 q2 h3 h4
 ·have q1:∃ x,A.lb κ'=some x:=by
   simp only [M.set] at h1
   by_cases c:κ'=κ
   ·rw [c]; exact ⟨b,hκ⟩
   ·simp only [c,if_false] at h1; exact ⟨_,h1⟩
  obtain ⟨x1,q1⟩:=q1
  exact h.own κ' x1 g' c q1 h2
 ·refine h.kept.trans hk (fun q hq e=>?_)
  subst e
  rcases h.own κ b q cap hκ hμ with h1 | h1
  ·omega
  ·exact h1
def World.zN (w:World) (r:Nat) (o:Obj):World:={ w with heap:=w.heap.setIfInBounds r o }
def KO:Obj→Bool
 | .cells _ _ _=>false
 | _=>true
theorem rG {P:Program} {r:Nat} {o:Obj} (h:w.heap[r]? = some o) (hn:KO o=true:=by rfl):(getObj r).run P w=.ok o w:=by
 cases o <;> first | (simp [KO] at hn; done) | simp [getObj,Sem.run,h]
theorem MI {P:Program} {r:Nat} {x:Obj} (o:Obj) (h:w.heap[r]? = some x) (hn:KO x=true:=by rfl):(setObj r o).run P w=.ok () (World.zN w r o):=by
 cases x <;> first | (simp [KO] at hn; done) | simp [setObj,Sem.run,h,World.zN]
theorem rj (r:Nat) (o:Obj):Kept w (World.zN w r o) (fun q=>q=r):=⟨rfl,rfl,rfl,by simp [World.zN],fun q _ hq=>by
 have:¬ r=q:=fun e=>hq e.symm
 simp [World.zN,Array.getElem?_setIfInBounds,this]⟩
theorem Fk {r:Nat} {x:Obj} (o:Obj) (h:w.heap[r]? = some x):(World.zN w r o).heap[r]? = some o:=by
 have hr:=(Array.getElem?_eq_some_iff.1 h).1
 simp [World.zN,hr]
def FV:Value→Value→Bool
 | .int k a,.int k' b=>decide (k=k')&&!(a == b)
 | _,_=>false
theorem FW {kk:IntKind} {kv:Value}:∀ (es:List MapEntry) (i:Nat),(∀ e,e∈es→FV kv e.key=true)→(∃ k n,kv=.int k n)→Instr.findNow (.int kk) kv es i=some none
 | [],_,_,_=>rfl
 | e :: es,i,h,hv=>by
  have h1:=h e (by simp)
  obtain ⟨k,n,rfl⟩:=hv
  have ih:=FW (kk:=kk) es (i+1) (fun x hx=>h x (by simp [hx])) ⟨k,n,rfl⟩
  cases hk:e.key with
  | int k' m =>
   rw [hk] at h1
   simp only [FV,Bool.and_eq_true,decide_eq_true_eq,Bool.not_eq_true'] at h1
   obtain ⟨rfl,h2⟩:=h1
   simp only [Instr.findNow,Instr.sameNow,hk,if_true,h2]
   exact ih
  | _=>rw [hk] at h1; simp [FV] at h1
structure R where
 v:AV
 ro:List (Nat × bK)
 mem:List (Nat × bK)
 fk:List (Nat × bK)
 ob:Ob
theorem oe {P:Program} {b:Bool} {kt:TypeId} {ik kk:IntKind} {n:Int} (QT:P.underlying kt=some (.int ik)) (q:Nat):(Instr.checkKey b (q+1) kt (.int kk n)).run P w=.ok () w:=by
 rw [Instr.checkKey]
 simp [run_underlying QT]
theorem FX {P:Program} {t kt et:TypeId} {ik kk:IntKind} {n0:Int} {g clock:Nat} {cur:Array MapEntry} {x:Value} (hu:P.underlying t=some (.map kt et)) (QT:P.underlying kt=some (.int ik)) (hg:w.heap[g]? = some (.map cur clock)) (hf:Instr.findNow (.int ik) (.int kk n0) cur.toList 0=some none) :
  (Instr.mapUpdate t (.map (some g)) (.int kk n0) x).run P w=.ok () (World.zN w g (.map (cur.push { key:=.int kk n0,val:=x,born:=clock }) (clock+1))):=by
 unfold Instr.mapUpdate
 simp only [Sem.run_bind,run_underlying hu,Result.andThen_ok,rG hg,oe QT 9999,Instr.findKey,run_underlying QT,hf,Sem.run_pure,MI _ hg]
def FY (T:List (Nat × TI)) (lb:List (Nat × bK)) (ρ:Operand→Option AV) (dst:Option Nat) (quiet:Bool):Op→Option R
 | .makeMap _ none=>(match quiet,dst with
  | false,some d=>some ⟨.uh d,[],[],[(d,.mp 0 fun _=>(.bool false,default))],.tt⟩
  | _,_=>none)
 | .insert t m k x=>(match quiet,dst,ρ m,ρ k,ρ x,look T t with
  | false,none,some (.uh κ),some (.d (.v (.int kk a))),some (.d xd),some { kind:=.map kt _,.. }=>(match look lb κ,look T kt with
   | some (.mp n f),some { kind:=.int _,.. }=>some ⟨.any,[],[(κ,.mp n f)],[(κ,.mp (n+1) fun q=>if q < n then f q else (.int kk a,xd))],.be ((List.range n).all fun i=>FV (.int kk a) (f i).1) true⟩
   | _,_=>none)
  | _,_,_,_,_,_=>none)
 | .range t m=>(match quiet,dst,ρ m,look T t with
  | false,some d,some (.uh κ),some { kind:=.map _ _,.. }=>(match look lb κ with
   | some (.mp n f)=>bif Nat.beq d κ then none else some ⟨.ptr d 0,[(κ,.mp n f)],[],[(d,.it κ n [])],.tt⟩
   | _=>none)
  | _,_,_,_=>none)
 | .entry it=>(match ρ it with
  | some (.ptr κi 0)=>(match look lb κi with
   | some (.it κ n (i :: s))=>(match look lb κ with
    | some (.mp n' f)=>some ⟨.ef [.d (.v (f i).1),.d (f i).2],[(κi,.it κ n (i :: s)),(κ,.mp n' f)],[],[],(Ob.ne n n').and (.pr (i < n))⟩
    | _=>none)
   | _=>none)
  | _=>none)
 | .slice t x none (some h) none=>(match quiet,dst,ρ x,ρ h,look T t with
  | false,some d,some (.own κ n),some (.d (.v (.int _ hh))),some { kind:=.slice e,.. }=>(match look lb κ,look T e with
   | some (.row e' k n' f),some i=>bif Nat.beq d κ||!Nat.beq e e'||!Nat.beq k i.size then none else some ⟨.own d hh.toNat,[],[(κ,.row e' k n' f)],[(d,.row e' k hh.toNat f)],(Ob.ne n n').and (.pr (0≤hh∧hh≤n))⟩
   | _,_=>none)
  | false,some _,some (.d (.v (.slice none 0 0))),some (.d (.v (.int _ hh))),some { kind:=.slice e,.. }=>(match look T e with
   | some _=>some ⟨.d (.v (.slice none 0 0)),[],[],[],.pr (0≤hh∧hh≤0)⟩
   | none=>none)
  | _,_,_,_,_=>none)
 | .call { callee:=.builtin .cap,args:=xs,argTypes:=ts }=>(match qj ρ xs.toList,ts.toList with
  | some [.d (.v (.slice none 0 0))],[t]=>(match look T t with
   | some { kind:=.slice _,.. }=>some ⟨.d (.v (.int .i64 0)),[],[],[],.tt⟩
   | _=>none)
  | _,_=>none)
 | .call { callee:=.builtin .append,args:=xs,argTypes:=ts }=>(match quiet,dst,qj ρ xs.toList,ts.toList with
  | false,some d,some [.d (.v (.slice none 0 0)),.d (.v (.int .i64 n))],[t,t']=>(match look T t,look T t' with
   | some { kind:=.slice e,.. },some { kind:=.int .i64,.. }=>(match look T e with
    | some i=>some ⟨.own d n.toNat,[],[],[(d,.row e i.size n.toNat fun _=>i.zero)],.pr (0≤n∧n.toNat≤maxLen∧n.toNat * i.bytes≤140737488355328)⟩
    | none=>none)
   | _,_=>none)
  | _,_,_,_=>none)
 | _=>none
theorem MJ {o:Oper} {d:Nat} {v:AV} {x:Value} {b:bK} {w1:World} {need:List (Nat × AV)} {ro:List (Nat × bK)} {gs:List (Nat × Bool)} (hs:df C A a w S μ ν) (dH:o.dst=some d) (Vy:d < C.nt) (hf:ja A d) (hk:d ∉ b.keys)
  (ga:(execOp a.eval o).run C.P w=.ok (.value x) w1) (hk1:Kept w w1 (fun q=>q=w.heap.size)) (hb:∀ c,eI w1 S μ b w.heap.size c) (hv:∀ μ',μ' d=some (some (w.heap.size,0))→Rel w1 S μ' ν v x) :
  o.wp C.P a w (fun a' w'=>∃ S' μ',df C ((Tr.mk need (some d) v ro [] [(d,b)] gs).apply A) a' w' S' μ' ν) (fun _ _ _=>False):=by
 unfold Oper.wp
 rw [ga]
 have rE:¬ S w.heap.size:=fun h=>by have:=hs.bound _ h; omega
 have h1:=hs.QQ hf (blk:=b) (b:=w.heap.size) (cap:=0) hk hk1 rE (fun κ' b' g' c q1 q2 e'=>by
  have:=hs.mem κ' b' q1
  rw [q2] at this
  have:=this.at.lt
  omega) (.inl hs.kept.size) (hb 0)
 have h2:=h1.put (dst:=some d) (x:=v) (v:=x) (fun t ht=>by cases ht; exact Vy) (hv _ (by simp [da]))
 rw [oa]
 exact ⟨S,_,by rw [dH]; exact h2⟩
theorem KP {T:List (Nat × TI)} (hT:mP C.P T) (hs:df C A a w S μ ν) {lb:List (Nat × bK)} {o:Oper} {ρ:Operand→Option AV} (hρ:∀ x y,ρ x=some y→Rel w S μ ν y (a.eval x)) (hd:∀ t,o.dst=some t→t < C.nt) {quiet:Bool} {r:R}
  (h:FY T lb ρ o.dst quiet o.op=some r) (lf:∀ p,p∈r.ro→A.lb p.1=some p.2) (jd:∀ p,p∈r.mem→A.lb p.1=some p.2) (cb:r.ob.den) (ui:∀ κ,κ∈(r.fk.map (·.1)).filter (fun k=>!(r.mem.map (·.1)).contains k)→ja A κ) (need:List (Nat × AV)) (gs:List (Nat × Bool)) :
  o.wp C.P a w (fun a' w'=>∃ S' μ',df C ((Tr.mk need o.dst r.v r.ro r.mem r.fk gs).apply A) a' w' S' μ' ν) (fun _ _ _=>False):=by
 unfold FY at h
 split at h
 all_goals rename_i ho
 ·-- makeMap
  split at h
  ·rename_i d dH
   simp only [Option.some.injEq] at h
   subst h
   rw [dH]
   have rE:¬ S w.heap.size:=fun h=>by have:=hs.bound _ h; omega
   refine MJ hs dH (hd d dH) (ui d (by simp)) (by simp [bK.keys]) (x:=.map (some w.heap.size)) (w1:=w.alloc (.map #[] 0)) ?_ (mI w _ _) (fun c=>⟨#[],heap_alloc_new w _,rE,rfl,fun i hi=>absurd hi (by omega)⟩) (fun μ' hμ=>.uh hμ)
   simp [execOp,ho,Instr.makeMap]
  ·cases h
 ·-- insert
  rename_i t m k x
  split at h
  ·rename_i κ kk n0 xd kt _ _ _ _ _ dH hm hk hx ht
   split at h
   ·rename_i n f ik _ _ _ _ hl V0
    simp only [Option.some.injEq] at h
    subst h
    rw [dH]
    have hκ:=jd (κ,.mp n f) (by simp)
    have Iw:=hs.mem κ _ hκ
    have hv:=hρ _ _ hm
    generalize VB:a.eval m=mv at hv
    cases hv with
    | @uh _ g cap hμ =>
     rw [hμ] at Iw
     obtain ⟨cur,hg,rE,kI,bX⟩:=Iw.at
     obtain ⟨ti,z,F⟩:=aH (hT _ _ ht)
     obtain ⟨tj,zj,G⟩:=aH (hT _ _ V0)
     have hu:=Bb F.kind
     have QT:=rD G.kind
     have ZB:=dU (hρ _ _ hk)
     have cb:(List.range n).all (fun i=>FV (.int kk n0) (f i).1)=true:=cb
     simp only [List.all_eq_true,List.mem_range] at cb
     have nf:Instr.findNow (.int ik) (.int kk n0) cur.toList 0=some none:=FW _ 0 (fun e he=>by
      obtain ⟨q,hq,rfl⟩:=List.getElem_of_mem he
      have hqn:q < n:=by simpa [kI] using hq
      obtain ⟨e,h1,h2,_⟩:=bX q hqn
      have:cur.toList[q]=e:=by
       have:=Array.getElem?_eq_some_iff.1 h1
       simpa using this.2
      rw [this,h2]
      exact cb q hqn) ⟨kk,n0,rfl⟩
     have ga:(execOp a.eval o).run C.P w=.ok .skip (World.zN w g (.map (cur.push { key:=.int kk n0,val:=a.eval x,born:=n }) (n+1))):=by
      have h1:=FX (x:=a.eval x) hu QT hg nf
      unfold execOp
      rw [ho]
      simp only [VB,ZB,Sem.run_bind,h1,Result.andThen_ok,Sem.run_pure]
     unfold Oper.wp
     rw [ga]
     refine ⟨S,μ,?_⟩
     rw [kL,dH]
     refine hs.KN hκ hμ (rj g _) ⟨_,Fk _ hg,rE,by simp [kI],fun i hi=>?_⟩
     have hw:∀ q,S q→(World.zN w g (.map (cur.push { key:=.int kk n0,val:=a.eval x,born:=n }) (n+1))).heap[q]? = w.heap[q]?:=fun q hq=>(rj g _).block q (hs.bound q hq) (fun e=>rE (e ▸ hq))
     by_cases c:i < n
     ·obtain ⟨e,h1,h2,h3,h4,h5⟩:=bX i c
      refine ⟨e,?_,by simp only [c,if_true]; exact h2,h3,h4,by simp only [c,if_true]; exact h5.mono (fun _ x=>x) hw⟩
      rw [Array.getElem?_push,if_neg (by omega)]
      exact h1
     ·obtain rfl:i=n:=by omega
      refine ⟨_,by rw [Array.getElem?_push,if_pos kI.symm],by simp only [c,if_false],rfl,rfl,?_⟩
      simp only [c,if_false]
      exact (gT.1 (hρ _ _ hx)).mono (fun _ x=>x) hw
   ·cases h
  ·cases h
 ·-- range
  rename_i t m
  split at h
  ·rename_i d κ _ _ _ _ _ _ dH hm ht
   split at h
   ·rename_i n f hl
    rw [Bool.cond_eq_ite] at h
    split at h
    ·cases h
    ·rename_i rA
     simp only [Option.some.injEq] at h
     subst h
     rw [dH]
     have hκ:=lf (κ,.mp n f) (by simp)
     have Iw:=hs.mem κ _ hκ
     have hv:=hρ _ _ hm
     generalize VB:a.eval m=mv at hv
     cases hv with
     | @uh _ g cap hμ =>
      rw [hμ] at Iw
      obtain ⟨cur,hg,adq,kI,bX⟩:=Iw.at
      obtain ⟨ti,z,F⟩:=aH (hT _ _ ht)
      have hu:=Bb F.kind
      have rE:¬ S w.heap.size:=fun h=>by have:=hs.bound _ h; omega
      have hdk:d≠κ:=fun e=>by rw [e,Nat.beq_refl] at rA; exact rA rfl
      refine MJ hs dH (hd d dH) (ui d (by simp)) (by simp [bK.keys,hdk]) (x:=.pointer (some ⟨w.heap.size,0,none⟩)) (w1:=w.alloc (.mapIter (some g) n #[] n)) ?_ (mI w _ _) (fun c=>⟨g,cap,hμ,heap_alloc_new w _,rE⟩) (fun μ' TH=>.ptr TH)
      simp [execOp,ho,VB,Instr.range,run_underlying hu,rG hg]
   ·cases h
  ·cases h
 ·-- entry
  rename_i it
  split at h
  ·rename_i κi VC
   split at h
   ·rename_i κ n i s X1
    split at h
    ·rename_i n' f hl
     simp only [Option.some.injEq] at h
     subst h
     have cb:((Ob.ne n n').and (.pr (i < n))).den:=cb
     obtain ⟨o1,o2⟩:=Ob.cG cb
     have o1:n=n':=o1
     subst o1
     have o2:i < n:=o2
     have hκi:=lf (κi,.it κ n (i :: s)) (by simp)
     have hκ:=lf (κ,.mp n f) (by simp)
     have hv:=hρ _ _ VC
     generalize Tc:a.eval it=iv at hv
     cases hv with
     | @ptr _ _ gi ci hμi =>
      have W6:=hs.mem κi _ hκi
      rw [hμi] at W6
      obtain ⟨mg,c,hμ,hgi,aag⟩:=W6.at
      have Iw:=hs.mem κ _ hκ
      rw [hμ] at Iw
      obtain ⟨cur,hg,rE,kI,bX⟩:=Iw.at
      obtain ⟨e,h1,h2,h3,h4,h5⟩:=bX i o2
      have nf:cur.find? (fun x=>x.born == i)=some e:=by
       rw [Array.find?_eq_some_iff_getElem]
       have hi:i < cur.size:=by omega
       refine ⟨by simp [h4],i,hi,(Array.getElem?_eq_some_iff.1 h1).2,fun j hj=>?_⟩
       obtain ⟨e',q1,_,_,q4,_⟩:=bX j (by omega)
       have:cur[j]=e':=(Array.getElem?_eq_some_iff.1 q1).2
       rw [this,q4]
       simp
       omega
      refine kJ (τ:=Tr.mk need o.dst (.ef [.d (.v (f i).1),.d (f i).2]) [(κi,.it κ n (i :: s)),(κ,.mp n f)] [] [] gs) hs hd (x:=.tuple #[e.key,e.val]) ?_ (.ef rfl (fun q hq=>?_)) rfl rfl rfl
      ·simp [execOp,ho,Tc,Instr.entry,rG hgi,rG hg,nf]
      ·match q with
       | 0=>simpa [h2] using gG (w:=w) (S:=S) (μ:=μ) (ν:=ν) h3
       | 1=>simpa using Rel.d (μ:=μ) (ν:=ν) h5
       | q+2=>simp at hq; omega
    ·cases h
   ·cases h
  ·cases h
 ·-- slice
  rename_i t x hh0
  split at h
  ·rename_i d κ n kk hh e _ _ _ _ dH hx VU ht
   split at h
   ·rename_i e' k n' f i hl VV
    rw [Bool.cond_eq_ite] at h
    split at h
    ·cases h
    ·rename_i rA
     simp only [Bool.or_eq_true,Bool.not_eq_true',not_or,Bool.not_eq_false] at rA
     simp only [Option.some.injEq] at h
     subst h
     rw [dH]
     have cb:((Ob.ne n n').and (.pr (0≤hh∧hh≤n))).den:=cb
     obtain ⟨o1,o2,o3⟩:=Ob.cG cb
     have o1:n=n':=o1
     subst o1
     have hdk:d≠κ:=fun e=>rA.1.1 (by rw [e,Nat.beq_refl])
     have hκ:=jd (κ,.row e' k n f) (by simp)
     have Iw:=hs.mem κ _ hκ
     obtain ⟨ti,z,F⟩:=aH (hT _ _ ht)
     have hu:=ee F.kind
     obtain ⟨te,ze,G⟩:=aH (hT _ _ VV)
     have Ei:(sizeOf e).run C.P w=.ok i.size w:=by simp [sizeOf,typeInfo,G.info,G.size]
     have hhv:=dU (hρ _ _ VU)
     have hf:ja A d:=ui d (by simp [hdk])
     have hv:=hρ _ _ hx
     generalize VD:a.eval x=xv at hv
     have Xa:=hs.drop κ
     have hfd:=hf.drop κ
     have q1:∀ (k:IntKind) (i:Int) (y:Nat) (c:BoundsCode),0≤i→i≤y→(Instr.sliceBound (.int k i) y c).run C.P w=.ok i.toNat w:=fun k i y c h0 h1=>run_sliceBound w k i y c h0 h1
     cases hv with
     | @eH _ ad hμ =>
      have abV:hh=0:=by omega
      subst abV
      unfold Oper.wp
      have ga:(execOp a.eval o).run C.P w=.ok (.value (.slice ad 0 0)) w:=by
       simp (disch:=omega) [execOp,ho,VD,hhv,Instr.sliceAt,run_underlying hu,Instr.slice,Instr.sliceBounds,q1,Ei]
      rw [ga]
      have h1:=Xa.FL hfd e' k f
      have h2:=h1.put (dst:=some d) (x:=.own d 0) (v:=.slice ad 0 0) (fun t ht=>by cases ht; exact hd d dH) (.eH (by simp [da]))
      rw [vh hdk]
      exact ⟨S,_,by rw [dH]; exact h2⟩
     | @own _ _ g cap hμ =>
      rw [hμ] at Iw
      have rE:=Iw.at.not
      obtain ⟨cur,hg,_,h3,h4,h5,h6⟩:=Iw.at
      unfold Oper.wp
      have X2:hh.toNat≤cap:=by omega
      have ga:(execOp a.eval o).run C.P w=.ok (.value (.slice (some ⟨g,0,none⟩) hh.toNat cap)) w:=by
       simp (disch:=omega) [execOp,ho,VD,hhv,Instr.sliceAt,run_underlying hu,Instr.slice,Instr.sliceBounds,q1,Ei,gH]
      rw [ga]
      have h1:=Xa.QQ hfd (blk:=.row e' k hh.toNat f) (b:=g) (cap:=cap) (w':=w) (by simp [bK.keys]) (Kept.refl _ _) rE (fun κ' b' g' c q1 q2 e'=>by
       simp only [M.set] at q1
       by_cases cc:κ'=κ
       ·simp [cc] at q1
       ·simp only [cc,if_false] at q1
        subst e'
        exact cc (hs.inj κ' κ b' _ g' c cap q1 hκ q2 hμ)) (hs.own κ _ g cap hκ hμ) ⟨cur,hg,rE,h3,X2,h5,fun q hq=>h6 q (by omega)⟩
      have h2:=h1.put (dst:=some d) (x:=.own d hh.toNat) (v:=.slice (some ⟨g,0,none⟩) hh.toNat cap) (fun t ht=>by cases ht; exact hd d dH) (.own (by simp [da]))
      rw [vh hdk]
      exact ⟨S,_,by rw [dH]; exact h2⟩
   ·cases h
  ·rename_i d kk hh e _ _ _ _ dH hx VU ht
   split at h
   ·rename_i i VV
    simp only [Option.some.injEq] at h
    subst h
    have cb:0≤hh∧hh≤0:=cb
    obtain rfl:hh=0:=by omega
    obtain ⟨ti,z,F⟩:=aH (hT _ _ ht)
    have hu:=ee F.kind
    obtain ⟨te,ze,G⟩:=aH (hT _ _ VV)
    have Ei:(sizeOf e).run C.P w=.ok i.size w:=by simp [sizeOf,typeInfo,G.info,G.size]
    have hhv:=dU (hρ _ _ VU)
    have VD:=cI rfl (hρ _ _ hx)
    have q1:∀ (k:IntKind) (i:Int) (y:Nat) (c:BoundsCode),0≤i→i≤y→(Instr.sliceBound (.int k i) y c).run C.P w=.ok i.toNat w:=fun k i y c h0 h1=>run_sliceBound w k i y c h0 h1
    refine kJ (τ:=Tr.mk need o.dst (.d (.v (.slice none 0 0))) [] [] [] gs) hs hd (x:=.slice none 0 0) ?_ (gG rfl) rfl rfl rfl
    simp (disch:=omega) [execOp,ho,VD,hhv,Instr.sliceAt,run_underlying hu,Instr.slice,Instr.sliceBounds,q1,Ei]
   ·cases h
  ·cases h
 ·-- cap
  rename_i xs ts
  split at h
  ·rename_i t VW Tv
   split at h
   ·rename_i _ _ _ _ _ ht
    simp only [Option.some.injEq] at h
    subst h
    obtain ⟨ti,z,F⟩:=aH (hT _ _ ht)
    have hu:=ee F.kind
    have lH:=kK hρ xs.toList _ VW
    have Xb:xs.map a.eval = #[.slice none 0 0]:=by
     have hl:(xs.map a.eval).toList.length=1:=by simpa using lH.1
     have h0:=lH.2 0 (by simp)
     have h0:=cI rfl h0
     apply Array.ext'
     rw [Array.toList_map] at hl ⊢
     match hq:xs.toList.map a.eval,hl with
     | [y],_=>rw [hq] at h0; simpa using h0
    have TM:ts = #[t]:=by cases ts; simpa using Tv
    refine kJ (τ:=Tr.mk need o.dst (.d (.v (.int .i64 0))) [] [] [] gs) hs hd (x:=.int .i64 0) ?_ (gG rfl) rfl rfl rfl
    simp [execOp,ho,resolve,invoke,builtin,Xb,TM,Builtin.cap_,run_underlying hu,goInt]
   ·cases h
  ·cases h
 ·-- append of ac7
  rename_i xs ts
  split at h
  ·rename_i d n t t' dH VW Tv
   split at h
   ·rename_i e _ _ _ _ _ _ _ _ ht ht'
    split at h
    ·rename_i i VV
     simp only [Option.some.injEq] at h
     subst h
     have cb:0≤n∧n.toNat≤maxLen∧n.toNat * i.bytes≤140737488355328:=cb
     obtain ⟨o1,o2,o3⟩:=cb
     rw [dH]
     obtain ⟨ti,z,F⟩:=aH (hT _ _ ht)
     have hu:=ee F.kind
     obtain ⟨ti',z',F'⟩:=aH (hT _ _ ht')
     have hu':=rD F'.kind
     obtain ⟨te,ze,G⟩:=aH (hT _ _ VV)
     have lH:=kK hρ xs.toList _ VW
     have Xb:xs.map a.eval = #[.slice none 0 0,.int .i64 n]:=by
      have hl:(xs.map a.eval).toList.length=2:=by simpa using lH.1
      have h0:=cI rfl (lH.2 0 (by simp))
      have h1:=cI rfl (lH.2 1 (by simp))
      apply Array.ext'
      rw [Array.toList_map] at hl ⊢
      match hq:xs.toList.map a.eval,hl with
      | [y,y'],_=>rw [hq] at h0 h1; simp only [List.getD_cons_zero,List.getD_cons_succ] at h0 h1; rw [h0,h1]
     have TM:ts = #[t,t']:=by cases ts; simpa using Tv
     have X0:n≤9223372036854775807:=by have:=o2; simp only [maxLen] at this; omega
     have hwr:IntKind.i64.wrap n=n:=IntWalk.i64_in n ⟨by omega,X0⟩
     obtain ⟨q1,q2⟩:=jb (w:=w) (S:=S) G.Vx
     have VZ:ze.cells.size=i.size:=by have:=q1; simp only [Array.length_toList] at this; rw [this,G.zM]
     have hf:ja A d:=ui d (by simp)
     by_cases h0:n=0
     ·subst h0
      have ga:(execOp a.eval o).run C.P w=.ok (.value (.slice none 0 0)) w:=by
       simp [execOp,ho,resolve,invoke,builtin,Xb,TM,Builtin.append_,run_underlying hu,run_underlying hu',sizeOf,typeInfo,G.info,asInt,asIntOf,hwr]
      unfold Oper.wp
      rw [ga]
      have h1:=hs.FL hf e i.size (fun _=>i.zero)
      have h2:=h1.put (dst:=some d) (x:=.own d 0) (v:=.slice none 0 0) (fun t ht=>by cases ht; exact hd d dH) (.eH (by simp [da]))
      rw [oa]
      exact ⟨S,_,by rw [dH]; exact h2⟩
     ·have hn1:0 < n.toNat:=by omega
      have Zw:=grownCap_ge w n.toNat 0 e
      have QO:grownCap w n.toNat 0 e≤maxLen:=grownCap_le_maxLen w n.toNat 0 e o2
      have h48:¬ (281474976710656 < Builtin.nextslicecap n.toNat 0 * te.bytes):=by rw [nextslicecap_zero hn1,G.bytes]; omega
      have aah:¬ (281474976710656 < n * (te.bytes:Int)):=by
       rw [G.bytes]
       have h1:((n.toNat * i.bytes:Nat):Int)≤140737488355328:=by omega
       rw [Int.natCast_mul,Int.toNat_of_nonneg o1] at h1
       omega
      have ga:∃ cells:Array Value,(execOp a.eval o).run C.P w=.ok (.value (.slice (some ⟨w.heap.size,0,none⟩) n.toNat (grownCap w n.toNat 0 e))) (w.drew.alloc (.cells cells e))∧cells=Builtin.zeroCells ze.cells n.toNat++Builtin.zeroCells ze.cells (grownCap w n.toNat 0 e - n.toNat):=by
       refine ⟨_,?_,rfl⟩
       have Zy:¬ n.toNat=0:=by omega
       have aai:¬ n < 0:=by omega
       have hle:¬ n≤0:=by omega
       have XW:¬ (9223372036854775807 < n):=by omega
       have ZC:max n 0=n:=by omega
       by_cases kI:i.size=0
       ·have hz0:ze.cells.size=0:=by omega
        have hze:Builtin.zeroCells ze.cells n.toNat = #[]:=by simp [Builtin.zeroCells,hz0]
        rw [hze]
        simp [execOp,ho,resolve,invoke,builtin,Xb,TM,Builtin.append_,run_underlying hu,run_underlying hu',sizeOf,typeInfo,G.info,asInt,asIntOf,hwr,aai,hle,h48,aah,XW,ZC,Question.forced,Builtin.firstCells,newRow,grownCap,zeroValue,G.zero,G.size,kI]
       ·simp [execOp,ho,resolve,invoke,builtin,Xb,TM,Builtin.append_,run_underlying hu,run_underlying hu',sizeOf,typeInfo,G.info,asInt,asIntOf,hwr,aai,hle,h48,aah,XW,ZC,Question.forced,Builtin.firstCells,newRow,grownCap,zeroValue,G.zero,G.size]
        intro hc
        rcases Nat.mul_eq_zero.1 hc with hc | hc
        ·exact absurd hc Zy
        ·exact absurd hc kI
      obtain ⟨cells,ga,KQ⟩:=ga
      have X2:cells.size=grownCap w n.toNat 0 e * i.size:=by
       rw [KQ]
       simp only [Array.size_append,size_zeroCells,VZ,← Nat.add_mul]
       congr 1
       omega
      unfold Oper.wp
      rw [ga]
      have rE:¬ S w.heap.size:=fun h=>by have:=hs.bound _ h; omega
      have hw:∀ q,S q→(w.drew.alloc (.cells cells e)).heap[q]? = w.heap[q]?:=fun q hq=>heap_alloc_old w.drew _ (hs.bound q hq)
      have h1:=hs.QQ hf (blk:=.row e i.size n.toNat fun _=>i.zero) (b:=w.heap.size) (cap:=grownCap w n.toNat 0 e) (w':=w.drew.alloc (.cells cells e)) (by simp [bK.keys]) ⟨rfl,rfl,rfl,by simp,fun k hk _=>heap_alloc_old w.drew _ hk⟩ rE (fun κ' b' g' c q1 q2 e'=>by
       have:=hs.mem κ' b' q1
       rw [q2] at this
       have:=this.at.lt
       omega) (.inl hs.kept.size) ⟨cells,heap_alloc_new w.drew _,rE,X2,Zw,QO,fun q hq=>⟨G.zM,fun j hj=>?_⟩⟩
      ·have h2:=h1.put (dst:=some d) (x:=.own d n.toNat) (v:=.slice (some ⟨w.heap.size,0,none⟩) n.toNat (grownCap w n.toNat 0 e)) (fun t ht=>by cases ht; exact hd d dH) (.own (by simp [da]))
       rw [oa]
       exact ⟨S,_,by rw [dH]; exact h2⟩
      ·have iR:q * i.size+j < n.toNat * i.size:=by
        calc q * i.size+j < q * i.size+i.size:=by omega
         _=(q+1) * i.size:=by rw [Nat.add_mul,Nat.one_mul]
         _≤n.toNat * i.size:=Nat.mul_le_mul_right _ hq
       have JS:j < ze.cells.size:=by omega
       have MH:(q * i.size+j) % ze.cells.size=j:=by rw [VZ,Nat.mul_comm,Nat.mul_add_mod,Nat.mod_eq_of_lt hj]
       refine ⟨ze.cells[j],?_,?_⟩
       ·rw [KQ,Array.getElem?_append_left (by rw [size_zeroCells,VZ]; exact iR)]
        have Iq:q * i.size+j < n.toNat * ze.cells.size:=by rw [VZ]; exact iR
        simp only [Builtin.zeroCells,Array.getElem?_map,Array.getElem?_range,Iq,if_true,Option.map_some,MH]
        rw [getElem!_pos ze.cells j JS]
       ·have:=(q2 j (by rw [G.zM]; exact hj)).mono (S':=S) (w':=w.drew.alloc (.cells cells e)) (fun _ x=>x) hw
        rw [show ze.cells.toList.getD j undef=ze.cells[j] from by simp [List.getD,JS]] at this
        exact this
    ·cases h
   ·cases h
  ·cases h
 ·cases h
theorem R9 {T:List (Nat × TI)} {lb:List (Nat × bK)} {ρ:Operand→Option AV} {dst:Option Nat} {quiet:Bool} {op:Op} {r:R} (h:FY T lb ρ dst quiet op=some r) :
  (∀ p,p∈r.ro→look lb p.1=some p.2)∧(∀ p,p∈r.mem→look lb p.1=some p.2)∧(quiet=true→r.mem=[]∧r.fk=[]):=by
 unfold FY at h
 have nil:∀ {p:Nat × bK},p∈([]:List (Nat × bK))→look lb p.1=some p.2:=fun h=>by cases h
 have one:∀ {κ:Nat} {b:bK},look lb κ=some b→∀ p,p∈[(κ,b)]→look lb p.1=some p.2:=fun h p hp=>by simp only [List.mem_singleton] at hp; subst hp; exact h
 split at h
 ·split at h
  ·simp only [Option.some.injEq] at h; subst h; exact ⟨fun _=>nil,fun _=>nil,fun hq=>by cases hq⟩
  ·cases h
 ·split at h
  ·split at h
   ·rename_i hl _; simp only [Option.some.injEq] at h; subst h; exact ⟨fun _=>nil,one hl,fun hq=>by cases hq⟩
   ·cases h
  ·cases h
 ·split at h
  ·split at h
   ·rename_i hl
    rw [Bool.cond_eq_ite] at h
    split at h
    ·cases h
    ·simp only [Option.some.injEq] at h; subst h; exact ⟨one hl,fun _=>nil,fun hq=>by cases hq⟩
   ·cases h
  ·cases h
 ·split at h
  ·split at h
   ·rename_i X1
    split at h
    ·rename_i hl
     simp only [Option.some.injEq] at h; subst h
     exact ⟨fun p hp=>by
      simp only [List.mem_cons,List.not_mem_nil,or_false] at hp
      rcases hp with rfl | rfl
      ·exact X1
      ·exact hl,fun _=>nil,fun _=>⟨rfl,rfl⟩⟩
    ·cases h
   ·cases h
  ·cases h
 ·split at h
  ·split at h
   ·rename_i hl _
    rw [Bool.cond_eq_ite] at h
    split at h
    ·cases h
    ·simp only [Option.some.injEq] at h; subst h; exact ⟨fun _=>nil,one hl,fun hq=>by cases hq⟩
   ·cases h
  ·split at h
   ·simp only [Option.some.injEq] at h; subst h; exact ⟨fun _=>nil,fun _=>nil,fun hq=>by cases hq⟩
   ·cases h
  ·cases h
 ·split at h
  ·split at h
   ·simp only [Option.some.injEq] at h; subst h; exact ⟨fun _=>nil,fun _=>nil,fun _=>⟨rfl,rfl⟩⟩
   ·cases h
  ·cases h
 ·split at h
  ·split at h
   ·split at h
    ·simp only [Option.some.injEq] at h; subst h; exact ⟨fun _=>nil,fun _=>nil,fun hq=>by cases hq⟩
    ·cases h
   ·cases h
  ·cases h
 ·cases h
end
def CD:Value→Value→Bool
 | .int k a,.int k' b=>decide (k=k')&&(a == b)
 | _,_=>false
def qz (k:Value):Nat→(Nat→Value × D)→Option Nat
 | 0,_=>none
 | n+1,f=>bif CD k (f 0).1 then some 0 else (qz k n fun i=>f (i+1)).map (· + 1)
def Bc (k:Value) (n:Nat) (f:Nat→Value × D):Bool:=(qz k n f).isSome
def xk (k:Value) (n:Nat) (f:Nat→Value × D) (z:D):D:=match qz k n f with | some p=>(f p).2 | none=>z
def mpN (k:Value) (n:Nat) (f:Nat→Value × D):Nat:=match qz k n f with | some _=>n | none=>n+1
def V1 (k:Value) (x:D) (n:Nat) (f:Nat→Value × D):Nat→Value × D:=match qz k n f with
 | some p=>fun q=>if q=p then ((f q).1,x) else f q
 | none=>fun q=>if q < n then f q else (k,x)
def QU (P:Program) (t:Nat):Option D:=match P.info? t with
 | some j=>(match j.zero with | some (.int k n)=>some (.v (.int k n)) | some (.bool b)=>some (.v (.bool b)) | _=>none)
 | none=>none
def MK (P:Program) (T:List (Nat × TI)) (lb:List (Nat × bK)) (ρ:Operand→Option AV) (dst:Option Nat) (quiet:Bool):Op→Option R
 | .mapUpdate t m k x=>(match quiet,dst,ρ m,ρ k,ρ x,look T t with
  | false,none,some (.uh κ),some (.d (.v (.int kk a))),some (.d xd),some { kind:=.map kt _,.. }=>(match look lb κ,look T kt with
   | some (.mp n f),some { kind:=.int _,.. }=>some ⟨.any,[],[(κ,.mp n f)],[(κ,.mp (mpN (.int kk a) n f) (V1 (.int kk a) xd n f))],.pr (∀ i,i < n→∃ b,(f i).1=.int kk b)⟩
   | _,_=>none)
  | _,_,_,_,_,_=>none)
 | .lookup t m k ok=>(match ρ m,ρ k,look T t with
  | some (.uh κ),some (.d (.v (.int kk a))),some { kind:=.map kt et,.. }=>(match look lb κ,look T kt,QU P et with
   | some (.mp n f),some { kind:=.int _,.. },some z=>some ⟨bif ok then .ef [.d (xk (.int kk a) n f z),.d (.v (.bool (Bc (.int kk a) n f)))] else .d (xk (.int kk a) n f z),[(κ,.mp n f)],[],[],.pr (∀ i,i < n→∃ b,(f i).1=.int kk b)⟩
   | _,_,_=>none)
  | some (.yo n f),some (.d (.v (.int kk a))),some { kind:=.map kt et,.. }=>(match look T kt,QU P et with
   | some { kind:=.int _,.. },some z=>some ⟨bif ok then .ef [.d (xk (.int kk a) n f z),.d (.v (.bool (Bc (.int kk a) n f)))] else .d (xk (.int kk a) n f z),[],[],[],.pr (∀ i,i < n→∃ b,(f i).1=.int kk b)⟩
   | _,_=>none)
  | _,_,_=>none)
 | _=>none
theorem zO {k:Value}:∀ {n:Nat} {f:Nat→Value × D},(∀ p,qz k n f=some p→p < n∧CD k (f p).1=true)∧(qz k n f=none→∀ i,i < n→CD k (f i).1=false)
 | 0,f=>⟨fun p h=>(by cases h),fun _ i hi=>absurd hi (by omega)⟩
 | n+1,f=>by
  have ih:=zO (k:=k) (n:=n) (f:=fun i=>f (i+1))
  simp only [qz]
  cases hk:CD k (f 0).1 with
  | true=>exact ⟨fun p h=>by simp only [cond_true,Option.some.injEq] at h; subst h; exact ⟨by omega,hk⟩,fun h=>(by cases h)⟩
  | false =>
   simp only [cond_false]
   refine ⟨fun p h=>?_,fun h i hi=>?_⟩
   ·cases hq:qz k n (fun i=>f (i+1)) with
    | none=>rw [hq] at h; cases h
    | some q =>
     rw [hq] at h
     simp only [Option.map_some,Option.some.injEq] at h
     subst h
     obtain ⟨h1,h2⟩:=ih.1 q hq
     exact ⟨by omega,h2⟩
   ·have hq:qz k n (fun i=>f (i+1))=none:=by
     cases hq:qz k n (fun i=>f (i+1)) with
     | none=>rfl
     | some q=>rw [hq] at h; cases h
    cases i with
    | zero=>exact hk
    | succ i=>exact ih.2 hq i (by omega)
theorem xl {ik kk:IntKind} {a:Int}:∀ (es:List MapEntry) (f:Nat→Value × D) (j:Nat),(∀ (i:Nat) (h:i < es.length),(es[i]'h).key=(f i).1∧∃ b,(f i).1=.int kk b) →
  Instr.findNow (.int ik) (.int kk a) es j=some (match qz (.int kk a) es.length f with | some p=>(es[p]?).map (fun e=>(p+j,e.val)) | none=>none)
 | [],_,_,_=>rfl
 | e :: es,f,j,h=>by
  obtain ⟨h1,b,h2⟩:=h 0 (by simp)
  have h1:e.key=(f 0).1:=h1
  have ih:=xl (ik:=ik) (kk:=kk) (a:=a) es (fun i=>f (i+1)) (j+1) (fun i hi=>h (i+1) (by simpa using hi))
  simp only [Instr.findNow,Instr.sameNow,h1,h2,if_true,List.length_cons,qz,CD,decide_true,Bool.true_and]
  cases hab:(a == b) with
  | true=>simp
  | false =>
   simp only [ih,cond_false]
   cases hq:qz (.int kk a) es.length (fun i=>f (i+1)) with
   | none=>simp
   | some q =>
    simp only [Option.map_some,List.getElem?_cons_succ]
    congr 2
    funext e
    simp; omega
section
variable {C : Cx} {A : M} {a : Act} {w : World} {S : Nat → Prop} {μ : Mu} {ν : Nat → Bool}
theorem TN {P:Program} {k:IntKind} {n:Int}:(Instr.keyThatStays (.int k n) (.int k n)).run P w=.ok (.int k n) w:=by
 simp [Instr.keyThatStays,Instr.sameBits]
theorem FZ {ok:Bool} {x:D} {b:Bool} {v:Value} (hv:Rel w S μ ν (.d x) v):Rel w S μ ν (bif ok then .ef [.d x,.d (.v (.bool b))] else .d x) (bif ok then .tuple #[v,.bool b] else v):=by
 cases ok with
 | false=>exact hv
 | true =>
  refine .ef rfl (fun q hq=>?_)
  match q with
  | 0=>simpa using hv
  | 1=>simpa using gG (w:=w) (S:=S) (μ:=μ) (ν:=ν) (x:=.bool b) rfl
  | q+2=>simp at hq; omega
theorem F3 {T:List (Nat × TI)} (hT:mP C.P T) {t kt et:Nat} {ik kk:IntKind} {n0:Int} {kv:Value} {z:D} {n g:Nat} {f:Nat→Value × D} {cur:Array MapEntry} {ok:Bool} {s1 b1 s2 b2:Nat} {z1 z2:List D} {q1 q2:Bool}
  (ZB:kv=.int kk n0) (ht:look T t=some { kind:=.map kt et,size:=s1,bytes:=b1,zero:=z1,eq:=q1 }) (V0:look T kt=some { kind:=.int ik,size:=s2,bytes:=b2,zero:=z2,eq:=q2 }) (hz:QU C.P et=some z) (cb:(Ob.pr (∀ i,i < n→∃ b,(f i).1=.int kk b)).den)
  (hg:w.heap[g]? = some (.map cur n)) (kI:cur.size=n) (bX:∀ i,i < n→∃ e,cur[i]? = some e∧e.key=(f i).1∧scalar e.key=true∧e.born=i∧Rd w S (f i).2 e.val) :
  ∃ v,(Instr.lookup t (.map (some g)) kv ok).run C.P w=.ok (bif ok then .tuple #[v,.bool (Bc (.int kk n0) n f)] else v) w∧Rel w S μ ν (.d (xk (.int kk n0) n f z)) v:=by
 subst ZB
 obtain ⟨ti,z0,F⟩:=aH (hT _ _ ht)
 obtain ⟨tj,zj,G⟩:=aH (hT _ _ V0)
 have hu:=Bb F.kind
 have QT:=rD G.kind
 have cb:∀ i,i < n→∃ b,(f i).1=.int kk b:=cb
 have X3:∀ (i:Nat) (h:i < cur.toList.length),(cur.toList[i]'h).key=(f i).1∧∃ b,(f i).1=.int kk b:=fun i hi=>by
  have S7:i < n:=by simpa [kI] using hi
  obtain ⟨e,h1,h2,_⟩:=bX i S7
  have:cur.toList[i]=e:=by simpa using (Array.getElem?_eq_some_iff.1 h1).2
  rw [this]
  exact ⟨h2,cb i S7⟩
 have nf:=xl (ik:=ik) (a:=n0) cur.toList f 0 X3
 have AU:cur.toList.length=n:=by simpa using kI
 rw [AU] at nf
 have hck:=fun q=>oe (w:=w) (P:=C.P) (b:=cur.isEmpty) (kk:=kk) (n:=n0) QT q
 obtain ⟨zv,hzv,hzr⟩:∃ zv,(zeroValue et).run C.P w=.ok zv w∧Rel w S μ ν (.d z) zv:=by
  unfold QU at hz
  split at hz
  ·rename_i j hj
   split at hz
   ·rename_i k' n' hjz
    simp only [Option.some.injEq] at hz
    subst hz
    exact ⟨.int k' n',by simp only [zeroValue,typeInfo,Sem.run_bind,run_program,Result.andThen_ok,hj,Sem.run_pure,hjz],gG rfl⟩
   ·rename_i b hjz
    simp only [Option.some.injEq] at hz
    subst hz
    exact ⟨.bool b,by simp only [zeroValue,typeInfo,Sem.run_bind,run_program,Result.andThen_ok,hj,Sem.run_pure,hjz],gG rfl⟩
   ·cases hz
  ·cases hz
 cases El:qz (.int kk n0) n f with
 | some p =>
  obtain ⟨hp,hpk⟩:=zO.1 p El
  obtain ⟨e,h1,h2,h3,h4,h5⟩:=bX p hp
  have ZD:cur.toList[p]? = some e:=by simpa using h1
  rw [El] at nf
  simp only [ZD,Option.map_some,Nat.add_zero] at nf
  refine ⟨e.val,?_,by simp only [xk,El]; exact .d h5⟩
  unfold Instr.lookup
  simp only [Sem.run_bind,run_underlying hu,Result.andThen_ok,rG hg,Sem.run_pure,hck 9999,Instr.findKey,run_underlying QT,nf,Bc,El,Option.isSome_some]
  cases ok <;> rfl
 | none =>
  rw [El] at nf
  simp only at nf
  refine ⟨zv,?_,by simp only [xk,El]; exact hzr⟩
  unfold Instr.lookup
  simp only [Sem.run_bind,run_underlying hu,Result.andThen_ok,rG hg,Sem.run_pure,hck 9999,Instr.findKey,run_underlying QT,nf,hzv,Bc,El,Option.isSome_none]
  cases ok <;> rfl
theorem ML {T:List (Nat × TI)} (hT:mP C.P T) (hs:df C A a w S μ ν) {lb:List (Nat × bK)} {o:Oper} {ρ:Operand→Option AV} (hρ:∀ x y,ρ x=some y→Rel w S μ ν y (a.eval x)) (hd:∀ t,o.dst=some t→t < C.nt) {quiet:Bool} {r:R}
  (h:MK C.P T lb ρ o.dst quiet o.op=some r) (lf:∀ p,p∈r.ro→A.lb p.1=some p.2) (jd:∀ p,p∈r.mem→A.lb p.1=some p.2) (cb:r.ob.den) (need:List (Nat × AV)) (gs:List (Nat × Bool)) :
  o.wp C.P a w (fun a' w'=>∃ S' μ',df C ((Tr.mk need o.dst r.v r.ro r.mem r.fk gs).apply A) a' w' S' μ' ν) (fun _ _ _=>False):=by
 unfold MK at h
 split at h
 all_goals rename_i ho
 ·-- an entry is laid
  rename_i t m k x
  split at h
  ·rename_i κ kk n0 xd kt _ _ _ _ _ dH hm hk hx ht
   split at h
   ·rename_i n f ik _ _ _ _ hl V0
    simp only [Option.some.injEq] at h
    subst h
    rw [dH]
    have hκ:=jd (κ,.mp n f) (by simp)
    have Iw:=hs.mem κ _ hκ
    have hv:=hρ _ _ hm
    generalize VB:a.eval m=mv at hv
    cases hv with
    | @uh _ g cap hμ =>
     rw [hμ] at Iw
     obtain ⟨cur,hg,rE,kI,bX⟩:=Iw.at
     obtain ⟨ti,z,F⟩:=aH (hT _ _ ht)
     obtain ⟨tj,zj,G⟩:=aH (hT _ _ V0)
     have hu:=Bb F.kind
     have QT:=rD G.kind
     have ZB:=dU (hρ _ _ hk)
     have cb:∀ i,i < n→∃ b,(f i).1=.int kk b:=cb
     have X3:∀ (i:Nat) (h:i < cur.toList.length),(cur.toList[i]'h).key=(f i).1∧∃ b,(f i).1=.int kk b:=fun i hi=>by
      have S7:i < n:=by simpa [kI] using hi
      obtain ⟨e,h1,h2,_⟩:=bX i S7
      have:cur.toList[i]=e:=by simpa using (Array.getElem?_eq_some_iff.1 h1).2
      rw [this]
      exact ⟨h2,cb i S7⟩
     have nf:=xl (ik:=ik) (a:=n0) cur.toList f 0 X3
     have AU:cur.toList.length=n:=by simpa using kI
     rw [AU] at nf
     have hw:∀ o':Obj,∀ q,S q→(World.zN w g o').heap[q]? = w.heap[q]?:=fun o' q hq=>(rj g _).block q (hs.bound q hq) (fun e=>rE (e ▸ hq))
     have hck:=fun q=>oe (w:=w) (P:=C.P) (b:=false) (kk:=kk) (n:=n0) QT q
     cases El:qz (.int kk n0) n f with
     | some p =>
      obtain ⟨hp,hpk⟩:=zO.1 p El
      obtain ⟨e,h1,h2,h3,h4,h5⟩:=bX p hp
      have aaj:e.key=.int kk n0:=by
       obtain ⟨b,hb⟩:=cb p hp
       rw [hb] at hpk h2
       simp only [CD,decide_true,Bool.true_and,beq_iff_eq] at hpk
       rw [h2,hpk]
      have ZD:cur.toList[p]? = some e:=by simpa using h1
      rw [El] at nf
      simp only [ZD,Option.map_some,Nat.add_zero] at nf
      have ga:(execOp a.eval o).run C.P w=.ok .skip (World.zN w g (.map (cur.modify p fun e=>{ e with key:=.int kk n0,val:=a.eval x }) n)):=by
       unfold execOp
       rw [ho]
       simp only [VB,ZB,Sem.run_bind]
       unfold Instr.mapUpdate
       simp only [Sem.run_bind,run_underlying hu,Result.andThen_ok,rG hg,hck 9999,Instr.findKey,run_underlying QT,nf,Sem.run_pure,h1,Option.map_some,Option.getD_some,aaj,TN,MI _ hg]
      unfold Oper.wp
      rw [ga]
      refine ⟨S,μ,?_⟩
      rw [kL,dH]
      have eN:mpN (.int kk n0) n f=n:=by simp [mpN,El]
      rw [eN]
      refine hs.KN hκ hμ (rj g _) ⟨_,Fk _ hg,rE,by simp [kI],fun i hi=>?_⟩
      obtain ⟨e',q1,q2,q3,q4,q5⟩:=bX i hi
      have fQ:i < cur.size:=by omega
      by_cases c:i=p
      ·subst c
       rw [h1] at q1
       cases q1
       refine ⟨{ e with key:=.int kk n0,val:=a.eval x },?_,?_,rfl,q4,?_⟩
       ·simp [Array.getElem?_modify,h1]
       ·simp only [V1,El,if_true]
        rw [← q2,aaj]
       ·simp only [V1,El,if_true]
        exact (gT.1 (hρ _ _ hx)).mono (fun _ x=>x) (hw _)
      ·refine ⟨e',?_,?_,q3,q4,?_⟩
       ·have c':¬ p=i:=fun e=>c e.symm
        simp [Array.getElem?_modify,c',q1]
       ·simp only [V1,El,c,if_false]; exact q2
       ·simp only [V1,El,c,if_false]; exact q5.mono (fun _ x=>x) (hw _)
     | none =>
      rw [El] at nf
      simp only at nf
      have ga:(execOp a.eval o).run C.P w=.ok .skip (World.zN w g (.map (cur.push { key:=.int kk n0,val:=a.eval x,born:=n }) (n+1))):=by
       have h1:=FX (x:=a.eval x) hu QT hg nf
       unfold execOp
       rw [ho]
       simp only [VB,ZB,Sem.run_bind,h1,Result.andThen_ok,Sem.run_pure]
      unfold Oper.wp
      rw [ga]
      refine ⟨S,μ,?_⟩
      rw [kL,dH]
      have eN:mpN (.int kk n0) n f=n+1:=by simp [mpN,El]
      rw [eN]
      refine hs.KN hκ hμ (rj g _) ⟨_,Fk _ hg,rE,by simp [kI],fun i hi=>?_⟩
      by_cases c:i < n
      ·obtain ⟨e,h1,h2,h3,h4,h5⟩:=bX i c
       refine ⟨e,?_,by simp only [V1,El,c,if_true]; exact h2,h3,h4,by simp only [V1,El,c,if_true]; exact h5.mono (fun _ x=>x) (hw _)⟩
       rw [Array.getElem?_push,if_neg (by omega)]
       exact h1
      ·obtain rfl:i=n:=by omega
       refine ⟨_,by rw [Array.getElem?_push,if_pos kI.symm],by simp only [V1,El,c,if_false],rfl,rfl,?_⟩
       simp only [V1,El,c,if_false]
       exact (gT.1 (hρ _ _ hx)).mono (fun _ x=>x) (hw _)
   ·cases h
  ·cases h
 ·-- an entry is looked up
  rename_i t m k ok
  split at h
  ·rename_i κ kk n0 kt et _ _ _ _ hm hk ht
   split at h
   ·rename_i n f ik _ _ _ _ z hl V0 hz
    simp only [Option.some.injEq] at h
    subst h
    have hκ:=lf (κ,.mp n f) (by simp)
    have Iw:=hs.mem κ _ hκ
    have hv:=hρ _ _ hm
    generalize VB:a.eval m=mv at hv
    cases hv with
    | @uh _ g cap hμ =>
     rw [hμ] at Iw
     obtain ⟨cur,hg,rE,kI,bX⟩:=Iw.at
     obtain ⟨v,hrv,hv⟩:=F3 (ok:=ok) hT (dU (hρ _ _ hk)) ht V0 hz cb hg kI bX
     refine kJ (τ:=Tr.mk need o.dst (bif ok then .ef [.d (xk (.int kk n0) n f z),.d (.v (.bool (Bc (.int kk n0) n f)))] else .d (xk (.int kk n0) n f z)) [(κ,.mp n f)] [] [] gs) hs hd (x:=bif ok then .tuple #[v,.bool (Bc (.int kk n0) n f)] else v) ?_ (FZ hv) rfl rfl rfl
     simp only [execOp,ho,VB,Sem.run_bind,hrv,Result.andThen_ok,Sem.run_pure]
   ·cases h
  ·rename_i n f kk n0 kt et _ _ _ _ hm hk ht
   split at h
   ·rename_i ik _ _ _ _ z V0 hz
    simp only [Option.some.injEq] at h
    subst h
    have hv:=hρ _ _ hm
    generalize VB:a.eval m=mv at hv
    cases hv with
    | @yo _ _ g hp =>
     obtain ⟨rE,cur,hg,kI,bX⟩:=hp
     obtain ⟨v,hrv,hv⟩:=F3 (ok:=ok) hT (dU (hρ _ _ hk)) ht V0 hz cb hg kI bX
     refine kJ (τ:=Tr.mk need o.dst (bif ok then .ef [.d (xk (.int kk n0) n f z),.d (.v (.bool (Bc (.int kk n0) n f)))] else .d (xk (.int kk n0) n f z)) [] [] [] gs) hs hd (x:=bif ok then .tuple #[v,.bool (Bc (.int kk n0) n f)] else v) ?_ (FZ hv) rfl rfl rfl
     simp only [execOp,ho,VB,Sem.run_bind,hrv,Result.andThen_ok,Sem.run_pure]
   ·cases h
  ·cases h
 ·cases h
theorem F4 {P:Program} {T:List (Nat × TI)} {lb:List (Nat × bK)} {ρ:Operand→Option AV} {dst:Option Nat} {quiet:Bool} {op:Op} {r:R} (h:MK P T lb ρ dst quiet op=some r) :
  (∀ p,p∈r.ro→look lb p.1=some p.2)∧(∀ p,p∈r.mem→look lb p.1=some p.2)∧(quiet=true→r.mem=[]∧r.fk=[])∧∀ k,k∈r.fk.map (·.1)→k∈r.mem.map (·.1):=by
 unfold MK at h
 have nil:∀ {p:Nat × bK},p∈([]:List (Nat × bK))→look lb p.1=some p.2:=fun h=>by cases h
 have one:∀ {κ:Nat} {b:bK},look lb κ=some b→∀ p,p∈[(κ,b)]→look lb p.1=some p.2:=fun h p hp=>by simp only [List.mem_singleton] at hp; subst hp; exact h
 split at h
 ·split at h
  ·split at h
   ·rename_i hl _; simp only [Option.some.injEq] at h; subst h; exact ⟨fun _=>nil,one hl,fun hq=>(by cases hq),fun k hk=>by simpa using hk⟩
   ·cases h
  ·cases h
 ·split at h
  ·split at h
   ·rename_i hl _ _; simp only [Option.some.injEq] at h; subst h; exact ⟨one hl,fun _=>nil,fun _=>⟨rfl,rfl⟩,fun k hk=>(by cases hk)⟩
   ·cases h
  ·split at h
   ·simp only [Option.some.injEq] at h; subst h; exact ⟨fun _=>nil,fun _=>nil,fun _=>⟨rfl,rfl⟩,fun k hk=>(by cases hk)⟩
   ·cases h
  ·cases h
 ·cases h
end
structure pE where
 n:Nat
 n':Nat
 f:Nat→List D
 f':Nat→List D
 eq:n=n'∧∀ i,i < n→u9 (f i) (f' i)
structure QV where
 x:AV
 y:AV
 le:∀ w S μ ν v,Rel w S μ ν x v→Rel w S μ ν y v
structure F5 where
 n:Nat
 n':Nat
 f:Nat→Value × D
 f':Nat→Value × D
 eq:n=n'∧∀ i,i < n→f i=f' i
inductive zP where
 | flat (res:AV)
 | gen (hand:List Nat) (res:AV) (back:List (Nat × bK))
 | dy (c:pE)
 | wO (c:F5)
 | cast (d:Nat) (c:QV)
 | pur (d:Nat)
 | same (κ:Nat) (b':bK)
 | bx (hand:List Nat) (lg:List (Nat × Nat)) (res:AV) (back:List (Nat × bK))
def looks (lb:List (Nat × bK)):List Nat→Option (List (Nat × bK))
 | []=>some []
 | k :: r=>(match look lb k,looks lb r with | some b,some l=>some ((k,b) :: l) | _,_=>none)
def Fl (res:AV) (back:List (Nat × bK)):Bool :=
 res.keys.all (fun k=>(back.map (·.1)).contains k)&&back.all (fun p=>p.2.keys.all fun k=>(back.map (·.1)).contains k)
def KR (T:List (Nat × TI)) (lb:List (Nat × bK)) (t:Nat) (ad v:AV):Option R :=
 match look T t,v.cells with
 | some i,some xs=>(match ad with
  | .ptr κ off=>(match look lb κ with
   | some (.box cs)=>bif Nat.beq xs.length i.size&&Nat.ble (off+i.size) cs.length&&sC.lN xs&&xs.all KJ then some ⟨.any,[],[(κ,.box cs)],[(κ,.box (cs.take off++xs++cs.drop (off+i.size)))],.tt⟩ else none
   | _=>none)
  | .u7 κ k p off=>(match look lb κ,wv xs with
   | some (.row e k' n f),some ds=>bif Nat.beq k k'&&Nat.beq ds.length i.size&&Nat.ble (off+i.size) k&&ds.all wM then
     some ⟨.any,[],[(κ,.row e k n f)],[(κ,.row e k n fun q=>if q=p then (f p).take off++ds++(f p).drop (off+i.size) else f q)],.pr (p < n)⟩ else none
   | _,_=>none)
  | _=>none)
 | _,_=>none
def TP (lb:List (Nat × bK)) (k:Nat):AV→Option (Nat × (Nat→List D) × List (Nat × bK) × Ob)
 | .d (.sl m g)=>some (m,g,[],.pr ((∀ i,i < m→(g i).length=k)∧∀ i,i < m→(g i).all wM=true))
 | .d (.v (.slice none 0 0))=>some (0,fun _=>[],[],.tt)
 | .wu m g=>some (m,g,[],.pr ((∀ i,i < m→(g i).length=k)∧∀ i,i < m→(g i).all wM=true))
 | .own κ m=>(match look lb κ with | some (.row e k' m' g)=>bif Nat.beq k k' then some (m,g,[(κ,.row e k' m' g)],(Ob.ne m m').and (.pr (∀ i,i < m→(g i).all wM=true))) else none | _=>none)
 | _=>none
def F6 (T:List (Nat × TI)) (lb:List (Nat × bK)) (dst t:Nat) (dv sv:AV):Option R :=
 match look T t with
 | some { kind:=.slice e,.. }=>(match look T e with
  | some i=>(match TP lb i.size sv with
   | some (m,g,ro,ob)=>(match dv with
    | .d (.v (.slice none 0 0))=>some ⟨.own dst (0+m),ro,[],[(dst,.row e i.size (0+m) fun q=>if q < 0 then [] else g (q - 0))],ob.and (.pr (0+m≤maxLen∧(0+m) * i.bytes≤140737488355328))⟩
    | .own κ n=>(match look lb κ with
     | some (.row e' k n' f)=>bif Nat.beq e e'&&Nat.beq k i.size&&!Nat.beq dst κ then some ⟨.own dst (n+m),ro,[(κ,.row e' k n' f)],[(dst,.row e i.size (n+m) fun q=>if q < n then f q else g (q - n))],ob.and ((Ob.ne n n').and (.pr (n+m≤maxLen∧(n+m) * i.bytes≤140737488355328)))⟩ else none
     | _=>none)
    | _=>none)
   | none=>none)
  | none=>none)
 | _=>none
def Fm (lb:List (Nat × bK)) (κ:Nat):Bool:=match look lb κ with | some (.box _)=>true | _=>false
def TQ (κ:Nat):AV→Bool
 | .ptr k 0=>Nat.beq k κ
 | _=>false
def V2 (args:List AV) (hand:List Nat) (cZ:List (Nat × bK)) (lg:List (Nat × Nat)) (res:AV) (back:List (Nat × bK)):Bool :=
 lg.all (fun p=>Nat.ble (p.1+1) args.length&&TQ p.2 (args.getD p.1 default)&&Fm cZ p.2&&Fm back p.2) &&
 back.all (fun q=>(lg.map (·.2)).contains q.1||!hand.contains q.1) &&
 res.keys.all (fun k=>(back.map (·.1)).contains k&&!(lg.map (·.2)).contains k) &&
 back.all (fun q=>q.2.keys.all fun k=>(back.map (·.1)).contains k&&!(lg.map (·.2)).contains k)
def Pj (P:Program) (lb:List (Nat × bK)) (quiet:Bool) (cf:AV) (args:List AV):List zP→Option (R × List zP)
 | .flat res :: kj=>(match cf with
  | .fn f cR=>(match uv lb (args++cR) with
   | some (DT,ro,ob)=>bif fJ res then some (⟨res,ro,[],[],ob.and (.pr (iU P f DT [] res []))⟩,kj) else none
   | none=>none)
  | _=>none)
 | .gen hand res back :: kj=>(match cf with
  | .fn f cR=>(match looks lb hand with
   | some cZ=>bif sC.lN (args++cR)&&Fl res back&&sC res&&(!quiet||(hand.isEmpty&&back.isEmpty))&&back.all (fun p=>!hand.contains p.1) then some (⟨res,[],cZ,back,.pr (iU P f (args++cR) cZ res back)⟩,kj) else none
   | none=>none)
  | _=>none)
 | .same κ b' :: kj=>(match cf with
  | .fn f cR=>(match look lb κ with
   | some b=>bif sC.lN (args++cR)&&!quiet then some (⟨.any,[],[(κ,b)],[(κ,b')],.pr (FnS P f (args++cR) κ b b')⟩,kj) else none
   | none=>none)
  | _=>none)
 | .bx hand lg res back :: kj=>(match cf with
  | .fn f cR=>(match looks lb hand with
   | some cZ=>bif sC.lN (args++cR)&&V2 (args++cR) hand cZ lg res back&&sC res&&!quiet then some (⟨res,[],cZ,back,.pr (FnB P f (args++cR) cZ res back lg)⟩,kj) else none
   | none=>none)
  | _=>none)
 | _=>none
def Xc (quiet:Bool) (dst:Option Nat) (kj:List zP):Option (List zP) :=
 match quiet with
 | true=>some kj
 | false=>(match dst,kj with
  | some t,.pur d :: r=>bif Nat.beq t d then some r else none
  | _,_=>none)
def MM (P:Program) (T:List (Nat × TI)) (lb:List (Nat × bK)) (ρ:Operand→Option AV) (dst:Option Nat) (quiet:Bool) (kj:List zP) (op:Op):Option (R × List zP) :=
 match op with
 | .alloc t=>(match quiet,dst,look T t with | false,some d,some i=>some (⟨.ptr d 0,[],[],[(d,.box (i.zero.map .d))],.tt⟩,kj) | _,_,_=>none)
 | .box _ x=>(match quiet,dst,ρ x with
  | false,some d,some v=>(match v.cells with
   | some cs=>(match Xc false (some d) kj,wv cs with
    | some qH,some ds=>some (⟨.ref ds,[],[],[],.tt⟩,qH)
    | _,_=>bif sC.lN cs&&!(AV.qy cs).contains d then some (⟨.ptr d 0,[],[],[(d,.box cs)],.tt⟩,kj) else none)
   | none=>none)
  | _,_,_=>none)
 | .buildSlice t len ps=>(match rF T (unN ρ) t len ps.toList with
  | some (e,k,ds)=>(match Xc quiet dst kj with
   | some kj=>some (⟨.d (.sl len (yW k len ds)),[],[],[],.tt⟩,kj)
   | none=>(match quiet,dst with
    | false,some d=>some (⟨.own d len,[],[],[(d,.row e k len (yW k len ds))],.tt⟩,kj)
    | _,_=>none))
  | none=>none)
 | .store t ad x=>(match quiet,dst,ρ ad,ρ x with
  | false,none,some av,some v=>(match KR T lb t av v with | some r=>some (r,kj) | none=>none)
  | _,_,_,_=>none)
 | .call { callee:=.builtin .append,args:=xs,argTypes:=ts }=>(match quiet,dst,xs.toList,ts.toList with
  | false,some d,[s,x],[t,t']=>(match Nat.beq t t',ρ s,ρ x with
   | true,some dv,some sv=>(match F6 T lb d t dv sv with | some r=>some (r,kj) | none=>none)
   | _,_,_=>none)
  | _,_,_,_=>none)
 | .call { callee:=.value cf,args:=xs,.. }=>(match ρ cf,qj ρ xs.toList with
  | some c,some l=>Pj P lb quiet c l kj
  | _,_=>none)
 | .makeSlice t l c=>(match quiet,dst,look T t,ρ l,ρ c with
  | false,some d,some { kind:=.slice e,.. },some (.d (.v (.int _ n))),some (.d (.v (.int _ m)))=>(match look T e with
   | some i=>some (⟨.own d n.toNat,[],[],[(d,.row e i.size n.toNat fun _=>i.zero)],(Ob.ze n m).and (.pr (0≤n∧n.toNat≤maxLen∧n.toNat * i.bytes≤140737488355328))⟩,kj)
   | none=>none)
  | _,_,_,_,_=>none)
 | op=>(match KM T ρ op with
  | some (v,ob)=>some (⟨v,[],[],[],ob⟩,kj)
  | none=>(match Zu T lb ρ op with | some (v,ro,ob)=>some (⟨v,ro,[],[],ob⟩,kj) | none=>none))
def TS (T:List (Nat × TI)) (ρ:Operand→Option AV):Op→Option (AV × Ob)
 | .build t ps=>(match look T t,xg ρ ps.toList with
  | some { kind:=.array _ e,zero:=z,.. },some vs=>(match look T e with
   | some ie=>(match FF (fun q=>some (q * ie.size,ie.size)) (z.map .d) vs with | some cs=>some (Mn cs,.tt) | none=>none)
   | none=>none)
  | _,_=>none)
 | .indexAddr t x i=>(match look T t,ρ x,ρ i with
  | some { kind:=.array n e,.. },some (.ptr κ off),some (.d (.v (.int _ q)))=>(match look T e with | some ie=>some (.ptr κ (off+q.toNat * ie.size),.pr (0≤q∧q < n)) | none=>none)
  | some { kind:=.array n e,.. },some (.ref cs),some (.d (.v (.int _ q)))=>(match look T e with | some ie=>some (.ref (cs.drop (q.toNat * ie.size)),.pr (0≤q∧q < n)) | none=>none)
  | _,_,_=>none)
 | _=>none
def MN (P:Program) (T:List (Nat × TI)) (lb:List (Nat × bK)) (ρ:Operand→Option AV) (dst:Option Nat) (quiet:Bool) (kj:List zP) (op:Op):Option (R × List zP) :=
 match MK P T lb ρ dst quiet op with
 | some r=>some (r,kj)
 | none=>(match FY T lb ρ dst quiet op with
 | some r=>some (r,kj)
 | none=>(match TS T ρ op with
 | some (v,ob)=>some (⟨v,[],[],[],ob⟩,kj)
 | none=>MM P T lb ρ dst quiet kj op))
def abW:Op→Bool
 | .buildSlice .. | .slice .. | .store .. | .makeSlice .. | .convert ..=>true
 | .call { callee:=.builtin .append,.. }=>true
 | _=>false
def MO (c:pE) (r:R):Option R :=
 match r.fk with
 | [(κ,.row e k n f)]=>(match r.v with
  | .own κ' m=>bif Nat.beq κ' κ then some ⟨.own κ' c.n',r.ro,r.mem,[(κ,.row e k c.n' c.f')],r.ob.and ((Ob.ne m c.n).and ((Ob.ne n c.n).and (.fe f c.f)))⟩ else none
  | .any=>some ⟨.any,r.ro,r.mem,[(κ,.row e k c.n' c.f')],r.ob.and ((Ob.ne n c.n).and (.fe f c.f))⟩
  | _=>none)
 | []=>(match r.v with
  | .d (.sl n f)=>some ⟨.d (.sl c.n' c.f'),r.ro,r.mem,[],r.ob.and ((Ob.ne n c.n).and (.fe f c.f))⟩
  | _=>none)
 | _=>none
def MP (c:F5) (r:R):Option R :=
 match r.fk with
 | [(κ,.mp n f)]=>(match r.v with
  | .any=>some ⟨.any,r.ro,r.mem,[(κ,.mp c.n' c.f')],r.ob.and ((Ob.ne n c.n).and (.me f c.f))⟩
  | .uh q=>some ⟨.uh q,r.ro,r.mem,[(κ,.mp c.n' c.f')],r.ob.and ((Ob.ne n c.n).and (.me f c.f))⟩
  | _=>none)
 | _=>none
def Xd (c:QV) (r:R):R:=⟨c.y,r.ro,r.mem,r.fk,r.ob.and (.ve r.v c.x)⟩
def TU (P:Program) (T:List (Nat × TI)) (lb:List (Nat × bK)) (ρ:Operand→Option AV) (dst:Option Nat) (quiet:Bool) (kj:List zP) (op:Op):Option (R × List zP) :=
 match MN P T lb ρ dst quiet kj op with
 | some (r,Ix)=>(match abW op,Ix with
  | true,.dy c :: Pk=>(match MO c r with | some r'=>some (r',Pk) | none=>some (r,Ix))
  | _,.wO c :: Pk=>(match MP c r with | some r'=>some (r',Pk) | none=>some (r,Ix))
  | _,.cast d c :: Pk=>(match dst with | some t=>bif Nat.beq t d then some (Xd c r,Pk) else some (r,Ix) | none=>some (r,Ix))
  | _,_=>some (r,Ix))
 | none=>none
section
variable {C : Cx} {A : M} {a : Act} {w : World} {S : Nat → Prop} {μ : Mu} {ν : Nat → Bool}
theorem CE {lb:List (Nat × bK)}:∀ {ks:List Nat} {l:List (Nat × bK)},looks lb ks=some l→l.map (·.1)=ks
 | [],l,h=>by simp only [looks,Option.some.injEq] at h; subst h; rfl
 | k :: r,l,h=>by
  simp only [looks] at h
  cases h1:look lb k with
  | none=>rw [h1] at h; cases h
  | some b =>
   cases h2:looks lb r with
   | none=>rw [h1,h2] at h; cases h
   | some l' =>
    rw [h1,h2] at h
    simp only [Option.some.injEq] at h
    subst h
    simp [CE h2]
theorem X4 {T:List (Nat × TI)} (hT:mP C.P T) (hs:df C A a w S μ ν) {lb:List (Nat × bK)} {o:Oper} {ρ:Operand→Option AV} (hρ:∀ x y,ρ x=some y→Rel w S μ ν y (a.eval x)) (hd:∀ t,o.dst=some t→t < C.nt)
  {v:AV} {ro:List (Nat × bK)} {ob:Ob} (h:Zu T lb ρ o.op=some (v,ro,ob)) (lf:∀ p,p∈ro→A.lb p.1=some p.2) (cb:ob.den) (need:List (Nat × AV)) (gs:List (Nat × Bool)) :
  o.wp C.P a w (fun a' w'=>∃ S' μ',df C ((Tr.mk need o.dst v ro [] [] gs).apply A) a' w' S' μ' ν) (fun _ _ _=>False):=by
 obtain ⟨x,h1,h2⟩:=RY hT hs hρ h lf cb
 exact kJ hs hd h1 h2 rfl rfl rfl
theorem KS {o:Oper} {t:TypeId} {ds:List D} {τ:Tr} (hs:df C A a w S μ ν) (hd:∀ t,o.dst=some t→t < C.nt) {vs:Array Value}
  (ga:(execOp a.eval o).run C.P w=.ok (.value (.pointer (some ⟨w.heap.size,0,none⟩))) (w.alloc (.cells vs t))) (hr:dG w S μ ν (ds.map .d) vs.toList)
  (h0:τ.v=.ref ds) (h1:τ.dst=o.dst) (h2:τ.mem=[]) (h3:τ.fk=[]) :
  o.wp C.P a w (fun a' w'=>∃ S' μ',df C (τ.apply A) a' w' S' μ' ν) (fun _ _ _=>False):=by
 unfold Oper.wp
 rw [ga]
 let S':Nat→Prop:=fun q=>S q∨q=w.heap.size
 have h4:=hs.world (S':=S') (w':=w.alloc (.cells vs t)) (fun _ x=>.inl x) (fun q hq=>hq.elim .inl (fun e=>.inr ⟨by omega,by rw [e]; simp⟩)) (mI w _ _)
 have hl:=hr.1
 simp only [List.length_map,Array.length_toList] at hl
 have TL:∀ ν,Rel (w.alloc (.cells vs t)) S' μ ν (.ref ds) (.pointer (some ⟨w.heap.size,0,none⟩)):=fun ν'=>by
  refine .ref (fun j=>vs.toList.getD j undef) (fun j hj=>⟨.inr rfl,?_⟩) (fun j hj=>?_)
  ·rw [gb _ _ _ vs t (0,0) (heap_alloc_new w _)]
   have iR:j < vs.size:=by omega
   simp [List.getD,iR]
  ·have:=hr.2 j (by simpa using hj)
   rw [jc _ j hj] at this
   exact (gT.1 this).mono (fun _ x=>.inl x) (fun q hq=>heap_alloc_old w _ (hs.bound q hq))
 have h5:=h4.put (dst:=o.dst) (x:=.ref ds) (v:=.pointer (some ⟨w.heap.size,0,none⟩)) hd (TL ν)
 refine ⟨S',μ,?_⟩
 have e:τ.apply A=A.wL o.dst (.ref ds):=by
  unfold Tr.apply M.wL M.put
  rw [h0,h1,h2,h3]
  cases ho:o.dst with
  | none=>simp [look]
  | some d =>
   simp only [look,List.map_nil,List.not_mem_nil,if_false,Option.some.injEq]
   congr 1
   funext t
   by_cases c:d=t
   ·simp [c]
   ·have:¬ t=d:=fun e=>c e.symm
    simp [c,this]
 rw [e]
 exact h5
theorem MQ {T:List (Nat × TI)} (hT:mP C.P T) (hs:df C A a w S μ ν) {lb:List (Nat × bK)} {o:Oper} {ρ:Operand→Option AV} (hρ:∀ x y,ρ x=some y→Rel w S μ ν y (a.eval x)) (hd:∀ t,o.dst=some t→t < C.nt) {quiet:Bool} {kj qH:List zP} {r:R}
  (h:MM C.P T lb ρ o.dst quiet kj o.op=some (r,qH)) (lf:∀ p,p∈r.ro→A.lb p.1=some p.2) (jd:∀ p,p∈r.mem→A.lb p.1=some p.2) (cb:r.ob.den) (ui:∀ κ,κ∈(r.fk.map (·.1)).filter (fun k=>!(r.mem.map (·.1)).contains k)→ja A κ) (need:List (Nat × AV)) (gs:List (Nat × Bool)) :
  o.wp C.P a w (fun a' w'=>∃ S' μ',df C ((Tr.mk need o.dst r.v r.ro r.mem r.fk gs).apply A) a' w' S' μ' ν) (fun _ _ _=>False):=by
 unfold MM at h
 split at h
 all_goals rename_i ho
 ·rename_i t0
  split at h
  ·rename_i d i dH hi
   simp only [Option.some.injEq,Prod.mk.injEq] at h
   obtain ⟨rfl,-⟩:=h
   obtain ⟨ti,z,F⟩:=aH (hT _ _ hi)
   obtain ⟨q1,q2⟩:=jb (w:=w) (S:=S) F.Vx
   have hz:dG w S μ ν (i.zero.map .d) z.cells.toList:=by
    refine ⟨by simpa using q1,fun j hj=>?_⟩
    simp only [List.length_map] at hj
    rw [jc _ j hj]
    exact .d (q2 j hj)
   have hng:∀ l:List D,sC.lN (l.map AV.d)=true:=fun l=>by induction l with | nil=>rfl | cons x r ih=>simpa [sC.lN,sC] using ih
   have QW:∀ l:List D,AV.qy (l.map AV.d)=[]:=fun l=>by induction l with | nil=>rfl | cons x r ih=>simpa [AV.qy,AV.keys] using ih
   rw [dH]
   refine MA (t:=t0) hs dH (hd d dH) (vs:=z.cells) ?_ hz (hng _) (ui d (by simp)) (by rw [QW]; simp)
   simp only [execOp,ho,Instr.alloc,zeroValue,typeInfo,Sem.run_bind,run_program,Result.andThen_ok,F.info,Sem.run_pure,F.zero,newVar,newRow,run_newObj]
   rfl
  ·cases h
 ·rename_i t0 x0
  split at h
  ·rename_i d v dH hx
   split at h
   ·rename_i cs hc
    split at h
    ·rename_i qH ds _ hp
     simp only [Option.some.injEq,Prod.mk.injEq] at h
     obtain ⟨rfl,-⟩:=h
     have ecs:=rC hp
     subst ecs
     refine KS (t:=t0) (ds:=ds) hs hd ?_ (mH hc (hρ _ _ hx)) rfl rfl rfl rfl
     simp only [execOp,ho,Instr.box,newVar,newRow,Sem.run_bind,run_newObj,Result.andThen_ok,Sem.run_pure]
     rfl
    cases hb:(sC.lN cs&&!(AV.qy cs).contains d) with
    | false=>rw [hb] at h; cases h
    | true =>
     rw [hb] at h
     simp only [cond_true,Option.some.injEq,Prod.mk.injEq] at h
     obtain ⟨rfl,-⟩:=h
     simp only [Bool.and_eq_true,Bool.not_eq_true',List.contains_eq_mem,decide_eq_false_iff_not] at hb
     rw [dH]
     refine MA (t:=t0) hs dH (hd d dH) ?_ (mH hc (hρ _ _ hx)) hb.1 (ui d (by simp)) hb.2
     simp only [execOp,ho,Instr.box,newVar,newRow,Sem.run_bind,run_newObj,Result.andThen_ok,Sem.run_pure]
     rfl
   ·cases h
  ·cases h
 ·split at h
  ·rename_i e k ds V3
   split at h
   ·simp only [Option.some.injEq,Prod.mk.injEq] at h
    obtain ⟨rfl,-⟩:=h
    exact FU hT hs hd ho (TJ hρ) V3 rfl rfl rfl rfl
   ·split at h
    ·rename_i d dH _
     simp only [Option.some.injEq,Prod.mk.injEq] at h
     obtain ⟨rfl,-⟩:=h
     rw [dH]
     exact Ek hT hs dH (hd d dH) ho (TJ hρ) V3 (ui d (by simp))
    ·cases h
  ·cases h
 ·split at h
  ·rename_i av v dH S8 hv
   split at h
   ·rename_i r' mG
    simp only [Option.some.injEq,Prod.mk.injEq] at h
    obtain ⟨rfl,-⟩:=h
    rw [dH]
    unfold KR at mG
    split at mG
    ·rename_i i xs hi hc
     split at mG
     ·rename_i κ off
      split at mG
      ·rename_i cs hl
       cases hb:(Nat.beq xs.length i.size&&Nat.ble (off+i.size) cs.length&&sC.lN xs&&xs.all KJ) with
       | false=>rw [hb] at mG; cases mG
       | true =>
        rw [hb] at mG
        simp only [Bool.and_eq_true] at hb
        simp only [cond_true,Option.some.injEq] at mG
        subst mG
        exact FJ hs (hT _ _ hi) ho dH (hρ _ _ S8) (hρ _ _ hv) (jd (κ,.box cs) (by simp)) hc (Nat.eq_of_beq_eq_true hb.1.1.1) (Nat.le_of_ble_eq_true hb.1.1.2) hb.1.2 hb.2 _
      ·cases mG
     ·rename_i κ k p off
      split at mG
      ·rename_i e k' n f ds hl hp
       cases hb:(Nat.beq k k'&&Nat.beq ds.length i.size&&Nat.ble (off+i.size) k&&ds.all wM) with
       | false=>rw [hb] at mG; cases mG
       | true =>
        rw [hb] at mG
        simp only [Bool.and_eq_true] at hb
        simp only [cond_true,Option.some.injEq] at mG
        subst mG
        exact FM hs (hT _ _ hi) ho dH (hρ _ _ S8) (hρ _ _ hv) (jd (κ,.row e k n f) (by simp)) hc hp (Nat.eq_of_beq_eq_true hb.1.1.2) (Nat.le_of_ble_eq_true hb.1.2) cb hb.2 _
      ·cases mG
     ·cases mG
    ·cases mG
   ·cases h
  ·cases h
 ·rename_i xs ts
  split at h
  ·rename_i d s x t t' dH VW Tv
   split at h
   ·rename_i dv sv htt Zx VY
    split at h
    ·rename_i r' wX
     simp only [Option.some.injEq,Prod.mk.injEq] at h
     obtain ⟨rfl,-⟩:=h
     rw [dH]
     have e1:=Nat.eq_of_beq_eq_true htt
     subst e1
     have Zt:o.op=.call { callee:=.builtin .append,args:=#[s,x],argTypes:=#[t,t] }:=by
      rw [ho]
      congr 2
      ·cases xs; simpa using VW
      ·cases ts; simpa using Tv
     unfold F6 at wX
     split at wX
     ·rename_i e _ _ _ _ hl
      split at wX
      ·rename_i i hi
       split at wX
       ·rename_i m g JW AW ki
        have src:AW.den→(∀ p,p∈JW→A.lb p.1=some p.2)→∃ ys,MB w S i.size m g (a.eval x) ys:=by
         intro F7 abX
         have hr:=hρ _ _ VY
         unfold TP at ki
         split at ki
         ·simp only [Option.some.injEq,Prod.mk.injEq] at ki
          obtain ⟨rfl,rfl,rfl,rfl⟩:=ki
          exact MC (gT.1 hr) F7.1 F7.2
         ·simp only [Option.some.injEq,Prod.mk.injEq] at ki
          obtain ⟨rfl,rfl,rfl,rfl⟩:=ki
          have:=cI rfl hr
          exact ⟨[],⟨⟨by simp,fun i hi=>absurd hi (by omega)⟩,fun u hu=>(by cases hu),.inl ⟨this,rfl⟩⟩⟩
         ·simp only [Option.some.injEq,Prod.mk.injEq] at ki
          obtain ⟨rfl,rfl,rfl,rfl⟩:=ki
          generalize a.eval x=xv at hr
          cases hr with
          | wu hd=>exact MC hd F7.1 F7.2
         ·rename_i κ m0
          split at ki
          ·rename_i e2 k2 m2 g2 yt
           cases hb:Nat.beq i.size k2 with
           | false=>rw [hb] at ki; cases ki
           | true =>
            rw [hb] at ki
            have e3:=Nat.eq_of_beq_eq_true hb
            simp only [cond_true,Option.some.injEq,Prod.mk.injEq] at ki
            obtain ⟨rfl,rfl,rfl,rfl⟩:=ki
            have OY:=abX (κ,.row e2 k2 m2 g2) (by simp)
            obtain ⟨o5,o6⟩:=Ob.cG F7
            rw [← e3,← (show _=_ from o5)] at OY
            exact VX hs OY hr o6
          ·cases ki
         ·cases ki
        split at wX
        ·simp only [Option.some.injEq] at wX
         subst wX
         obtain ⟨o1,o2,o3⟩:=Ob.cG cb
         obtain ⟨ys,hys⟩:=src o1 lf
         exact DR hs dH (hd d dH) (hT _ _ hl) rfl (hT _ _ hi) Zt (hρ _ _ Zx) (.nil (fun _=>[])) rfl hys o2 o3 (ui d (by simp))
        ·rename_i κ n
         split at wX
         ·rename_i e' k n' f yt
          cases hb:(Nat.beq e e'&&Nat.beq k i.size&&!Nat.beq d κ) with
          | false=>rw [hb] at wX; cases wX
          | true =>
           rw [hb] at wX
           simp only [cond_true,Option.some.injEq] at wX
           subst wX
           simp only [Bool.and_eq_true] at hb
           have e4:=Nat.eq_of_beq_eq_true hb.1.1
           have e5:=Nat.eq_of_beq_eq_true hb.1.2
           obtain ⟨o1,o7⟩:=Ob.cG cb
           obtain ⟨o2,o3,o4⟩:=Ob.cG o7
           have o2:n=n':=o2
           subst e4; subst e5; subst o2
           obtain ⟨ys,hys⟩:=src o1 lf
           have hκ:=jd (κ,.row e i.size n f) (by simp)
           have rA:d ∉ [κ]:=fun hc=>by
            simp only [List.mem_singleton] at hc
            subst hc
            have:=hb.2
            rw [Nat.beq_refl] at this
            cases this
           exact DR hs dH (hd d dH) (hT _ _ hl) rfl (hT _ _ hi) Zt (hρ _ _ Zx) (.own hκ) rfl hys o3 o4 (ui d (by simpa using rA))
         ·cases wX
        ·cases wX
       ·cases wX
      ·cases wX
     ·cases wX
    ·cases h
   ·cases h
  ·cases h
 ·rename_i cf xs _
  split at h
  ·rename_i c l hc hl
   have lH:=kK hρ xs.toList l hl
   unfold Pj at h
   split at h
   ·rename_i res Sa
    split at h
    ·rename_i f cR
     split at h
     ·rename_i DT JW AW hb
      cases Vz:fJ res with
      | false=>rw [Vz] at h; cases h
      | true =>
       rw [Vz] at h
       simp only [cond_true,Option.some.injEq,Prod.mk.injEq] at h
       obtain ⟨rfl,-⟩:=h
       exact FQ hs hd ho (hρ _ _ hc) lH hb lf (Ob.cG cb).1 (Ob.cG cb).2 Vz rfl rfl rfl rfl
     ·cases h
    ·cases h
   ·rename_i hand res back Sa
    split at h
    ·rename_i f cR
     split at h
     ·rename_i cZ yt
      cases hb:(sC.lN (l++cR)&&Fl res back&&sC res&&(!quiet||(hand.isEmpty&&back.isEmpty))&&back.all (fun p=>!hand.contains p.1)) with
      | false=>rw [hb] at h; cases h
      | true =>
       rw [hb] at h
       simp only [cond_true,Option.some.injEq,Prod.mk.injEq] at h
       obtain ⟨rfl,-⟩:=h
       simp only [Bool.and_eq_true,Fl,List.all_eq_true,List.contains_eq_mem,decide_eq_true_eq,Bool.not_eq_true',decide_eq_false_iff_not] at hb
       obtain ⟨⟨⟨⟨h1,h2,h3⟩,h4⟩,h5⟩,h6⟩:=hb
       refine R5 hs hd ho (hρ _ _ hc) lH h1 cb jd (fun k hk=>ui k ?_) h2 h3
       have TV:=CE yt
       simp only [List.mem_filter,Bool.not_eq_true',List.contains_eq_mem,decide_eq_false_iff_not]
       refine ⟨hk,?_⟩
       rw [TV]
       obtain ⟨p,hp,rfl⟩:=List.mem_map.1 hk
       exact h6 p hp
     ·cases h
    ·cases h
   ·rename_i κ b' Sa
    split at h
    ·rename_i f cR
     split at h
     ·rename_i b yt
      cases hb:(sC.lN (l++cR)&&!quiet) with
      | false=>rw [hb] at h; cases h
      | true =>
       rw [hb] at h
       simp only [cond_true,Option.some.injEq,Prod.mk.injEq] at h
       obtain ⟨rfl,-⟩:=h
       simp only [Bool.and_eq_true] at hb
       exact FT hs hd ho (hρ _ _ hc) lH hb.1 cb (jd (κ,b) (by simp))
     ·cases h
    ·cases h
   ·rename_i hand lg res back Sa
    split at h
    ·rename_i f cR
     split at h
     ·rename_i cZ yt
      cases hb:(sC.lN (l++cR)&&V2 (l++cR) hand cZ lg res back&&sC res&&!quiet) with
      | false=>rw [hb] at h; cases h
      | true =>
       rw [hb] at h
       simp only [cond_true,Option.some.injEq,Prod.mk.injEq] at h
       obtain ⟨rfl,-⟩:=h
       simp only [Bool.and_eq_true,V2,List.all_eq_true,List.contains_eq_mem,decide_eq_true_eq,Bool.not_eq_true',decide_eq_false_iff_not,Bool.or_eq_true] at hb
       obtain ⟨⟨⟨h1,⟨⟨h2,h3⟩,h4⟩,h5⟩,h6⟩,h7⟩:=hb
       have TV:=CE yt
       have box:∀ (lb:List (Nat × bK)) κ,Fm lb κ=true→∃ cs,look lb κ=some (.box cs):=fun lb κ h=>by
        unfold Fm at h
        split at h
        ·exact ⟨_,by assumption⟩
        ·cases h
       have ptr:∀ κ x,TQ κ x=true→x=.ptr κ 0:=fun κ x h=>by
        unfold TQ at h
        split at h
        ·rw [Nat.eq_of_beq_eq_true h]
        ·cases h
       refine KL hs hd ho (hρ _ _ hc) lH h1 cb (fun p hp=>?_) jd (fun k hk hn=>ui k ?_) h4 h5
       ·obtain ⟨⟨⟨a1,a2⟩,a3⟩,a4⟩:=h2 p hp
        exact ⟨Nat.le_of_ble_eq_true a1,ptr _ _ a2,box _ _ a3,box _ _ a4⟩
       ·simp only [List.mem_filter,Bool.not_eq_true',List.contains_eq_mem,decide_eq_false_iff_not]
        refine ⟨hk,?_⟩
        rw [TV]
        obtain ⟨p,hp,rfl⟩:=List.mem_map.1 hk
        exact (h3 p hp).resolve_left hn
     ·cases h
    ·cases h
   ·cases h
  ·cases h
 ·split at h
  ·rename_i d e _ _ _ _ kl n kc m dH ht hl hc
   split at h
   ·rename_i i hi
    simp only [Option.some.injEq,Prod.mk.injEq] at h
    obtain ⟨rfl,-⟩:=h
    have F7:((Ob.ze n m).and (.pr (0≤n∧n.toNat≤maxLen∧n.toNat * i.bytes≤140737488355328))).den:=cb
    obtain ⟨o1,o2,o3,o4⟩:=Ob.cG F7
    have o1:n=m:=o1
    subst o1
    rw [dH]
    exact R8 hT hs dH (hd d dH) ho ht rfl hi (dU (hρ _ _ hl)) (dU (hρ _ _ hc)) o2 o3 o4 (ui d (by simp))
   ·cases h
  ·cases h
 ·split at h
  ·rename_i v AW hv
   simp only [Option.some.injEq,Prod.mk.injEq] at h
   obtain ⟨rfl,-⟩:=h
   exact Ph hT hs hρ hd hv cb need _ gs
  ·split at h
   ·rename_i v JW AW hv
    simp only [Option.some.injEq,Prod.mk.injEq] at h
    obtain ⟨rfl,-⟩:=h
    exact X4 hT hs hρ hd hv lf cb need gs
   ·cases h
theorem MR {T:List (Nat × TI)} (hT:mP C.P T) {o:Oper} {ρ:Operand→Option AV} (hρ:∀ x y,ρ x=some y→Rel w S μ ν y (a.eval x)) {v:AV} {ob:Ob} (h:TS T ρ o.op=some (v,ob)) (cb:ob.den) :
  ∃ x,(execOp a.eval o).run C.P w=.ok (.value x) w∧Rel w S μ ν v x:=by
 unfold TS at h
 split at h
 ·rename_i t ps ho
  split at h
  ·rename_i n e _ _ z _ vs hl hv
   split at h
   ·rename_i ie he
    split at h
    ·rename_i cs Ip
     simp only [Option.some.injEq,Prod.mk.injEq] at h
     obtain ⟨rfl,-⟩:=h
     obtain ⟨ti,zz,F⟩:=aH (hT t _ hl)
     have hu:=vb F.kind
     obtain ⟨te,ze,G⟩:=aH (hT e _ he)
     have kI:(sizeOf e).run C.P w=.ok ie.size w:=by simp [sizeOf,typeInfo,G.info,G.size]
     obtain ⟨q1,q2⟩:=jb (w:=w) (S:=S) F.Vx
     have hz:dG w S μ ν (z.map .d) zz.cells.toList:=by
      refine ⟨by simpa using q1,fun i hi=>?_⟩
      simp only [List.length_map] at hi
      rw [jc z i hi]
      exact .d (q2 i hi)
     obtain ⟨v1,v2⟩:=vg hρ ps.toList vs hv
     obtain ⟨FG,hf,hr⟩:=yu (fun q=>some (q * ie.size,ie.size)) vs (ps.toList.map fun p=>(p.1,a.eval p.2)) (z.map .d) cs zz.cells hz v1 v2 Ip
     refine ⟨.agg FG,?_,yq (by have:=hr.1; simpa using this) (fun i hi=>by rw [cY]; exact hr.2 i hi)⟩
     have W8:(ps.map fun (i,x)=>(i,a.eval x)).toList=ps.toList.map fun p=>(p.1,a.eval p.2):=by simp
     simp only [execOp,ho,Instr.build,Sem.run_bind,zeroValue,typeInfo,run_program,Result.andThen_ok,F.info,Sem.run_pure,F.zero,run_underlying hu,kI,W8]
     rw [hf]
     simp
    ·cases h
   ·cases h
  ·cases h
 ·rename_i t x i ho
  split at h
  ·rename_i n e _ _ _ _ κ off kk q hl hx hi
   split at h
   ·rename_i ie he
    simp only [Option.some.injEq,Prod.mk.injEq] at h
    obtain ⟨rfl,rfl⟩:=h
    have cb:0≤q∧q < n:=cb
    obtain ⟨ti,zz,F⟩:=aH (hT t _ hl)
    have hu:=vb F.kind
    obtain ⟨te,ze,G⟩:=aH (hT e _ he)
    have kI:(sizeOf e).run C.P w=.ok ie.size w:=by simp [sizeOf,typeInfo,G.info,G.size]
    have VD:=hρ _ _ hx
    have Tc:=dU (hρ _ _ hi)
    generalize S8:a.eval x=av at VD
    cases VD with
    | @ptr _ _ g cap hμ =>
     refine ⟨.pointer (some ⟨g,off+q.toNat * ie.size,none⟩),?_,.ptr hμ⟩
     simp [execOp,ho,S8,Tc,Instr.indexAt,asIntOf,run_underlying hu,Instr.sureAddr,cb,kI,gH]
   ·cases h
  ·rename_i n e _ _ _ _ cs kk q hl hx hi
   split at h
   ·rename_i ie he
    simp only [Option.some.injEq,Prod.mk.injEq] at h
    obtain ⟨rfl,rfl⟩:=h
    have cb:0≤q∧q < n:=cb
    obtain ⟨ti,zz,F⟩:=aH (hT t _ hl)
    have hu:=vb F.kind
    obtain ⟨te,ze,G⟩:=aH (hT e _ he)
    have kI:(sizeOf e).run C.P w=.ok ie.size w:=by simp [sizeOf,typeInfo,G.info,G.size]
    have VD:=hρ _ _ hx
    have Tc:=dU (hρ _ _ hi)
    generalize S8:a.eval x=av at VD
    cases VD with
    | @ref _ b o' dp bX hr =>
     refine ⟨.pointer (some ⟨b,o'+q.toNat * ie.size,none⟩),?_,.ref (fun j=>dp (q.toNat * ie.size+j)) (fun j hj=>?_) (fun j hj=>?_)⟩
     ·simp [execOp,ho,S8,Tc,Instr.indexAt,asIntOf,run_underlying hu,Instr.sureAddr,cb,kI,gH]
     ·simp only [List.length_drop] at hj
      have:=bX (q.toNat * ie.size+j) (by omega)
      rw [← Nat.add_assoc] at this
      exact this
     ·simp only [List.length_drop] at hj
      have:=hr (q.toNat * ie.size+j) (by omega)
      simpa [List.getD] using this
   ·cases h
  ·cases h
 ·cases h
theorem jw {T:List (Nat × TI)} (hT:mP C.P T) (hs:df C A a w S μ ν) {lb:List (Nat × bK)} {o:Oper} {ρ:Operand→Option AV} (hρ:∀ x y,ρ x=some y→Rel w S μ ν y (a.eval x)) (hd:∀ t,o.dst=some t→t < C.nt) {quiet:Bool} {kj qH:List zP} {r:R}
  (h:MN C.P T lb ρ o.dst quiet kj o.op=some (r,qH)) (lf:∀ p,p∈r.ro→A.lb p.1=some p.2) (jd:∀ p,p∈r.mem→A.lb p.1=some p.2) (cb:r.ob.den) (ui:∀ κ,κ∈(r.fk.map (·.1)).filter (fun k=>!(r.mem.map (·.1)).contains k)→ja A κ) (need:List (Nat × AV)) (gs:List (Nat × Bool)) :
  o.wp C.P a w (fun a' w'=>∃ S' μ',df C ((Tr.mk need o.dst r.v r.ro r.mem r.fk gs).apply A) a' w' S' μ' ν) (fun _ _ _=>False):=by
 unfold MN at h
 split at h
 ·rename_i r' hm
  simp only [Option.some.injEq,Prod.mk.injEq] at h
  obtain ⟨rfl,-⟩:=h
  exact ML hT hs hρ hd hm lf jd cb need gs
 split at h
 ·rename_i r' hm
  simp only [Option.some.injEq,Prod.mk.injEq] at h
  obtain ⟨rfl,-⟩:=h
  exact KP hT hs hρ hd hm lf jd cb ui need gs
 split at h
 ·rename_i v ob hm
  simp only [Option.some.injEq,Prod.mk.injEq] at h
  obtain ⟨rfl,-⟩:=h
  obtain ⟨x,h1,h2⟩:=MR hT hρ hm cb
  exact kJ hs hd h1 h2 rfl rfl rfl
 ·exact MQ hT hs hρ hd h lf jd cb ui need gs
theorem TW {α:Type} (k:Nat) (x:α) (r:List (Nat × α)) (t:Nat):look ((k,x) :: r) t=if k=t then some x else look r t:=by
 simp only [look]
 cases hb:Nat.beq k t with
 | true=>simp [Nat.eq_of_beq_eq_true hb]
 | false =>
  have:¬ k=t:=fun e=>by rw [e,Nat.beq_refl] at hb; cases hb
  simp [this]
theorem df.weaken {B:M} (h:df C A a w S μ ν) (Pb:∀ t v,Rel w S μ ν (A.sl t) v→Rel w S μ ν (B.sl t) v) (OY:∀ κ b',B.lb κ=some b'→∃ b,A.lb κ=some b∧∀ y,gF w S μ b y→gF w S μ b' y):df C B a w S μ ν:=by
 refine ⟨h.tmps,h.defers,fun t=>Pb t _ (h.eF t),fun κ b hb=>?_,fun κ κ' b b' g c c' hb mQ hm Iy=>?_,fun κ b g c hb hm=>?_,h.eJ,h.fresh,h.bound,h.kept⟩
 ·obtain ⟨d,h1,h2⟩:=OY κ b hb
  exact h2 _ (h.mem κ d h1)
 ·obtain ⟨d,h1,_⟩:=OY κ b hb
  obtain ⟨d',h1',_⟩:=OY κ' b' mQ
  exact h.inj κ κ' d d' g c c' h1 h1' hm Iy
 ·obtain ⟨d,h1,_⟩:=OY κ b hb
  exact h.own κ d g c h1 hm
theorem TX {e k n n':Nat} {f f':Nat→List D} (hn:n=n') (hf:∀ i,i < n→u9 (f i) (f' i)) (y:Option (Option (Nat × Nat))) (h:gF w S μ (.row e k n f) y):gF w S μ (.row e k n' f') y:=by
 subst hn
 cases y with
 | none=>exact h
 | some y =>
  cases y with
  | none=>exact h
  | some gc =>
   obtain ⟨g,c⟩:=gc
   obtain ⟨cur,q1,q2,q3,q4,q5,q6⟩:=h.at
   refine eI.ok ⟨cur,q1,q2,q3,q4,q5,fun i hi=>?_⟩
   obtain ⟨z1,z2⟩:=q6 i hi
   refine ⟨(hf i hi).1 ▸ z1,fun j hj=>?_⟩
   obtain ⟨x,x1,x2⟩:=z2 j hj
   exact ⟨x,x1,(hf i hi).2 j (by omega) _ _ _ x2⟩
theorem Sb {c:pE} {r r':R} (h:MO c r=some r') (cb:r'.ob.den):r.ob.den∧r'.ro=r.ro∧r'.mem=r.mem∧r'.fk.map (·.1)=r.fk.map (·.1) ∧
  ∀ {A:M} {dst:Option Nat} {need:List (Nat × AV)} {gs:List (Nat × Bool)} {a:Act} {w:World} {S:Nat→Prop} {μ:Mu} {ν:Nat→Bool},df C ((Tr.mk need dst r.v r.ro r.mem r.fk gs).apply A) a w S μ ν→df C ((Tr.mk need dst r'.v r'.ro r'.mem r'.fk gs).apply A) a w S μ ν:=by
 obtain ⟨cn,ce⟩:=c.eq
 obtain ⟨v,ro,mem,fk,ob⟩:=r
 unfold MO at h
 split at h
 ·rename_i κ e k n f jd
  dsimp only at jd
  subst jd
  have blk:n=c.n→f=c.f→∀ {A:M} {dst:Option Nat} {need:List (Nat × AV)} {gs:List (Nat × Bool)} {a:Act} {w:World} {S:Nat→Prop} {μ:Mu} {ν:Nat→Bool} {x y:AV},(∀ v,Rel w S μ ν x v→Rel w S μ ν y v)→df C ((Tr.mk need dst x ro mem [(κ,.row e k n f)] gs).apply A) a w S μ ν→df C ((Tr.mk need dst y ro mem [(κ,.row e k c.n' c.f')] gs).apply A) a w S μ ν:=by
   intro hn hf A dst need gs a w S μ ν x y hxy hs
   refine hs.weaken (fun t v hv=>?_) (fun κ' b' mQ=>?_)
   ·simp only [Tr.apply] at hv ⊢
    split
    ·rename_i hd
     simp only [hd,if_true] at hv
     exact hxy v hv
    ·rename_i hd
     simp only [hd,if_false] at hv
     exact hv
   ·simp only [Tr.apply,TW] at mQ ⊢
    by_cases hk:κ=κ'
    ·subst hk
     simp only [if_true,Option.some.injEq] at mQ ⊢
     subst mQ
     exact ⟨_,rfl,fun y=>TX (hn.trans cn) (fun i hi=>by rw [hf]; exact ce i (by omega)) y⟩
    ·simp only [hk,if_false] at mQ ⊢
     exact ⟨b',mQ,fun _ h=>h⟩
  split at h
  ·rename_i κ' m hv
   dsimp only at hv
   subst hv
   cases hb:Nat.beq κ' κ with
   | false=>rw [hb] at h; cases h
   | true =>
    rw [hb] at h
    simp only [cond_true,Option.some.injEq] at h
    subst h
    obtain ⟨o1,o2⟩:=Ob.cG cb
    obtain ⟨o3,o4⟩:=Ob.cG o2
    obtain ⟨o5,o6⟩:=Ob.cG o4
    have o3:m=c.n:=o3
    refine ⟨o1,rfl,rfl,rfl,fun hs=>blk o5 o6 (fun v hv=>?_) hs⟩
    rw [o3,cn] at hv
    exact hv
  ·rename_i hv
   dsimp only at hv
   subst hv
   simp only [Option.some.injEq] at h
   subst h
   obtain ⟨o1,o2⟩:=Ob.cG cb
   obtain ⟨o5,o6⟩:=Ob.cG o2
   exact ⟨o1,rfl,rfl,rfl,fun hs=>blk o5 o6 (fun v hv=>hv) hs⟩
  ·cases h
 ·rename_i jd
  dsimp only at jd
  subst jd
  split at h
  ·rename_i n f hv
   dsimp only at hv
   subst hv
   simp only [Option.some.injEq] at h
   subst h
   obtain ⟨o1,o2⟩:=Ob.cG cb
   obtain ⟨o5,o6⟩:=Ob.cG o2
   have o5:n=c.n:=o5
   have o6:f=c.f:=o6
   refine ⟨o1,rfl,rfl,rfl,fun hs=>?_⟩
   refine hs.weaken (fun t v hv=>?_) (fun κ' b' mQ=>⟨b',mQ,fun _ h=>h⟩)
   simp only [Tr.apply] at hv ⊢
   split
   ·rename_i hd
    simp only [hd,if_true] at hv
    exact .d (qg.slc (o5.trans cn) (fun i hi=>by rw [o6]; exact ce i (by omega)) _ _ _ (gT.1 hv))
   ·rename_i hd
    simp only [hd,if_false] at hv
    exact hv
  ·cases h
 ·cases h
theorem Xe {n n':Nat} {f f':Nat→Value × D} (hn:n=n') (hf:∀ i,i < n→f i=f' i) (y:Option (Option (Nat × Nat))) (h:gF w S μ (.mp n f) y):gF w S μ (.mp n' f') y:=by
 subst hn
 cases y with
 | none=>exact h
 | some y =>
  cases y with
  | none=>exact h
  | some gc =>
   obtain ⟨g,c⟩:=gc
   obtain ⟨cur,q1,q2,q3,q4⟩:=h.at
   refine eI.ok ⟨cur,q1,q2,q3,fun i hi=>?_⟩
   rw [← hf i hi]
   exact q4 i hi
theorem Sc {c:F5} {r r':R} (h:MP c r=some r') (cb:r'.ob.den):r.ob.den∧r'.ro=r.ro∧r'.mem=r.mem∧r'.fk.map (·.1)=r.fk.map (·.1) ∧
  ∀ {A:M} {dst:Option Nat} {need:List (Nat × AV)} {gs:List (Nat × Bool)} {a:Act} {w:World} {S:Nat→Prop} {μ:Mu} {ν:Nat→Bool},df C ((Tr.mk need dst r.v r.ro r.mem r.fk gs).apply A) a w S μ ν→df C ((Tr.mk need dst r'.v r'.ro r'.mem r'.fk gs).apply A) a w S μ ν:=by
 obtain ⟨cn,ce⟩:=c.eq
 obtain ⟨v,ro,mem,fk,ob⟩:=r
 unfold MP at h
 split at h
 ·rename_i κ n f jd
  dsimp only at jd
  subst jd
  split at h
  ·rename_i hv
   dsimp only at hv
   subst hv
   simp only [Option.some.injEq] at h
   subst h
   obtain ⟨o1,o2⟩:=Ob.cG cb
   obtain ⟨o5,o6⟩:=Ob.cG o2
   have o5:n=c.n:=o5
   have o6:f=c.f:=o6
   refine ⟨o1,rfl,rfl,rfl,fun hs=>?_⟩
   refine hs.weaken (fun t v hv=>hv) (fun κ' b' mQ=>?_)
   simp only [Tr.apply,TW] at mQ ⊢
   by_cases hk:κ=κ'
   ·subst hk
    simp only [if_true,Option.some.injEq] at mQ ⊢
    subst mQ
    exact ⟨_,rfl,fun y=>Xe (o5.trans cn) (fun i hi=>by rw [o6]; exact ce i (by omega)) y⟩
   ·simp only [hk,if_false] at mQ ⊢
    exact ⟨b',mQ,fun _ h=>h⟩
  ·rename_i hv
   dsimp only at hv
   subst hv
   simp only [Option.some.injEq] at h
   subst h
   obtain ⟨o1,o2⟩:=Ob.cG cb
   obtain ⟨o5,o6⟩:=Ob.cG o2
   have o5:n=c.n:=o5
   have o6:f=c.f:=o6
   refine ⟨o1,rfl,rfl,rfl,fun hs=>?_⟩
   refine hs.weaken (fun t v hv=>hv) (fun κ' b' mQ=>?_)
   simp only [Tr.apply,TW] at mQ ⊢
   by_cases hk:κ=κ'
   ·subst hk
    simp only [if_true,Option.some.injEq] at mQ ⊢
    subst mQ
    exact ⟨_,rfl,fun y=>Xe (o5.trans cn) (fun i hi=>by rw [o6]; exact ce i (by omega)) y⟩
   ·simp only [hk,if_false] at mQ ⊢
    exact ⟨b',mQ,fun _ h=>h⟩
  ·cases h
 ·cases h
theorem Sd {c:QV} {r:R} (cb:(Xd c r).ob.den):r.ob.den ∧
  ∀ {A:M} {dst:Option Nat} {need:List (Nat × AV)} {gs:List (Nat × Bool)} {a:Act} {w:World} {S:Nat→Prop} {μ:Mu} {ν:Nat→Bool},df C ((Tr.mk need dst r.v r.ro r.mem r.fk gs).apply A) a w S μ ν→df C ((Tr.mk need dst c.y r.ro r.mem r.fk gs).apply A) a w S μ ν:=by
 obtain ⟨o1,o2⟩:=Ob.cG cb
 have o2:r.v=c.x:=o2
 refine ⟨o1,fun hs=>?_⟩
 refine hs.weaken (fun t v hv=>?_) (fun κ' b' mQ=>⟨b',mQ,fun _ h=>h⟩)
 simp only [Tr.apply] at hv ⊢
 split
 ·rename_i hd
  simp only [hd,if_true] at hv
  rw [o2] at hv
  exact c.le _ _ _ _ _ hv
 ·rename_i hd
  simp only [hd,if_false] at hv
  exact hv
theorem Pl {T:List (Nat × TI)} (hT:mP C.P T) (hs:df C A a w S μ ν) {lb:List (Nat × bK)} {o:Oper} {ρ:Operand→Option AV} (hρ:∀ x y,ρ x=some y→Rel w S μ ν y (a.eval x)) (hd:∀ t,o.dst=some t→t < C.nt) {quiet:Bool} {kj qH:List zP} {r:R}
  (h:TU C.P T lb ρ o.dst quiet kj o.op=some (r,qH)) (lf:∀ p,p∈r.ro→A.lb p.1=some p.2) (jd:∀ p,p∈r.mem→A.lb p.1=some p.2) (cb:r.ob.den) (ui:∀ κ,κ∈(r.fk.map (·.1)).filter (fun k=>!(r.mem.map (·.1)).contains k)→ja A κ) (need:List (Nat × AV)) (gs:List (Nat × Bool)) :
  o.wp C.P a w (fun a' w'=>∃ S' μ',df C ((Tr.mk need o.dst r.v r.ro r.mem r.fk gs).apply A) a' w' S' μ' ν) (fun _ _ _=>False):=by
 unfold TU at h
 split at h
 ·rename_i r0 Ix h0
  split at h
  ·rename_i c Pk _
   split at h
   ·rename_i r' hn
    simp only [Option.some.injEq,Prod.mk.injEq] at h
    obtain ⟨rfl,-⟩:=h
    obtain ⟨o1,e1,e2,e3,eX⟩:=Sb (C:=C) hn cb
    rw [e3,e2] at ui
    rw [e1] at lf
    rw [e2] at jd
    exact Oper.wp_mono (fun a' w' hh=>let ⟨S',μ',hh⟩:=hh; ⟨S',μ',eX hh⟩) (jw hT hs hρ hd h0 lf jd o1 ui need gs)
   ·simp only [Option.some.injEq,Prod.mk.injEq] at h
    obtain ⟨rfl,-⟩:=h
    exact jw hT hs hρ hd h0 lf jd cb ui need gs
  ·split at h
   ·rename_i r' hn
    simp only [Option.some.injEq,Prod.mk.injEq] at h
    obtain ⟨rfl,-⟩:=h
    obtain ⟨o1,e1,e2,e3,eX⟩:=Sc (C:=C) hn cb
    rw [e3,e2] at ui
    rw [e1] at lf
    rw [e2] at jd
    exact Oper.wp_mono (fun a' w' hh=>let ⟨S',μ',hh⟩:=hh; ⟨S',μ',eX hh⟩) (jw hT hs hρ hd h0 lf jd o1 ui need gs)
   ·simp only [Option.some.injEq,Prod.mk.injEq] at h
    obtain ⟨rfl,-⟩:=h
    exact jw hT hs hρ hd h0 lf jd cb ui need gs
  ·split at h
   ·generalize Nat.beq _ _=bb at h
    cases bb with
    | false =>
     simp only [cond_false,Option.some.injEq,Prod.mk.injEq] at h
     obtain ⟨rfl,-⟩:=h
     exact jw hT hs hρ hd h0 lf jd cb ui need gs
    | true =>
     simp only [cond_true,Option.some.injEq,Prod.mk.injEq] at h
     obtain ⟨rfl,-⟩:=h
     obtain ⟨o1,eX⟩:=Sd (C:=C) cb
     exact Oper.wp_mono (fun a' w' hh=>let ⟨S',μ',hh⟩:=hh; ⟨S',μ',eX hh⟩) (jw hT hs hρ hd h0 lf jd o1 ui need gs)
   ·simp only [Option.some.injEq,Prod.mk.injEq] at h
    obtain ⟨rfl,-⟩:=h
    exact jw hT hs hρ hd h0 lf jd cb ui need gs
  ·simp only [Option.some.injEq,Prod.mk.injEq] at h
   obtain ⟨rfl,-⟩:=h
   exact jw hT hs hρ hd h0 lf jd cb ui need gs
 ·cases h
end
def V4 (q p:List (Nat × Bool)):Bool:=q.all fun y=>p.any fun z=>Nat.beq y.1 z.1&&(y.2 == z.2)

def X5 (p:List (Nat × Bool)):AV→Option AV
  | .g q a=>bif V4 q p then some a else none
  | x=>some x

def MS (need:List (Nat × AV)) (p:List (Nat × Bool)):Operand→Option AV
  | .tmp t=>(match look need t with | some x=>X5 p x | none=>none)
  | .const v=>ofConst v
  | .func f=>some (.fn f [])
  | .global g=>(match look zr.gl g with | some cs=>some (.ref cs) | none=>none)

def TY:AV→Option (List (Nat × Bool) × Bool)
  | .d (.v (.bool e))=>some ([],e)
  | .g q (.d (.v (.bool e)))=>some (q,e)
  | _=>none

structure St where
  sl:List (Nat × AV)
  lb:List (Nat × bK)

def St.get (sl:List (Nat × AV)) (t:Nat):AV:=match look sl t with | some x=>x | none=>.any

def St.fZ (st:St):M:={ sl:=St.get st.sl,lb:=look st.lb }

def slotsOf:List Operand→List Nat
  | []=>[]
  | .tmp t :: r=>t :: slotsOf r
  | _ :: r=>slotsOf r

def og (sl:List (Nat × AV)):List Nat→List (Nat × AV)
  | []=>[]
  | t :: r=>(t,St.get sl t) :: og sl r

/-- a bool on aak others adr is ac8 -/
def Se (gl:List (Nat × Bool)) (s:Nat) (e:Bool):List (Nat × Bool) × Ob :=
  match look gl s with
  | some e'=>(gl,.be e e')
  | none=>(gl++[(s,e)],.tt)

def KT (gl:List (Nat × Bool)):List Nat→List (Nat × Bool)
  | []=>[]
  | s :: r=>(match look gl s with | some e=>(s,e) :: KT gl r | none=>KT gl r)

def xm (gl:List (Nat × Bool)):List (Nat × Bool)→Ob→Ob
  | [],ob=>ob
  | (s,w) :: r,ob=>(match look gl s with | some e=>(xm gl r ob).imp e w | none=>xm gl r ob)

def Bd (p:List (Nat × Bool)) (v:AV):AV:=match p with | []=>v | _ :: _=>.g p v

def CF (ops:Array Oper) (j:Nat):Option Nat:=match ops[j]? with | some o=>o.dst | none=>none

/-- Vw ac9 on aak an operation ada -/
def pathOf (nt:Nat) (ops:Array Oper) (sl:List (Nat × AV)) (gl:List (Nat × Bool)):Option (Nat × Bool)→Option (List (Nat × Bool) × List Nat × List (Nat × Bool) × Ob)
  | none=>some ([],[],gl,.tt)
  | some (j,want)=>(match CF ops j with
    | some s=>bif Nat.ble (s+1) nt then (match TY (St.get sl s) with
      | some (q,e)=>(match Se gl s e with | (MT,ob)=>some (q++[(s,want)],[s],MT,ob))
      | none=>none) else none
    | none=>none)

def TZ (need:List (Nat × AV)) (p:List (Nat × Bool)) (c x y:Operand):Option (Nat × Bool × Bool × Bool) :=
  match c with
  | .tmp s=>(match MS need p c,MS need ((s,true) :: p) x,MS need ((s,false) :: p) y with
    | some (.d (.v (.bool e))),some (.d (.v (.bool ex))),some (.d (.v (.bool ey)))=>some (s,e,ex,ey)
    | _,_,_=>none)
  | _=>none

def Pm (P:Program) (T:List (Nat × TI)) (nt:Nat) (ops:Array Oper) (st:St) (gl:List (Nat × Bool)) (kj:List zP) (o:Oper):Option (Tr × List (Nat × Bool) × List zP × Ob) :=
  match pathOf nt ops st.sl gl o.guard,(match o.dst with | some d=>Nat.ble (d+1) nt | none=>true) with
  | some (p,ss,T1,yX),true =>
    (match o.op with
    | .pick c x y=>(match TZ (og st.sl (ss++slotsOf [c,x,y])) p c x y with
      | some (s,e,ex,ey)=>(match Se T1 s e with
        | (ZE,Ej)=>some (⟨og st.sl (ss++slotsOf [c,x,y]),o.dst,Bd p (.d (.v (.bool (bif e then ex else ey)))),[],[],[],KT ZE (s :: p.map (·.1))⟩,ZE,kj,yX.and Ej))
      | none=>none)
    | op=>(match TU P T st.lb (MS (og st.sl (ss++slotsOf op.operands.toList)) p) o.dst (!p.isEmpty) kj op with
      | some (r,qH)=>some (⟨og st.sl (ss++slotsOf op.operands.toList),o.dst,Bd p r.v,r.ro,r.mem,r.fk,KT T1 (p.map (·.1))⟩,T1,qH,yX.and (xm T1 p r.ob))
      | none=>none))
  | _,_=>none

def bw {α:Type} (ks:List Nat):List (Nat × α)→List (Nat × α)
  | []=>[]
  | (k,x) :: r=>bif ks.any (fun q=>Nat.beq q k) then bw ks r else (k,x) :: bw ks r

def St.apply (st:St) (τ:Tr):St :=
  { sl:=match τ.dst with | some d=>(d,τ.v) :: bw [d] st.sl | none=>st.sl
    lb:=match τ.mem,τ.fk with | [],[]=>st.lb | m,m'=>m'++bw (m.map (·.1)) st.lb }

def MU (P:Program) (T:List (Nat × TI)) (nt:Nat) (ops:Array Oper):List Oper→St→List (Nat × Bool)→List zP→Option (List Tr × St × List (Nat × Bool) × List zP × Ob)
  | [],st,gl,kj=>some ([],st,gl,kj,.tt)
  | o :: r,st,gl,kj=>(match Pm P T nt ops st gl kj o with
    | some (τ,MT,qH,ob)=>(match MU P T nt ops r (st.apply τ) MT qH with
      | some (l,st',abY,aal,AW)=>some (τ :: l,st',abY,aal,ob.and AW)
      | none=>none)
    | none=>none)

def KU (st:St) (κ:Nat):Bool:=st.sl.all (fun p=>!p.2.keys.any (fun k=>Nat.beq k κ))&&st.lb.all (fun p=>!Nat.beq p.1 κ&&!p.2.keys.any (fun k=>Nat.beq k κ))

def Xf (jf:Option (List Nat)) (t:Nat):Bool:=match jf with | some l=>l.any (fun k=>Nat.beq k t) | none=>true

def T2 (draw:Bool) (ops:Array Oper) (sA:List Tr):Bool:=match draw with | true=>Mk ops sA | false=>wZ sA

def wx (jf:Option (List Nat)):List (Nat × AV)→List (Nat × AV)
  | []=>[]
  | (t,x) :: r=>bif sC x&&Xf jf t then (t,x) :: wx jf r else wx jf r

def rk:List (Nat × AV)→Bool
  | []=>true
  | (t,_) :: r=>r.all (fun p=>!Nat.beq p.1 t)&&rk r

/-- a region: Vw state behind it,and Z6 abI hold -/
def xn (P:Program) (T:List (Nat × TI)) (nt:Nat) (ops:Array Oper) (draw:Bool) (jf:Option (List Nat)) (st:St) (kj:List zP):Option (St × Ob) :=
  match MU P T nt ops ops.toList st [] kj with
  | some (sA,st',_,[],ob)=>bif T2 draw ops sA&&sA.all (fun τ=>τ.created.all (KU st))&&rk st'.sl then some (⟨wx jf st'.sl,st'.lb⟩,ob) else none
  | _=>none

/-! ZF -/

theorem cg {α:Type} (k:Nat) (x:α) (r:List (Nat × α)) (t:Nat):look ((k,x) :: r) t=if k=t then some x else look r t:=by
  simp only [look]
  cases hb:Nat.beq k t with
  | true=>simp [Nat.eq_of_beq_eq_true hb]
  | false =>
    have:¬ k=t:=fun e=>by rw [e,Nat.beq_refl] at hb; cases hb
    simp [this]

theorem sL {α:Type} (l r:List (Nat × α)) (t:Nat):look (l++r) t=match look l t with | some x=>some x | none=>look r t:=by
  induction l with
  | nil=>rfl
  | cons p l ih =>
    obtain ⟨k,x⟩:=p
    simp only [List.cons_append,cg]
    split
    · rfl
    · exact ih

theorem ng {α:Type} (ks:List Nat) (l:List (Nat × α)) (t:Nat):look (bw ks l) t=if t∈ks then none else look l t:=by
  induction l with
  | nil=>simp [bw,look]
  | cons p l ih =>
    obtain ⟨k,x⟩:=p
    simp only [bw]
    cases hb:ks.any (fun q=>Nat.beq q k) with
    | true =>
      simp only [cond_true]
      rw [ih,cg]
      have hk:k∈ks:=by
        obtain ⟨q,hq,he⟩:=List.any_eq_true.1 hb
        rw [← Nat.eq_of_beq_eq_true he]
        exact hq
      by_cases c:k=t
      · subst c; simp [hk]
      · simp [c]
    | false =>
      simp only [cond_false,cg]
      have hk:k ∉ ks:=fun hc=>by
        have:ks.any (fun q=>Nat.beq q k)=true:=List.any_eq_true.2 ⟨k,hc,Nat.beq_refl k⟩
        rw [this] at hb
        cases hb
      by_cases c:k=t
      · subst c; simp [hk]
      · simp only [c,if_false]
        exact ih

theorem KV (d:Nat) (v:AV) (sl:List (Nat × AV)) (t:Nat):St.get ((d,v) :: bw [d] sl) t=if d=t then v else St.get sl t:=by
  unfold St.get
  rw [cg]
  by_cases c:d=t
  · simp [c]
  · simp only [c,if_false]
    rw [ng]
    have:t ∉ [d]:=by simp; exact fun e=>c e.symm
    simp [this]

theorem St.Sf (st:St) (τ:Tr):(st.apply τ).fZ=τ.apply st.fZ:=by
  unfold St.apply St.fZ Tr.apply
  have e1:(St.get (match τ.dst with | some d=>(d,τ.v) :: bw [d] st.sl | none=>st.sl))=fun t=>if τ.dst=some t then τ.v else St.get st.sl t:=by
    funext t
    cases hd:τ.dst with
    | none=>simp
    | some d =>
      simp only [Option.some.injEq]
      exact KV d τ.v st.sl t
  have e2:look (match τ.mem,τ.fk with | [],[]=>st.lb | m,m'=>m'++bw (m.map (·.1)) st.lb)=fun k=>match look τ.fk k with | some b=>some b | none=>if k∈τ.mem.map (·.1) then none else look st.lb k:=by
    funext k
    split
    · rename_i h1 h2
      simp [h1,h2,look]
    · rw [sL,ng]
      cases look τ.fk k <;> simp
  show M.mk (St.get _) (look _)=_
  rw [e1,e2]
  rfl

/-! Vw blocks VP an operation names are adb VP it has looked up -/

theorem DU {lb:List (Nat × bK)} {x:AV} {cs:List AV} {ro:List (Nat × bK)} {ob:Ob} (h:nc lb x=some (cs,ro,ob)):∀ p,p∈ro→look lb p.1=some p.2:=by
  unfold nc at h
  split at h
  · split at h
    · rename_i hl
      simp only [Option.some.injEq,Prod.mk.injEq] at h
      obtain ⟨-,rfl,-⟩:=h
      intro p hp
      simp only [List.mem_singleton] at hp
      subst hp
      exact hl
    · cases h
  · rename_i key k i off
    split at h
    · rename_i e k' n f hl
      cases hb:Nat.beq k k' with
      | false=>rw [hb] at h; cases h
      | true =>
        rw [hb] at h
        simp only [cond_true,Option.some.injEq,Prod.mk.injEq] at h
        obtain ⟨-,rfl,-⟩:=h
        intro p hp
        simp only [List.mem_singleton] at hp
        subst hp
        exact hl
    · cases h
  · simp only [Option.some.injEq,Prod.mk.injEq] at h
    obtain ⟨-,rfl,-⟩:=h
    intro p hp
    cases hp
  · cases h

theorem bR {lb ro:List (Nat × bK)} (h:ro=[]):∀ p,p∈ro→look lb p.1=some p.2:=fun p hp=>by subst h; cases hp

theorem X6 {T:List (Nat × TI)} {lb:List (Nat × bK)} {ρ:Operand→Option AV} {o:Op} {v:AV} {ro:List (Nat × bK)} {ob:Ob} (h:Zu T lb ρ o=some (v,ro,ob)):∀ p,p∈ro→look lb p.1=some p.2:=by
  have Pn:∀ {x:AV},ok x=some (v,ro,ob)→ro=[]:=fun h=>by simp only [ok,Option.some.injEq,Prod.mk.injEq] at h; exact h.2.1.symm
  unfold Zu at h
  split at h
  · split at h
    · exact bR (Pn h)
    · cases h
  · split at h
    · exact bR (Pn h)
    · cases h
  · split at h
    · split at h
      · rename_i hc
        split at h
        · simp only [Option.some.injEq,Prod.mk.injEq] at h
          obtain ⟨-,rfl,-⟩:=h
          exact DU hc
        · cases h
      · cases h
    · cases h
  · split at h
    · unfold Fg at h
      split at h
      · split at h <;> first | exact bR (Pn h) | cases h
      · cases h
    · cases h
  · split at h
    · unfold KI at h
      split at h
      · split at h
        · split at h
          · split at h
            · exact bR (Pn h)
            · cases h
          · cases h
        · cases h
      · cases h
    · cases h
  · split at h
    · unfold sJ at h
      split at h
      · split at h
        · split at h
          · rename_i ie _ n _ m f _ _ _
            generalize hb:Nat.beq _ _=bb at h
            cases bb with
            | false=>cases h
            | true =>
              simp only [cond_true,Option.some.injEq,Prod.mk.injEq] at h
              exact bR h.2.1.symm
          · simp only [Option.some.injEq,Prod.mk.injEq] at h
            exact bR h.2.1.symm
          · cases h
        · cases h
      · cases h
    · cases h
  · split at h
    · unfold Fh at h
      split at h
      · simp only [Option.some.injEq,Prod.mk.injEq] at h
        exact bR h.2.1.symm
      · cases h
    · cases h
  · split at h
    · unfold QL at h
      split at h
      · split at h
        · simp only [Option.some.injEq,Prod.mk.injEq] at h
          exact bR h.2.1.symm
        · simp only [Option.some.injEq,Prod.mk.injEq] at h
          exact bR h.2.1.symm
        · cases h
      · split at h
        · simp only [Option.some.injEq,Prod.mk.injEq] at h
          exact bR h.2.1.symm
        · cases h
      · split at h
        · exact bR (Pn h)
        · cases h
      · cases h
    · cases h
  · split at h
    · unfold VS at h
      split at h <;> first | exact bR (Pn h) | cases h
    · cases h
  · split at h
    · unfold O8 at h
      split at h
      · exact bR (Pn h)
      · cases h
    · cases h
  · split at h
    · unfold yv at h
      split at h
      · split at h
        · exact bR (Pn h)
        · cases h
      · cases h
    · cases h
  · unfold Fi at h
    split at h
    · split at h
      · split at h
        · exact bR (Pn h)
        · cases h
      · cases h
    · cases h
  · split at h
    · exact bR (Pn h)
    · cases h
  · split at h
    · unfold Fj at h
      split at h
      · unfold vd at h
        split at h <;> first | exact bR (Pn h) | (simp only [Option.some.injEq,Prod.mk.injEq] at h; exact bR h.2.1.symm) | cases h
      · split at h
        · unfold yw at h
          split at h <;> first | (simp only [Option.some.injEq,Prod.mk.injEq] at h; exact bR h.2.1.symm) | cases h
        · cases h
      · split at h
        · unfold vf at h
          split at h
          · generalize (_&&_&&_:Bool)=bb at h
            cases bb with
            | false=>cases h
            | true=>exact bR (Pn h)
          · cases h
        · cases h
      · cases h
    · cases h
  · split at h
    · unfold QM at h
      split at h <;> first | exact bR (Pn h) | cases h
    · cases h
  · split at h
    · unfold Cw at h
      split at h
      · split at h
        · exact bR (Pn h)
        · cases h
      · cases h
    · cases h
  · split at h
    · unfold Cw at h
      split at h
      · split at h
        · exact bR (Pn h)
        · cases h
      · cases h
    · cases h
  · cases h

theorem QX {lb:List (Nat × bK)} {x:AV} {y:D} {ro:List (Nat × bK)} {ob:Ob} (h:KK lb x=some (y,ro,ob)):∀ p,p∈ro→look lb p.1=some p.2:=by
  unfold KK at h
  split at h
  · simp only [Option.some.injEq,Prod.mk.injEq] at h
    exact bR h.2.1.symm
  · simp only [Option.some.injEq,Prod.mk.injEq] at h
    exact bR h.2.1.symm
  · split at h
    · rename_i hl
      simp only [Option.some.injEq,Prod.mk.injEq] at h
      obtain ⟨-,rfl,-⟩:=h
      intro p hp
      simp only [List.mem_singleton] at hp
      subst hp
      exact hl
    · cases h
  · cases h

theorem F8 {lb:List (Nat × bK)}:∀ {xs:List AV} {ys:List D} {ro:List (Nat × bK)} {ob:Ob},zt lb xs=some (ys,ro,ob)→∀ p,p∈ro→look lb p.1=some p.2
  | [],ys,ro,ob,h=>by simp only [zt,Option.some.injEq,Prod.mk.injEq] at h; exact bR h.2.1.symm
  | x :: r,ys,ro,ob,h=>by
    simp only [zt] at h
    split at h
    · rename_i h1 h2
      simp only [Option.some.injEq,Prod.mk.injEq] at h
      obtain ⟨-,rfl,-⟩:=h
      intro p hp
      rcases List.mem_append.1 hp with hp | hp
      · exact QX h1 p hp
      · exact F8 h2 p hp
    · cases h

theorem MV {lb:List (Nat × bK)} {x y:AV} {ro:List (Nat × bK)} {ob:Ob} (h:xi lb x=some (y,ro,ob)):∀ p,p∈ro→look lb p.1=some p.2:=by
  unfold xi at h
  split at h
  · simp only [Option.some.injEq,Prod.mk.injEq] at h
    exact bR h.2.1.symm
  · split at h
    · rename_i hl
      split at h
      · rename_i hb
        simp only [Option.some.injEq,Prod.mk.injEq] at h
        obtain ⟨-,rfl,-⟩:=h
        intro p hp
        rcases List.mem_cons.1 hp with rfl | hp
        · exact hl
        · exact F8 hb p hp
      · cases h
    · cases h
  · split at h
    · rename_i hb
      simp only [Option.some.injEq,Prod.mk.injEq] at h
      obtain ⟨-,rfl,-⟩:=h
      exact F8 hb
    · cases h
  · split at h
    · rename_i hl
      simp only [Option.some.injEq,Prod.mk.injEq] at h
      obtain ⟨-,rfl,-⟩:=h
      intro p hp
      simp only [List.mem_singleton] at hp
      subst hp
      exact hl
    · simp only [Option.some.injEq,Prod.mk.injEq] at h
      exact bR h.2.1.symm
    · cases h
  · simp only [Option.some.injEq,Prod.mk.injEq] at h
    exact bR h.2.1.symm
  · split at h
    · rename_i hb
      simp only [Option.some.injEq,Prod.mk.injEq] at h
      obtain ⟨-,rfl,-⟩:=h
      exact QX hb
    · cases h

theorem JY {lb:List (Nat × bK)}:∀ {xs ys:List AV} {ro:List (Nat × bK)} {ob:Ob},vi lb xs=some (ys,ro,ob)→∀ p,p∈ro→look lb p.1=some p.2
  | [],ys,ro,ob,h=>by simp only [vi,Option.some.injEq,Prod.mk.injEq] at h; exact bR h.2.1.symm
  | x :: r,ys,ro,ob,h=>by
    simp only [vi] at h
    split at h
    · rename_i h1 h2
      simp only [Option.some.injEq,Prod.mk.injEq] at h
      obtain ⟨-,rfl,-⟩:=h
      intro p hp
      rcases List.mem_append.1 hp with hp | hp
      · exact MV h1 p hp
      · exact JY h2 p hp
    · cases h

theorem V5 {lb:List (Nat × bK)} {x y:AV} {ro:List (Nat × bK)} {ob:Ob} (h:wN lb x=some (y,ro,ob)):∀ p,p∈ro→look lb p.1=some p.2:=by
  unfold wN at h
  split at h
  · split at h
    · rename_i hb
      simp only [Option.some.injEq,Prod.mk.injEq] at h
      obtain ⟨-,rfl,-⟩:=h
      exact JY hb
    · cases h
  · exact MV h

theorem F9 {lb:List (Nat × bK)}:∀ {xs ys:List AV} {ro:List (Nat × bK)} {ob:Ob},uv lb xs=some (ys,ro,ob)→∀ p,p∈ro→look lb p.1=some p.2
  | [],ys,ro,ob,h=>by simp only [uv,Option.some.injEq,Prod.mk.injEq] at h; exact bR h.2.1.symm
  | x :: r,ys,ro,ob,h=>by
    simp only [uv] at h
    split at h
    · rename_i h1 h2
      simp only [Option.some.injEq,Prod.mk.injEq] at h
      obtain ⟨-,rfl,-⟩:=h
      intro p hp
      rcases List.mem_append.1 hp with hp | hp
      · exact V5 h1 p hp
      · exact F9 h2 p hp
    · cases h

theorem zQ {lb:List (Nat × bK)}:∀ {ks:List Nat} {l:List (Nat × bK)},looks lb ks=some l→∀ p,p∈l→look lb p.1=some p.2
  | [],l,h=>by simp only [looks,Option.some.injEq] at h; exact bR h.symm
  | k :: r,l,h=>by
    simp only [looks] at h
    split at h
    · rename_i h1 h2
      simp only [Option.some.injEq] at h
      subst h
      intro p hp
      rcases List.mem_cons.1 hp with rfl | hp
      · exact h1
      · exact zQ h2 p hp
    · cases h

theorem MW {P:Program} {T:List (Nat × TI)} {lb:List (Nat × bK)} {ρ:Operand→Option AV} {dst:Option Nat} {quiet:Bool} {kj qH:List zP} {op:Op} {r:R} (h:MM P T lb ρ dst quiet kj op=some (r,qH)) :
    (∀ p,p∈r.ro→look lb p.1=some p.2)∧(∀ p,p∈r.mem→look lb p.1=some p.2)∧(quiet=true→r.mem=[]∧r.fk=[]):=by
  have one:∀ {κ:Nat} {b:bK},look lb κ=some b→∀ p,p∈[(κ,b)]→look lb p.1=some p.2:=fun hl p hp=>by
    simp only [List.mem_singleton] at hp
    subst hp
    exact hl
  unfold MM at h
  split at h
  · split at h
    · simp only [Option.some.injEq,Prod.mk.injEq] at h
      obtain ⟨rfl,-⟩:=h
      exact ⟨bR rfl,bR rfl,fun hq=>(by cases hq)⟩
    · cases h
  · split at h
    · split at h
      · split at h
        · simp only [Option.some.injEq,Prod.mk.injEq] at h
          obtain ⟨rfl,-⟩:=h
          exact ⟨bR rfl,bR rfl,fun hq=>(by cases hq)⟩
        generalize (sC.lN _&&_)=bb at h
        cases bb with
        | false=>cases h
        | true =>
          simp only [cond_true,Option.some.injEq,Prod.mk.injEq] at h
          obtain ⟨rfl,-⟩:=h
          exact ⟨bR rfl,bR rfl,fun hq=>(by cases hq)⟩
      · cases h
    · cases h
  · split at h
    · split at h
      · simp only [Option.some.injEq,Prod.mk.injEq] at h
        obtain ⟨rfl,-⟩:=h
        exact ⟨bR rfl,bR rfl,fun _=>⟨rfl,rfl⟩⟩
      · split at h
        · simp only [Option.some.injEq,Prod.mk.injEq] at h
          obtain ⟨rfl,-⟩:=h
          exact ⟨bR rfl,bR rfl,fun hq=>(by cases hq)⟩
        · cases h
    · cases h
  · split at h
    · split at h
      · rename_i r' mG
        simp only [Option.some.injEq,Prod.mk.injEq] at h
        obtain ⟨rfl,-⟩:=h
        refine ⟨?_,?_,fun hq=>(by cases hq)⟩
        all_goals
          unfold KR at mG
          split at mG
          · rename_i i xs hi hc
            split at mG
            · rename_i κ off
              split at mG
              · rename_i cs hl
                generalize (Nat.beq _ _&&_&&_&&_)=bb at mG
                cases bb with
                | false=>cases mG
                | true =>
                  simp only [cond_true,Option.some.injEq] at mG
                  subst mG
                  first | exact one hl | exact bR rfl
              · cases mG
            · split at mG
              · rename_i e k' n f ds hl hp
                generalize hb:(Nat.beq _ k'&&_&&_&&_)=bb at mG
                cases bb with
                | false=>cases mG
                | true =>
                  simp only [Bool.and_eq_true] at hb
                  have ek:=Nat.eq_of_beq_eq_true hb.1.1.1
                  subst ek
                  simp only [cond_true,Option.some.injEq] at mG
                  subst mG
                  first | exact one hl | exact bR rfl
              · cases mG
            · cases mG
          · cases mG
      · cases h
    · cases h
  · split at h
    · split at h
      · split at h
        · rename_i r' wX
          simp only [Option.some.injEq,Prod.mk.injEq] at h
          obtain ⟨rfl,-⟩:=h
          have main:(∀ p,p∈r'.ro→look lb p.1=some p.2)∧(∀ p,p∈r'.mem→look lb p.1=some p.2):=by
            unfold F6 at wX
            split at wX
            · split at wX
              · rename_i i hi
                split at wX
                · rename_i m g ro ob ki
                  have lf:∀ p,p∈ro→look lb p.1=some p.2:=by
                    unfold TP at ki
                    split at ki
                    · simp only [Option.some.injEq,Prod.mk.injEq] at ki
                      exact bR ki.2.2.1.symm
                    · simp only [Option.some.injEq,Prod.mk.injEq] at ki
                      exact bR ki.2.2.1.symm
                    · simp only [Option.some.injEq,Prod.mk.injEq] at ki
                      exact bR ki.2.2.1.symm
                    · split at ki
                      · rename_i hl
                        generalize hb:Nat.beq _ _=bb at ki
                        cases bb with
                        | false=>cases ki
                        | true =>
                          simp only [cond_true,Option.some.injEq,Prod.mk.injEq] at ki
                          obtain ⟨-,-,rfl,-⟩:=ki
                          exact one hl
                      · cases ki
                    · cases ki
                  split at wX
                  · simp only [Option.some.injEq] at wX
                    subst wX
                    exact ⟨lf,bR rfl⟩
                  · split at wX
                    · rename_i hl
                      generalize (Nat.beq _ _&&_&&_)=bb at wX
                      cases bb with
                      | false=>cases wX
                      | true =>
                        simp only [cond_true,Option.some.injEq] at wX
                        subst wX
                        exact ⟨lf,one hl⟩
                    · cases wX
                  · cases wX
                · cases wX
              · cases wX
            · cases wX
          exact ⟨main.1,main.2,fun hq=>(by cases hq)⟩
        · cases h
      · cases h
    · cases h
  · split at h
    · unfold Pj at h
      split at h
      · split at h
        · split at h
          · rename_i hb
            generalize fJ _=bb at h
            cases bb with
            | false=>cases h
            | true =>
              simp only [cond_true,Option.some.injEq,Prod.mk.injEq] at h
              obtain ⟨rfl,-⟩:=h
              exact ⟨F9 hb,bR rfl,fun _=>⟨rfl,rfl⟩⟩
          · cases h
        · cases h
      · rename_i hand res back Sa
        split at h
        · split at h
          · rename_i cZ yt
            generalize hb:(sC.lN _&&Fl res back&&sC res&&(!quiet||(hand.isEmpty&&back.isEmpty))&&back.all (fun p=>!hand.contains p.1))=bb at h
            cases bb with
            | false=>cases h
            | true =>
              simp only [cond_true,Option.some.injEq,Prod.mk.injEq] at h
              obtain ⟨rfl,-⟩:=h
              simp only [Bool.and_eq_true,Bool.or_eq_true,Bool.not_eq_true',List.isEmpty_iff] at hb
              refine ⟨bR rfl,zQ yt,fun hq=>?_⟩
              rcases hb.1.2 with h1 | ⟨h1,h2⟩
              · rw [hq] at h1; cases h1
              · subst h1; subst h2
                simp only [looks,Option.some.injEq] at yt
                exact ⟨yt.symm,rfl⟩
          · cases h
        · cases h
      · rename_i κ b' Sa
        split at h
        · split at h
          · rename_i b yt
            generalize hb:(sC.lN _&&!quiet)=bb at h
            cases bb with
            | false=>cases h
            | true =>
              simp only [cond_true,Option.some.injEq,Prod.mk.injEq] at h
              obtain ⟨rfl,-⟩:=h
              simp only [Bool.and_eq_true,Bool.not_eq_true'] at hb
              refine ⟨bR rfl,fun p hp=>?_,fun hq=>?_⟩
              · have:p=(κ,b):=by simpa using hp
                subst this
                exact yt
              · rw [hq] at hb; cases hb.2
          · cases h
        · cases h
      · rename_i hand lg res back Sa
        split at h
        · split at h
          · rename_i cZ yt
            generalize hb:(sC.lN _&&V2 _ hand cZ lg res back&&sC res&&!quiet)=bb at h
            cases bb with
            | false=>cases h
            | true =>
              simp only [cond_true,Option.some.injEq,Prod.mk.injEq] at h
              obtain ⟨rfl,-⟩:=h
              simp only [Bool.and_eq_true,Bool.not_eq_true'] at hb
              exact ⟨bR rfl,zQ yt,fun hq=>by rw [hq] at hb; cases hb.2⟩
          · cases h
        · cases h
      · cases h
    · cases h
  · split at h
    · split at h
      · simp only [Option.some.injEq,Prod.mk.injEq] at h
        obtain ⟨rfl,-⟩:=h
        exact ⟨bR rfl,bR rfl,fun hq=>(by cases hq)⟩
      · cases h
    · cases h
  · split at h
    · simp only [Option.some.injEq,Prod.mk.injEq] at h
      obtain ⟨rfl,-⟩:=h
      exact ⟨bR rfl,bR rfl,fun _=>⟨rfl,rfl⟩⟩
    · split at h
      · rename_i hv
        simp only [Option.some.injEq,Prod.mk.injEq] at h
        obtain ⟨rfl,-⟩:=h
        exact ⟨X6 hv,bR rfl,fun _=>⟨rfl,rfl⟩⟩
      · cases h

theorem MX {P:Program} {T:List (Nat × TI)} {lb:List (Nat × bK)} {ρ:Operand→Option AV} {dst:Option Nat} {quiet:Bool} {kj qH:List zP} {op:Op} {r:R} (h:MN P T lb ρ dst quiet kj op=some (r,qH)) :
    (∀ p,p∈r.ro→look lb p.1=some p.2)∧(∀ p,p∈r.mem→look lb p.1=some p.2)∧(quiet=true→r.mem=[]∧r.fk=[]):=by
  unfold MN at h
  split at h
  · rename_i hm
    simp only [Option.some.injEq,Prod.mk.injEq] at h
    obtain ⟨rfl,-⟩:=h
    exact ⟨(F4 hm).1,(F4 hm).2.1,(F4 hm).2.2.1⟩
  split at h
  · rename_i hm
    simp only [Option.some.injEq,Prod.mk.injEq] at h
    obtain ⟨rfl,-⟩:=h
    exact R9 hm
  split at h
  · simp only [Option.some.injEq,Prod.mk.injEq] at h
    obtain ⟨rfl,-⟩:=h
    exact ⟨bR rfl,bR rfl,fun _=>⟨rfl,rfl⟩⟩
  · exact MW h

theorem Po {c:pE} {r r':R} (h:MO c r=some r'):r'.ro=r.ro∧r'.mem=r.mem∧(r.fk=[]→r'.fk=[]):=by
  unfold MO at h
  split at h
  · rename_i hm
    have nn:∀ {x:List (Nat × bK)},r.fk=[]→x=[]:=fun e=>by rw [hm] at e; cases e
    split at h
    · generalize Nat.beq _ _=bb at h
      cases bb with
      | false=>cases h
      | true =>
        simp only [cond_true,Option.some.injEq] at h
        subst h
        exact ⟨rfl,rfl,nn⟩
    · simp only [Option.some.injEq] at h
      subst h
      exact ⟨rfl,rfl,nn⟩
    · cases h
  · split at h
    · simp only [Option.some.injEq] at h
      subst h
      exact ⟨rfl,rfl,fun _=>rfl⟩
    · cases h
  · cases h

theorem Pp {c:F5} {r r':R} (h:MP c r=some r'):r'.ro=r.ro∧r'.mem=r.mem∧(r.fk=[]→r'.fk=[]):=by
  unfold MP at h
  split at h
  · rename_i hm
    split at h
    · simp only [Option.some.injEq] at h
      subst h
      exact ⟨rfl,rfl,fun e=>by rw [hm] at e; cases e⟩
    · simp only [Option.some.injEq] at h
      subst h
      exact ⟨rfl,rfl,fun e=>by rw [hm] at e; cases e⟩
    · cases h
  · cases h

theorem Pq {P:Program} {T:List (Nat × TI)} {lb:List (Nat × bK)} {ρ:Operand→Option AV} {dst:Option Nat} {quiet:Bool} {kj qH:List zP} {op:Op} {r:R} (h:TU P T lb ρ dst quiet kj op=some (r,qH)) :
    (∀ p,p∈r.ro→look lb p.1=some p.2)∧(∀ p,p∈r.mem→look lb p.1=some p.2)∧(quiet=true→r.mem=[]∧r.fk=[]):=by
  unfold TU at h
  split at h
  · rename_i r0 Ix h0
    obtain ⟨q1,q2,q3⟩:=MX h0
    split at h
    · split at h
      · rename_i r' hn
        simp only [Option.some.injEq,Prod.mk.injEq] at h
        obtain ⟨rfl,-⟩:=h
        obtain ⟨e1,e2,e3⟩:=Po hn
        rw [e1,e2]
        exact ⟨q1,q2,fun hq=>⟨(q3 hq).1,e3 (q3 hq).2⟩⟩
      · simp only [Option.some.injEq,Prod.mk.injEq] at h
        obtain ⟨rfl,-⟩:=h
        exact ⟨q1,q2,q3⟩
    · split at h
      · rename_i r' hn
        simp only [Option.some.injEq,Prod.mk.injEq] at h
        obtain ⟨rfl,-⟩:=h
        obtain ⟨e1,e2,e3⟩:=Pp hn
        rw [e1,e2]
        exact ⟨q1,q2,fun hq=>⟨(q3 hq).1,e3 (q3 hq).2⟩⟩
      · simp only [Option.some.injEq,Prod.mk.injEq] at h
        obtain ⟨rfl,-⟩:=h
        exact ⟨q1,q2,q3⟩
    · split at h
      · generalize Nat.beq _ _=bb at h
        cases bb with
        | false =>
          simp only [cond_false,Option.some.injEq,Prod.mk.injEq] at h
          obtain ⟨rfl,-⟩:=h
          exact ⟨q1,q2,q3⟩
        | true =>
          simp only [cond_true,Option.some.injEq,Prod.mk.injEq] at h
          obtain ⟨rfl,-⟩:=h
          exact ⟨q1,q2,q3⟩
      · simp only [Option.some.injEq,Prod.mk.injEq] at h
        obtain ⟨rfl,-⟩:=h
        exact ⟨q1,q2,q3⟩
    · simp only [Option.some.injEq,Prod.mk.injEq] at h
      obtain ⟨rfl,-⟩:=h
      exact ⟨q1,q2,q3⟩
  · cases h

def rH (ν:Nat→Bool) (p:List (Nat × Bool)):Prop:=∀ y,y∈p→ν y.1=y.2

theorem Pr {ν:Nat→Bool} {q p:List (Nat × Bool)} (h:V4 q p=true) (hp:rH ν p):rH ν q:=by
  intro y hy
  simp only [V4,List.all_eq_true,List.any_eq_true,Bool.and_eq_true,beq_iff_eq] at h
  obtain ⟨z,hz,h1,h2⟩:=h y hy
  have:=hp z hz
  rw [Nat.eq_of_beq_eq_true h1,h2]
  exact this

section
variable {C : Cx} {A : M} {a : Act} {w : World} {S : Nat → Prop} {μ : Mu} {ν : Nat → Bool}

theorem Be (VT:iZ w S) {need:List (Nat × AV)} {p:List (Nat × Bool)} (Ga:∀ q,q∈need→Rel w S μ ν q.2 (a.tmps.getD q.1 undef)) (hp:rH ν p) (x:Operand) (y:AV) (h:MS need p x=some y):Rel w S μ ν y (a.eval x):=by
  cases x with
  | tmp t =>
    simp only [MS] at h
    cases hl:look need t with
    | none=>rw [hl] at h; cases h
    | some z =>
      rw [hl] at h
      have hr:=Ga (t,z) (hZ hl)
      show Rel w S μ ν y (a.tmps.getD t undef)
      simp only at h hr
      cases z with
      | g q b =>
        simp only [X5] at h
        cases hs:V4 q p with
        | false=>rw [hs] at h; cases h
        | true =>
          rw [hs] at h
          simp only [cond_true,Option.some.injEq] at h
          subst h
          cases hr with
          | g h1 _=>exact h1 (Pr hs hp)
      | _=>simp only [X5,Option.some.injEq] at h; subst h; exact hr
  | const v=>exact Mm h
  | func f =>
    simp only [MS,Option.some.injEq] at h
    subst h
    exact .fn rfl (fun i hi=>absurd hi (by simp))
  | global g =>
    simp only [MS] at h
    cases hl:look (zr.gl) g with
    | none=>rw [hl] at h; cases h
    | some cs =>
      rw [hl] at h
      simp only [Option.some.injEq] at h
      subst h
      obtain ⟨dp,h1,h2⟩:=VT (g,cs) (hZ hl)
      exact .ref dp h1 h2

theorem Gb {sl:List (Nat × AV)}:∀ {ts:List Nat} {q:Nat × AV},q∈og sl ts→q.2=St.get sl q.1∧q.1∈ts
  | t :: r,q,h=>by
    rcases List.mem_cons.1 h with rfl | h'
    · exact ⟨rfl,List.mem_cons_self⟩
    · obtain ⟨h1,h2⟩:=Gb h'
      exact ⟨h1,List.mem_cons_of_mem _ h2⟩

theorem CG {sl:List (Nat × AV)}:∀ {ts:List Nat} {s:Nat},s∈ts→(s,St.get sl s)∈og sl ts
  | t :: r,s,h=>by
    rcases List.mem_cons.1 h with rfl | h'
    · exact List.mem_cons_self
    · exact List.mem_cons_of_mem _ (CG h')

theorem Bf {gl:List (Nat × Bool)}:∀ {ss:List Nat} {q:Nat × Bool},q∈KT gl ss→look gl q.1=some q.2
  | s :: r,q,h=>by
    simp only [KT] at h
    cases hl:look gl s with
    | none=>rw [hl] at h; exact Bf h
    | some e =>
      rw [hl] at h
      rcases List.mem_cons.1 h with rfl | h'
      · exact hl
      · exact Bf h'

theorem xo {gl:List (Nat × Bool)} {ob:Ob}:∀ {p:List (Nat × Bool)},(xm gl p ob).den→(∀ s e,s∈p.map (·.1)→look gl s=some e→ν s=e)→rH ν p→ob.den
  | [],h,_,_=>h
  | (s,w) :: r,h,hg,hp=>by
    simp only [xm] at h
    have hr:∀ s e,s∈r.map (·.1)→look gl s=some e→ν s=e:=fun s e hs=>hg s e (by simp only [List.map_cons,List.mem_cons]; exact .inr hs)
    have Zv:rH ν r:=fun y hy=>hp y (List.mem_cons_of_mem _ hy)
    cases hl:look gl s with
    | none=>rw [hl] at h; exact xo h hr Zv
    | some e =>
      rw [hl] at h
      exact xo (Ob.VQ h (by rw [← hg s e (by simp) hl]; exact hp (s,w) List.mem_cons_self)) hr Zv

theorem JZ {gl MT:List (Nat × Bool)} {s:Nat} {e:Bool} {ob:Ob} (h:Se gl s e=(MT,ob)) (cb:ob.den):look MT s=some e∧∀ t x,look gl t=some x→look MT t=some x:=by
  unfold Se at h
  cases hl:look gl s with
  | some e' =>
    rw [hl] at h
    simp only [Prod.mk.injEq] at h
    obtain ⟨rfl,rfl⟩:=h
    simp only [Ob.den] at cb
    exact ⟨by rw [hl,cb],fun t x h=>h⟩
  | none =>
    rw [hl] at h
    simp only [Prod.mk.injEq] at h
    obtain ⟨rfl,rfl⟩:=h
    refine ⟨by rw [sL,hl]; simp [look],fun t x ht=>by rw [sL,ht]⟩

theorem T3 {ops:Array Oper} {j s:Nat} (hj:CF ops j=some s) (iR:s < a.tmps.size):yielded ops a.tmps j=match a.tmps.getD s undef with | .bool b=>some b | _=>none:=by
  unfold CF at hj
  cases ho:ops[j]? with
  | none=>rw [ho] at hj; cases hj
  | some o =>
    rw [ho] at hj
    simp only at hj
    unfold yielded
    rw [ho]
    simp only [Option.bind_some,hj,Array.getElem?_eq_getElem iR]
    have e:a.tmps.getD s undef=a.tmps[s]:=by simp [Array.getD,iR]
    rw [e]
    cases a.tmps[s] <;> rfl


theorem MY {p:List (Nat × Bool)} {v:AV} {x:Value} (hp:rH ν p) (h:Rel w S μ ν v x):Rel w S μ ν (Bd p v) x:=by
  cases p with
  | nil=>exact h
  | cons y r=>exact .g (fun _=>h) (fun hn=>absurd hp hn)

/-- Vw same X7,with V6 name for its result -/
theorem df.rename {τ τ':Tr} {a':Act} {w':World} {S':Nat→Prop} {μ':Mu} (h:df C (τ.apply A) a' w' S' μ' ν) (hd:τ'.dst=τ.dst) (hm:τ'.mem=τ.mem) (Iy:τ'.fk=τ.fk) (hv:∀ x,Rel w' S' μ' ν τ.v x→Rel w' S' μ' ν τ'.v x):df C (τ'.apply A) a' w' S' μ' ν:=by
  have e:(τ'.apply A).lb=(τ.apply A).lb:=by simp only [Tr.apply,hm,Iy]
  refine ⟨h.tmps,h.defers,fun t=>?_,by rw [e]; exact h.mem,by rw [e]; exact h.inj,by rw [e]; exact h.own,h.eJ,h.fresh,h.bound,h.kept⟩
  have h0:=h.eF t
  simp only [Tr.apply,hd] at h0 ⊢
  split
  · rename_i c
    simp only [c,if_true] at h0
    exact hv _ h0
  · rename_i c
    simp only [c,if_false] at h0
    exact h0

theorem KW {T:List (Nat × TI)} (hT:mP C.P T) {ops:Array Oper} {st:St} {gl MT:List (Nat × Bool)} {kj qH:List zP} {o:Oper} {τ:Tr} {ob:Ob}
    (h:Pm C.P T C.nt ops st gl kj o=some (τ,MT,qH,ob)) (cb:ob.den) (hν:∀ s e,look MT s=some e→ν s=e) :
    Ff C ν ops o τ∧(∀ p,p∈τ.gs→ν p.1=p.2)∧En τ st.fZ∧∀ t x,look gl t=some x→look MT t=some x:=by
  unfold Pm at h
  split at h
  case h_2=>cases h
  rename_i p ss T1 yX rI dH
  have hd:∀ t,o.dst=some t→t < C.nt:=fun t ht=>by
    rw [ht] at dH
    simp only at dH
    exact Nat.lt_of_succ_le (Nat.le_of_ble_eq_true dH)
  -- Vw path
  have path:yX.den→(∀ s e,look T1 s=some e→ν s=e)→(∀ t x,look gl t=some x→look T1 t=some x) ∧
      ∀ (A:M) (a:Act) (w:World) (S:Nat→Prop) (μ:Mu),df C A a w S μ ν→(∀ s,s∈ss→A.sl s=St.get st.sl s)→(Region.wanted o (yielded ops a.tmps)=true→rH ν p)∧(Region.wanted o (yielded ops a.tmps)=false→p≠[]∧¬ rH ν p):=by
    intro xp hν1
    unfold pathOf at rI
    split at rI
    · rename_i hg
      simp only [Option.some.injEq,Prod.mk.injEq] at rI
      obtain ⟨rfl,rfl,rfl,rfl⟩:=rI
      refine ⟨fun _ _ h=>h,fun A a w S μ hs _=>⟨fun _ y hy=>(by cases hy),fun hw=>?_⟩⟩
      simp [Region.wanted,hg] at hw
    · rename_i j want hg
      split at rI
      · rename_i s RT
        cases ZG:Nat.ble (s+1) C.nt with
        | false=>rw [ZG] at rI; cases rI
        | true =>
        rw [ZG] at rI
        simp only [cond_true] at rI
        split at rI
        · rename_i q e X8
          generalize Ps:Se gl s e=rg at rI
          obtain ⟨ZE,Ej⟩:=rg
          simp only [Option.some.injEq,Prod.mk.injEq] at rI
          obtain ⟨rfl,rfl,rfl,rfl⟩:=rI
          obtain ⟨g1,g2⟩:=JZ Ps xp
          refine ⟨g2,fun A a w S μ hs hss=>?_⟩
          have X9:=hν1 s e g1
          have hsA:=hss s (by simp)
          have hr:=hs.eF s
          rw [hsA] at hr
          have iR:s < a.tmps.size:=by rw [hs.tmps]; exact Nat.lt_of_succ_le (Nat.le_of_ble_eq_true ZG)
          have hy:=T3 (a:=a) RT iR
          have aam:Region.wanted o (yielded ops a.tmps)=((match a.tmps.getD s undef with | .bool b=>some b | _=>none) == some want):=by
            unfold Region.wanted
            rw [hg]
            simp only [hy]
          rw [aam]
          unfold TY at X8
          split at X8
          · rename_i Pg
            simp only [Option.some.injEq,Prod.mk.injEq] at X8
            obtain ⟨rfl,rfl⟩:=X8
            rw [Pg] at hr
            have:=nd hr
            rw [this]
            refine ⟨fun hw y hy=>?_,fun hw=>⟨by simp,fun hh=>?_⟩⟩
            · simp only [List.nil_append,List.mem_singleton] at hy
              subst hy
              simp only [beq_iff_eq,Option.some.injEq] at hw
              rw [X9,hw]
            · have:=hh (s,want) (by simp)
              rw [X9] at this
              simp [this] at hw
          · rename_i Pg
            simp only [Option.some.injEq,Prod.mk.injEq] at X8
            obtain ⟨rfl,rfl⟩:=X8
            rw [Pg] at hr
            generalize a.tmps.getD s undef=xv at hr ⊢
            cases hr with
            | g h1 h0 =>
              rename_i q0 e0
              by_cases hq:rH ν q0
              · have:=nd (h1 hq)
                rw [this]
                refine ⟨fun hw y hy=>?_,fun hw=>⟨by simp,fun hh=>?_⟩⟩
                · rcases List.mem_append.1 hy with hy | hy
                  · exact hq y hy
                  · simp only [List.mem_singleton] at hy
                    subst hy
                    simp only [beq_iff_eq,Option.some.injEq] at hw
                    rw [X9,hw]
                · have:=hh (s,want) (by simp)
                  rw [X9] at this
                  simp [this] at hw
              · have:=h0 hq
                rw [this]
                refine ⟨fun hw=>?_,fun _=>⟨by simp,fun hh=>hq (fun y hy=>hh y (List.mem_append.2 (.inl hy)))⟩⟩
                simp [undef] at hw
          · cases X8
        · cases rI
      · cases rI
  have enN:∀ (ts:List Nat) (τ:Tr),τ.need=og st.sl ts→(∀ p,p∈τ.ro→st.fZ.lb p.1=some p.2)→(∀ p,p∈τ.mem→st.fZ.lb p.1=some p.2)→En τ st.fZ:=fun ts τ hn h1 h2 =>
    ⟨fun q hq=>by rw [hn] at hq; exact (Gb hq).1.symm,h1,h2⟩
  split at h
  · -- pick
    rename_i c x y Im
    split at h
    · rename_i s e ex ey Bg
      generalize Ps:Se T1 s e=rg at h
      obtain ⟨ZE,Ej⟩:=rg
      simp only [Option.some.injEq,Prod.mk.injEq] at h
      obtain ⟨rfl,rfl,rfl,rfl⟩:=h
      obtain ⟨xp,yY⟩:=Ob.cG cb
      obtain ⟨r1,r2⟩:=JZ Ps yY
      obtain ⟨T4,Ya⟩:=path xp (fun s' e' hl=>hν s' e' (r2 s' e' hl))
      refine ⟨?_,fun q hq=>hν _ _ (Bf hq),enN _ _ rfl (fun p hp=>by cases hp) (fun p hp=>by cases hp),fun t x h=>r2 t x (T4 t x h)⟩
      intro A a w S μ hs Tk _ _
      have hA:∀ t,t∈ss++slotsOf [c,x,y]→A.sl t=St.get st.sl t:=fun t ht=>Tk.need (t,St.get st.sl t) (CG ht)
      obtain ⟨p1,p0⟩:=Ya A a w S μ hs (fun s' xa=>hA s' (List.mem_append.2 (.inl xa)))
      have Ga:∀ q,q∈og st.sl (ss++slotsOf [c,x,y])→Rel w S μ ν q.2 (a.tmps.getD q.1 undef):=fun q hq=>by
        have:=hs.eF q.1
        rw [Tk.need q hq] at this
        exact this
      split
      · rename_i hw
        have hp:=p1 hw
        have X9:ν s=e:=hν s e r1
        unfold TZ at Bg
        cases c with
        | tmp s' =>
          simp only at Bg
          split at Bg
          · rename_i e' ex' ey' h1 h2 h3
            simp only [Option.some.injEq,Prod.mk.injEq] at Bg
            obtain ⟨rfl,rfl,rfl,rfl⟩:=Bg
            have hc:=nd (Be hs.yU Ga hp _ _ h1)
            refine kJ (x:=.bool (bif e' then ex' else ey')) hs hd ?_ (MY hp (gG rfl)) rfl rfl rfl
            simp only [execOp,Im,hc,asBool,Sem.run_bind,Sem.run_pure,Result.andThen_ok]
            cases e' with
            | true =>
              have hpx:rH ν ((s',true) :: p):=fun y hy=>by
                rcases List.mem_cons.1 hy with rfl | hy
                · exact X9
                · exact hp y hy
              have hx:=nd (Be hs.yU Ga hpx _ _ h2)
              simp [hx]
            | false =>
              have hpy:rH ν ((s',false) :: p):=fun y hy=>by
                rcases List.mem_cons.1 hy with rfl | hy
                · exact X9
                · exact hp y hy
              have hx:=nd (Be hs.yU Ga hpy _ _ h3)
              simp [hx]
          · cases Bg
        | const=>cases Bg
        | global=>cases Bg
        | func=>cases Bg
      · rename_i hw
        obtain ⟨rA,hnp⟩:=p0 (by simpa using hw)
        refine ⟨S,μ,?_⟩
        have hr:Rel w S μ ν (Bd p (.d (.v (.bool (bif e then ex else ey))))) undef:=by
          cases p with
          | nil=>exact absurd rfl rA
          | cons y r=>exact .g (fun hh=>absurd hh hnp) (fun _=>rfl)
        have h5:=hs.put (dst:=o.dst) hd hr
        have e0:(Tr.mk (og st.sl (ss++slotsOf [c,x,y])) o.dst (Bd p (.d (.v (.bool (bif e then ex else ey))))) [] [] [] (KT ZE (s :: p.map (·.1)))).apply A=A.wL o.dst (Bd p (.d (.v (.bool (bif e then ex else ey))))):=by
          unfold Tr.apply M.wL M.put
          cases hdd:o.dst with
          | none=>simp [look]
          | some d =>
            simp only [look,List.map_nil,List.not_mem_nil,if_false,Option.some.injEq]
            congr 1
            funext t
            by_cases cc:d=t
            · simp [cc]
            · have:¬ t=d:=fun e=>cc e.symm
              simp [cc,this]
        rw [e0]
        exact h5
    · cases h
  · rename_i op0 hnp
    split at h
    · rename_i r Ix Yb
      simp only [Option.some.injEq,Prod.mk.injEq] at h
      obtain ⟨rfl,rfl,rfl,rfl⟩:=h
      obtain ⟨xp,yY⟩:=Ob.cG cb
      obtain ⟨T4,Ya⟩:=path xp hν
      have T5:(∀ p,p∈r.ro→look st.lb p.1=some p.2)∧(∀ p,p∈r.mem→look st.lb p.1=some p.2)∧(p≠[]→r.mem=[]∧r.fk=[]):=by
        obtain ⟨q1,q2,q3⟩:=Pq Yb
        exact ⟨q1,q2,fun rA=>q3 (by cases p with | nil=>exact absurd rfl rA | cons _ _=>rfl)⟩
      refine ⟨?_,fun q hq=>hν _ _ (Bf hq),enN _ _ rfl T5.1 T5.2.1,T4⟩
      intro A a w S μ hs Tk ui _
      have hA:∀ t,t∈ss++slotsOf o.op.operands.toList→A.sl t=St.get st.sl t:=fun t ht=>Tk.need (t,St.get st.sl t) (CG ht)
      obtain ⟨p1,p0⟩:=Ya A a w S μ hs (fun s' xa=>hA s' (List.mem_append.2 (.inl xa)))
      have Ga:∀ q,q∈og st.sl (ss++slotsOf o.op.operands.toList)→Rel w S μ ν q.2 (a.tmps.getD q.1 undef):=fun q hq=>by
        have:=hs.eF q.1
        rw [Tk.need q hq] at this
        exact this
      split
      · rename_i hw
        have hp:=p1 hw
        have abZ:r.ob.den:=xo yY (fun s e _ hl=>hν s e hl) hp
        have:=Pl hT hs (fun x y hxy=>Be hs.yU Ga hp x y hxy) hd Yb Tk.ro Tk.mem abZ (fun κ hκ=>ui κ hκ) (og st.sl (ss++slotsOf o.op.operands.toList)) (KT T1 (p.map (·.1)))
        refine Oper.wp_mono (fun a' w' hh=>?_) this
        obtain ⟨S',μ',eX⟩:=hh
        exact ⟨S',μ',eX.rename rfl rfl rfl (fun x hx=>MY hp hx)⟩
      · rename_i hw
        obtain ⟨rA,ab0⟩:=p0 (by simpa using hw)
        obtain ⟨hm1,hm2⟩:=T5.2.2 rA
        refine ⟨S,μ,?_⟩
        have hr:Rel w S μ ν (Bd p r.v) undef:=by
          cases p with
          | nil=>exact absurd rfl rA
          | cons y r=>exact .g (fun hh=>absurd hh ab0) (fun _=>rfl)
        have h5:=hs.put (dst:=o.dst) hd hr
        have e0:(Tr.mk (og st.sl (ss++slotsOf o.op.operands.toList)) o.dst (Bd p r.v) r.ro r.mem r.fk (KT T1 (p.map (·.1)))).apply A=A.wL o.dst (Bd p r.v):=by
          unfold Tr.apply M.wL M.put
          simp only [hm1,hm2]
          cases hdd:o.dst with
          | none=>simp [look]
          | some d =>
            simp only [look,List.map_nil,List.not_mem_nil,if_false,Option.some.injEq]
            congr 1
            funext t
            by_cases cc:d=t
            · simp [cc]
            · have:¬ t=d:=fun e=>cc e.symm
              simp [cc,this]
        rw [e0]
        exact h5
    · cases h

end

end Go.Av
