/- Calls by contract. -/
import Derived.Test.YtaeekeogpbbkcaaGreatDoorLa
import Derived.Lib.ConvBytes
set_option linter.unusedSimpArgs false
set_option linter.unusedVariables false
set_option linter.unusedSectionVars false
namespace Go.Av
open Go
variable [Ea]
def gF (P:Program) (f:FuncId):Bool :=
 match P.funcs[f]? with
 | some fn=>fn.name != "runtime.NumGoroutine"&&fn.body.isSome
 | none=>false
def Handed (dz:List (Nat × bQ)) (μ:Mu) (g:Nat):Prop:=∃ κ b c,look dz κ=some b∧μ κ=some (some (g,c))
def X3 (dz:List (Nat × bQ)) (μ:Mu):Prop:=∀ κ κ' b b' g c c',look dz κ=some b→look dz κ'=some b'→μ κ=some (some (g,c))→μ κ'=some (some (g,c'))→κ=κ'
structure Tj (w:World) (S:Nat→Prop) (T:Nat→Prop) (res:AV) (dz:List (Nat × bQ)) (v:Value) (S':Nat→Prop) (μ':Mu) (w':World):Prop where
 res:∀ ν,Rel w' S' μ' ν res v
 mem:∀ κ b,look dz κ=some b→iM w' S' μ' b (μ' κ)
 inj:X3 dz μ'
 own:∀ κ b g c,look dz κ=some b→μ' κ=some (some (g,c))→w.heap.size≤g∨T g
 sub:∀ b,S b→S' b
 new:∀ b,S' b→S b∨w.heap.size≤b∨T b
 bound:∀ b,S' b→b < w'.heap.size
 kept:Kept w w' T
theorem Tj.aaA {w w':World} {S T T' S':Nat→Prop} {res:AV} {dz:List (Nat × bQ)} {v:Value} {μ':Mu} (h:Tj w S T res dz v S' μ' w') (hT:∀ b,T b→T' b):Tj w S T' res dz v S' μ' w' :=
 ⟨h.res,h.mem,h.inj,fun κ b g c h1 h2=>(h.own κ b g c h1 h2).imp id (hT g),h.sub,fun b hb=>(h.new b hb).imp id (Or.imp id (hT b)),h.bound,h.kept.BF hT⟩
def jl (P:Program) (f:FuncId) (args:List AV) (dz:List (Nat × bQ)) (res:AV) (ij:List (Nat × bQ)):Prop :=
 gF P f=true∧∀ (w:World) (S:Nat→Prop) (μ:Mu) (vs:Array Value),(∀ b,S b→b < w.heap.size)→jU w S→(∀ ν,dV w S μ ν args vs.toList)→(∀ κ b,look dz κ=some b→iM w S μ b (μ κ))→X3 dz μ →
  Calls P f vs w fun e w'=>∃ v S' μ',e=.returned v∧Tj w S (Handed dz μ) res ij v S' μ' w'
theorem FB {P:Program} {w:World} {f:FuncId} (h:gF P f=true) (args:Array Value):(callFunc f args).run P w=.ok (.enter f args) w:=by
 unfold gF at h
 cases hf:P.funcs[f]? with
 | none=>rw [hf] at h; cases h
 | some fn =>
  rw [hf] at h
  simp only [Bool.and_eq_true,bne_iff_ne,ne_eq] at h
  have h2:¬ fn.body=none:=by cases hb:fn.body <;> simp_all
  simp [callFunc,hf,h.1,h2]
section
variable {C : Cx} {A : M} {a : Act} {w : World} {S : Nat → Prop} {μ : Mu} {ν : Nat → Bool}
def flat:D→Bool
 | .v _=>true
 | .agg cs=>PB cs
 | .sl _ _=>false
where PB:List D→Bool
 | []=>true
 | .v _ :: r=>PB r
 | _ :: _=>false
theorem KT:∀ (l:List D) (i:Nat),flat.PB l=true→i < l.length→∃ x,l.getD i default=.v x
 | [],i,_,hi=>absurd hi (by simp)
 | .v x :: r,0,_,_=>⟨x,rfl⟩
 | .v x :: r,i+1,h,hi=>by simpa using KT r i (by simpa [flat.PB] using h) (by simpa using hi)
 | .agg _ :: r,_,h,_=>by simp [flat.PB] at h
 | .sl _ _ :: r,_,h,_=>by simp [flat.PB] at h
theorem X4 {d:D} (h:flat d=true) {w':World} {S':Nat→Prop} {x:Value} (hr:Rd w S d x):Rd w' S' d x:=by
 cases hr with
 | v _ hs=>exact .v _ hs
 | agg cs vs hl hh =>
  refine .agg cs vs hl (fun i hi=>?_)
  obtain ⟨y,hy⟩:=KT cs i (by simpa [flat] using h) hi
  have:=hh i hi
  rw [hy] at this ⊢
  cases this with
  | v _ hs=>exact .v _ hs
 | nil=>simp [flat] at h
 | sl=>simp [flat] at h
def fV:AV→Bool
 | .d x=>flat x
 | .fb l=>mL l
 | _=>false
where mL:List AV→Bool
 | []=>true
 | .d x :: r=>flat x&&mL r
 | _ :: _=>false
theorem IE:∀ (l:List AV) (i:Nat),fV.mL l=true→i < l.length→∃ x,l.getD i default=.d x∧flat x=true
 | [],i,_,hi=>absurd hi (by simp)
 | .d x :: r,0,h,_=>⟨x,rfl,by simp only [fV.mL,Bool.and_eq_true] at h; exact h.1⟩
 | .d x :: r,i+1,h,hi=>by
  simp only [fV.mL,Bool.and_eq_true] at h
  simpa using IE r i h.2 (by simpa using hi)
 | .any :: r,_,h,_=>by simp [fV.mL] at h
 | .own _ _ :: r,_,h,_=>by simp [fV.mL] at h
 | .ptr _ _ :: r,_,h,_=>by simp [fV.mL] at h
 | .zI _ _ _ _ :: r,_,h,_=>by simp [fV.mL] at h
 | .ref _ :: r,_,h,_=>by simp [fV.mL] at h
 | .A8 _ _ :: r,_,h,_=>by simp [fV.mL] at h
 | .yC _ :: r,_,h,_=>by simp [fV.mL] at h
 | .C8 _ _ :: r,_,h,_=>by simp [fV.mL] at h
 | .fn _ _ :: r,_,h,_=>by simp [fV.mL] at h
 | .fb _ :: r,_,h,_=>by simp [fV.mL] at h
 | .ag _ :: r,_,h,_=>by simp [fV.mL] at h
 | .g _ _ :: r,_,h,_=>by simp [fV.mL] at h
theorem PC {x:AV} (h:fV x=true) {w':World} {S':Nat→Prop} {μ':Mu} {ν':Nat→Bool} {v:Value} (hr:Rel w S μ ν x v):Rel w' S' μ' ν' x v:=by
 cases hr with
 | d hd=>exact .d (X4 (by simpa [fV] using h) hd)
 | fb hl hh =>
  refine .fb hl (fun i hi=>?_)
  obtain ⟨y,hy,hf⟩:=IE _ i (by simpa [fV] using h) hi
  have:=hh i hi
  rw [hy] at this ⊢
  exact .d (X4 hf (jd.1 this))
 | any=>simp [fV] at h
 | eI=>simp [fV] at h
 | own=>simp [fV] at h
 | ptr=>simp [fV] at h
 | zI=>simp [fV] at h
 | ref=>simp [fV] at h
 | A8=>simp [fV] at h
 | yC=>simp [fV] at h
 | C8=>simp [fV] at h
 | fn=>simp [fV] at h
 | ag=>simp [fV] at h
 | g=>simp [fV] at h
abbrev BR (α:Type):=Option (α × List (Nat × bQ) × Ob)
def QI (lb:List (Nat × bQ)):AV→BR D
 | .d x=>some (x,[],.tt)
 | .A8 n f=>some (.sl n f,[],.tt)
 | .own κ n=>(match look lb κ with | some (.row e k m f)=>some (.sl n f,[(κ,.row e k m f)],.ne n m) | _=>none)
 | _=>none
def Ec (lb:List (Nat × bQ)):List AV→BR (List D)
 | []=>some ([],[],.tt)
 | x :: r=>(match QI lb x,Ec lb r with | some (y,ro,ob),some (l,PA,Fl)=>some (y :: l,ro++PA,ob.and Fl) | _,_=>none)
def BP (lb:List (Nat × bQ)):AV→BR AV
 | .ref cs=>some (.ref cs,[],.tt)
 | .ptr κ off=>(match look lb κ with
  | some (.box cs)=>(match Ec lb cs with | some (ds,ro,ob)=>some (.ref (ds.drop off),(κ,.box cs) :: ro,ob) | none=>none)
  | _=>none)
 | .ag l=>(match Ec lb l with | some (ds,ro,ob)=>some (.d (.agg ds),ro,ob) | none=>none)
 | .yC κ=>(match look lb κ with | some (.mp n f)=>some (.C8 n f,[(κ,.mp n f)],.tt) | some (.mx _)=>some (.any,[],.tt) | _=>none)
 | .C8 n f=>some (.C8 n f,[],.tt)
 | x=>(match QI lb x with | some (y,ro,ob)=>some (.d y,ro,ob) | none=>none)
def zS (lb:List (Nat × bQ)):List AV→BR (List AV)
 | []=>some ([],[],.tt)
 | x :: r=>(match BP lb x,zS lb r with | some (y,ro,ob),some (l,PA,Fl)=>some (y :: l,ro++PA,ob.and Fl) | _,_=>none)
def Bv (lb:List (Nat × bQ)):AV→BR AV
 | .fn f cS=>(match zS lb cS with | some (l,ro,ob)=>some (.fn f l,ro,ob) | none=>none)
 | x=>BP lb x
def yK (lb:List (Nat × bQ)):List AV→BR (List AV)
 | []=>some ([],[],.tt)
 | x :: r=>(match Bv lb x,yK lb r with | some (y,ro,ob),some (l,PA,Fl)=>some (y :: l,ro++PA,ob.and Fl) | _,_=>none)
theorem X5 (hs:dA C A a w S μ ν) {S':Nat→Prop} (hS:∀ b,S b→S' b) (hO:∀ κ b g c,A.lb κ=some b→μ κ=some (some (g,c))→S' g) {lb:List (Nat × bQ)} {x:AV} {y:D} {ro:List (Nat × bQ)} {ob:Ob} (h:QI lb x=some (y,ro,ob)) (nr:∀ p,p∈ro→A.lb p.1=some p.2) (cm:ob.den) {v:Value} (hr:Rel w S μ ν x v):Rd w S' y v:=by
 unfold QI at h
 split at h
 ·simp only [Option.some.injEq,Prod.mk.injEq] at h
  obtain ⟨rfl,-,-⟩:=h
  exact (jd.1 hr).mono hS (fun _ _=>rfl)
 ·simp only [Option.some.injEq,Prod.mk.injEq] at h
  obtain ⟨rfl,-,-⟩:=h
  cases hr with
  | A8 hd=>exact hd.mono hS (fun _ _=>rfl)
 ·rename_i κ n
  split at h
  ·rename_i e k m f hl
   simp only [Option.some.injEq,Prod.mk.injEq] at h
   obtain ⟨rfl,rfl,rfl⟩:=h
   simp only [Ob.den] at cm
   have hm:=hs.mem κ _ (nr (κ,.row e k m f) (by simp))
   cases hr with
   | @eI _ ad =>
    cases ad with
    | none=>exact .nil f
    | some ad=>exact .sl 0 f ad 0 0 (fun _ _=>undef) (Nat.le_refl _) (by simp [maxLen]) (.inl rfl) (fun i hi=>absurd hi (by omega)) (fun i j hi=>absurd hi (by omega)) (fun i j hi=>absurd hi (by omega))
   | @own _ _ g cap hμ =>
    rw [hμ] at hm
    have gJ:=hO κ _ g cap (nr (κ,.row e k m f) (by simp)) hμ
    obtain ⟨cur,hg,_,jT,hn,hc,qm⟩:=hm.at
    refine .sl n f ⟨g,0,none⟩ cap k (fun i j=>(cur[i * k+j]?).getD undef) (by omega) hc (.inr rfl) (fun i hi=>(qm i (by omega)).1) (fun i j hi hj=>⟨gJ,?_⟩) (fun i j hi hj=>?_)
    ·obtain ⟨u,hu,_⟩:=(qm i (by omega)).2 j hj
     rw [Nat.zero_add,g8 w g _ cur e _ hg,hu]
     rfl
    ·obtain ⟨u,hu,V8⟩:=(qm i (by omega)).2 j hj
     rw [hu]
     exact V8.mono hS (fun _ _=>rfl)
  ·cases h
 ·cases h
theorem KU (hs:dA C A a w S μ ν) {S':Nat→Prop} (hS:∀ b,S b→S' b) (hO:∀ κ b g c,A.lb κ=some b→μ κ=some (some (g,c))→S' g) {lb:List (Nat × bQ)}:∀ {xs:List AV} {ys:List D} {ro:List (Nat × bQ)} {ob:Ob},Ec lb xs=some (ys,ro,ob)→(∀ p,p∈ro→A.lb p.1=some p.2)→ob.den→∀ {vs:List Value},dV w S μ ν xs vs →
  ys.length=xs.length∧∀ i,i < ys.length→Rd w S' (ys.getD i default) (vs.getD i undef)
 | [],ys,ro,ob,h,_,_,vs,_=>by
  simp only [Ec,Option.some.injEq,Prod.mk.injEq] at h
  obtain ⟨rfl,-,-⟩:=h
  exact ⟨rfl,fun i hi=>absurd hi (by simp)⟩
 | x :: r,ys,ro,ob,h,nr,cm,vs,hr=>by
  simp only [Ec] at h
  cases h1:QI lb x with
  | none=>rw [h1] at h; cases h
  | some p =>
   obtain ⟨y,ro1,DJ⟩:=p
   cases h2:Ec lb r with
   | none=>rw [h1,h2] at h; cases h
   | some q =>
    obtain ⟨l,ro2,Jj⟩:=q
    rw [h1,h2] at h
    simp only [Option.some.injEq,Prod.mk.injEq] at h
    obtain ⟨rfl,rfl,rfl⟩:=h
    have hr0:=hr.2 0 (by simp)
    match vs,hr with
    | [],hr=>have:=hr.1; simp at this
    | v :: vs,hr =>
     have ht:dV w S μ ν r vs:=⟨by simpa using hr.1,fun i hi=>by simpa using hr.2 (i+1) (by simpa using hi)⟩
     obtain ⟨i1,i2⟩:=KU hs hS hO h2 (fun p hp=>nr p (List.mem_append.2 (.inr hp))) (Ob.db cm).2 ht
     refine ⟨by simp [i1],fun i hi=>?_⟩
     cases i with
     | zero=>simpa using X5 hs hS hO h1 (fun p hp=>nr p (List.mem_append.2 (.inl hp))) (Ob.db cm).1 (by simpa using hr.2 0 (by simp))
     | succ i=>simpa using i2 i (by simpa using hi)
theorem iH (hs:dA C A a w S μ ν) {S':Nat→Prop} (hS:∀ b,S b→S' b) (hO:∀ κ b g c,A.lb κ=some b→μ κ=some (some (g,c))→S' g) {lb:List (Nat × bQ)} {x y:AV} {ro:List (Nat × bQ)} {ob:Ob} (h:BP lb x=some (y,ro,ob)) (nr:∀ p,p∈ro→A.lb p.1=some p.2) (cm:ob.den) {v:Value} (hr:Rel w S μ ν x v) (μ':Mu) (ν':Nat→Bool):Rel w S' μ' ν' y v:=by
 have other:(match QI lb x with | some (y,ro,ob)=>some (AV.d y,ro,ob) | none=>none)=some (y,ro,ob)→Rel w S' μ' ν' y v:=fun h=>by
  cases h1:QI lb x with
  | none=>rw [h1] at h; cases h
  | some p =>
   obtain ⟨y',ro1,DJ⟩:=p
   rw [h1] at h
   simp only [Option.some.injEq,Prod.mk.injEq] at h
   obtain ⟨rfl,rfl,rfl⟩:=h
   exact .d (X5 hs hS hO h1 nr cm hr)
 cases x with
 | ref cs =>
  simp only [BP,Option.some.injEq,Prod.mk.injEq] at h
  obtain ⟨rfl,-,-⟩:=h
  cases hr with
  | ref gu ck h=>exact .ref gu (fun j hj=>⟨hS _ (ck j hj).1,(ck j hj).2⟩) (fun j hj=>(h j hj).mono hS (fun _ _=>rfl))
 | ptr κ off =>
  simp only [BP] at h
  split at h
  ·rename_i cs hl
   split at h
   ·rename_i ds PA Fl hb
    simp only [Option.some.injEq,Prod.mk.injEq] at h
    obtain ⟨rfl,rfl,rfl⟩:=h
    cases hr with
    | @ptr _ _ g cap hμ =>
     have hm:=hs.mem κ _ (nr (κ,.box cs) (by simp))
     rw [hμ] at hm
     have gJ:=hO κ _ g cap (nr (κ,.box cs) (by simp)) hμ
     obtain ⟨cur,e,hg,_,jT,qm⟩:=hm.at
     have hrl:dV w S μ ν cs cur.toList:=⟨by simpa using jT,fun i hi=>by
      obtain ⟨u,hu,V8⟩:=qm i hi
      rw [show cur.toList.getD i undef=u from by simp [List.getD,hu]]
      exact V8 ν⟩
     obtain ⟨i1,i2⟩:=KU hs hS hO hb (fun p hp=>nr p (List.mem_cons_of_mem _ hp)) cm hrl
     refine .ref (fun j=>cur.toList.getD (off+j) undef) (fun j hj=>⟨gJ,?_⟩) (fun j hj=>?_)
     ·simp only [List.length_drop] at hj
      rw [g8 w g _ cur e _ hg]
      have:off+j < cur.size:=by omega
      simp [List.getD,this]
     ·simp only [List.length_drop] at hj
      rw [show (ds.drop off).getD j default=ds.getD (off+j) default from by simp [List.getD]]
      exact i2 (off+j) (by omega)
   ·cases h
  ·cases h
 | ag l =>
  simp only [BP] at h
  split at h
  ·rename_i ds PA Fl hb
   simp only [Option.some.injEq,Prod.mk.injEq] at h
   obtain ⟨rfl,rfl,rfl⟩:=h
   cases hr with
   | @ag _ vs hl hh =>
    obtain ⟨i1,i2⟩:=KU hs hS hO hb nr cm (vs:=vs.toList) ⟨by rw [Array.length_toList]; exact hl,fun i hi=>by rw [← dm]; exact hh i hi⟩
    exact .d (.agg ds vs (by omega) (fun i hi=>by rw [dm]; exact i2 i hi))
  ·cases h
 | any=>exact other h
 | d=>exact other h
 | own=>exact other h
 | zI=>exact other h
 | A8=>exact other h
 | C8 n f =>
  simp only [BP,Option.some.injEq,Prod.mk.injEq] at h
  obtain ⟨rfl,-,-⟩:=h
  cases hr with
  | C8 h=>exact .C8 (h.mono hS (fun _ _=>rfl))
 | yC κ =>
  simp only [BP] at h
  split at h
  ·rename_i n f hl
   simp only [Option.some.injEq,Prod.mk.injEq] at h
   obtain ⟨rfl,rfl,rfl⟩:=h
   have hκ:=nr (κ,.mp n f) (by simp)
   cases hr with
   | @yC _ g cap hμ =>
    have hm:=hs.mem κ _ hκ
    rw [hμ] at hm
    obtain ⟨cur,h1,_,h2,h3⟩:=hm.at
    refine .C8 ⟨hO κ _ g cap hκ hμ,cur,h1,h2,fun i hi=>?_⟩
    obtain ⟨e,q1,q2,q3,q4,q5⟩:=h3 i hi
    exact ⟨e,q1,q2,q3,q4,q5.mono hS (fun _ _=>rfl)⟩
  ·simp only [Option.some.injEq,Prod.mk.injEq] at h
   obtain ⟨rfl,-,-⟩:=h
   exact .any _
  ·cases h
 | fn=>exact other h
 | fb=>exact other h
 | g=>exact other h
theorem KV (hs:dA C A a w S μ ν) {S':Nat→Prop} (hS:∀ b,S b→S' b) (hO:∀ κ b g c,A.lb κ=some b→μ κ=some (some (g,c))→S' g) {lb:List (Nat × bQ)} (μ':Mu) (ν':Nat→Bool):∀ {xs ys:List AV} {ro:List (Nat × bQ)} {ob:Ob},zS lb xs=some (ys,ro,ob)→(∀ p,p∈ro→A.lb p.1=some p.2)→ob.den→∀ {vs:List Value},dV w S μ ν xs vs →
  dV w S' μ' ν' ys vs
 | [],ys,ro,ob,h,_,_,vs,hr=>by
  simp only [zS,Option.some.injEq,Prod.mk.injEq] at h
  obtain ⟨rfl,-,-⟩:=h
  exact ⟨hr.1,fun i hi=>absurd hi (by simp)⟩
 | x :: r,ys,ro,ob,h,nr,cm,vs,hr=>by
  simp only [zS] at h
  cases h1:BP lb x with
  | none=>rw [h1] at h; cases h
  | some p =>
   obtain ⟨y,ro1,DJ⟩:=p
   cases h2:zS lb r with
   | none=>rw [h1,h2] at h; cases h
   | some q =>
    obtain ⟨l,ro2,Jj⟩:=q
    rw [h1,h2] at h
    simp only [Option.some.injEq,Prod.mk.injEq] at h
    obtain ⟨rfl,rfl,rfl⟩:=h
    match vs,hr with
    | [],hr=>have:=hr.1; simp at this
    | v :: vs,hr =>
     have ht:dV w S μ ν r vs:=⟨by simpa using hr.1,fun i hi=>by simpa using hr.2 (i+1) (by simpa using hi)⟩
     have ih:=KV hs hS hO μ' ν' h2 (fun p hp=>nr p (List.mem_append.2 (.inr hp))) (Ob.db cm).2 ht
     refine ⟨by simpa using ih.1,fun i hi=>?_⟩
     cases i with
     | zero=>simpa using iH hs hS hO h1 (fun p hp=>nr p (List.mem_append.2 (.inl hp))) (Ob.db cm).1 (by simpa using hr.2 0 (by simp)) μ' ν'
     | succ i=>simpa using ih.2 i (by simpa using hi)
theorem aaB (hs:dA C A a w S μ ν) {S':Nat→Prop} (hS:∀ b,S b→S' b) (hO:∀ κ b g c,A.lb κ=some b→μ κ=some (some (g,c))→S' g) {lb:List (Nat × bQ)} {x y:AV} {ro:List (Nat × bQ)} {ob:Ob} (h:Bv lb x=some (y,ro,ob)) (nr:∀ p,p∈ro→A.lb p.1=some p.2) (cm:ob.den) {v:Value} (hr:Rel w S μ ν x v) (μ':Mu) (ν':Nat→Bool):Rel w S' μ' ν' y v:=by
 cases x with
 | fn f cS =>
  simp only [Bv] at h
  split at h
  ·rename_i l PA Fl hb
   simp only [Option.some.injEq,Prod.mk.injEq] at h
   obtain ⟨rfl,rfl,rfl⟩:=h
   cases hr with
   | @fn _ _ vs hl hh =>
    obtain ⟨i1,i2⟩:=KV hs hS hO μ' ν' hb nr cm (vs:=vs.toList) ⟨by simpa using hl,fun i hi=>by rw [← dm]; exact hh i hi⟩
    exact .fn (by simpa using i1) (fun i hi=>by rw [dm]; exact i2 i hi)
  ·cases h
 | any=>exact iH hs hS hO (lb:=lb) (by simpa only [Bv] using h) nr cm hr μ' ν'
 | d=>exact iH hs hS hO (lb:=lb) (by simpa only [Bv] using h) nr cm hr μ' ν'
 | own=>exact iH hs hS hO (lb:=lb) (by simpa only [Bv] using h) nr cm hr μ' ν'
 | ptr=>exact iH hs hS hO (lb:=lb) (by simpa only [Bv] using h) nr cm hr μ' ν'
 | zI=>exact iH hs hS hO (lb:=lb) (by simpa only [Bv] using h) nr cm hr μ' ν'
 | ref=>exact iH hs hS hO (lb:=lb) (by simpa only [Bv] using h) nr cm hr μ' ν'
 | A8=>exact iH hs hS hO (lb:=lb) (by simpa only [Bv] using h) nr cm hr μ' ν'
 | yC=>exact iH hs hS hO (lb:=lb) (by simpa only [Bv] using h) nr cm hr μ' ν'
 | C8=>exact iH hs hS hO (lb:=lb) (by simpa only [Bv] using h) nr cm hr μ' ν'
 | fb=>exact iH hs hS hO (lb:=lb) (by simpa only [Bv] using h) nr cm hr μ' ν'
 | ag=>exact iH hs hS hO (lb:=lb) (by simpa only [Bv] using h) nr cm hr μ' ν'
 | g=>exact iH hs hS hO (lb:=lb) (by simpa only [Bv] using h) nr cm hr μ' ν'
theorem Hg (hs:dA C A a w S μ ν) {S':Nat→Prop} (hS:∀ b,S b→S' b) (hO:∀ κ b g c,A.lb κ=some b→μ κ=some (some (g,c))→S' g) {lb:List (Nat × bQ)} (μ':Mu) (ν':Nat→Bool):∀ {xs ys:List AV} {ro:List (Nat × bQ)} {ob:Ob},yK lb xs=some (ys,ro,ob)→(∀ p,p∈ro→A.lb p.1=some p.2)→ob.den→∀ {vs:List Value},dV w S μ ν xs vs →
  dV w S' μ' ν' ys vs
 | [],ys,ro,ob,h,_,_,vs,hr=>by
  simp only [yK,Option.some.injEq,Prod.mk.injEq] at h
  obtain ⟨rfl,-,-⟩:=h
  exact ⟨hr.1,fun i hi=>absurd hi (by simp)⟩
 | x :: r,ys,ro,ob,h,nr,cm,vs,hr=>by
  simp only [yK] at h
  cases h1:Bv lb x with
  | none=>rw [h1] at h; cases h
  | some p =>
   obtain ⟨y,ro1,DJ⟩:=p
   cases h2:yK lb r with
   | none=>rw [h1,h2] at h; cases h
   | some q =>
    obtain ⟨l,ro2,Jj⟩:=q
    rw [h1,h2] at h
    simp only [Option.some.injEq,Prod.mk.injEq] at h
    obtain ⟨rfl,rfl,rfl⟩:=h
    match vs,hr with
    | [],hr=>have:=hr.1; simp at this
    | v :: vs,hr =>
     have ht:dV w S μ ν r vs:=⟨by simpa using hr.1,fun i hi=>by simpa using hr.2 (i+1) (by simpa using hi)⟩
     have ih:=Hg hs hS hO μ' ν' h2 (fun p hp=>nr p (List.mem_append.2 (.inr hp))) (Ob.db cm).2 ht
     refine ⟨by simpa using ih.1,fun i hi=>?_⟩
     cases i with
     | zero=>simpa using aaB hs hS hO h1 (fun p hp=>nr p (List.mem_append.2 (.inl hp))) (Ob.db cm).1 (by simpa using hr.2 0 (by simp)) μ' ν'
     | succ i=>simpa using ih.2 i (by simpa using hi)
theorem zT {P:Program} {o:Oper} {cf:Operand} {xs:Array Operand} {ts:Array TypeId} (ho:o.op=.call { callee:=.value cf,args:=xs,argTypes:=ts }) {f:FuncId} {De:Array Value} (Y8:a.eval cf=.func (.func f) #[] De) (hc:gF P f=true) :
  (execOp a.eval o).run P w=.ok (.enter f (xs.map a.eval++De)) w:=by
 simp only [execOp,ho,resolve,Y8,Deferred.ofValue,Sem.run_bind,Sem.run_pure,Result.andThen_ok,invoke,Array.empty_append]
 exact FB hc _
theorem KW {o:Oper} {cf:Operand} {xs:Array Operand} {ts:Array TypeId} {f:FuncId} {args cS IG:List AV} {res:AV} {ro:List (Nat × bQ)} {ob:Ob} {lb:List (Nat × bQ)} {τ:Tr}
  (hs:dA C A a w S μ ν) (hd:∀ t,o.dst=some t→t < C.nt) (ho:o.op=.call { callee:=.value cf,args:=xs,argTypes:=ts }) (Y8:Rel w S μ ν (.fn f cS) (a.eval cf)) (mb:dV w S μ ν args (xs.toList.map a.eval))
  (hb:yK lb (args++cS)=some (IG,ro,ob)) (nr:∀ p,p∈ro→A.lb p.1=some p.2) (cm:ob.den) (Y9:jl C.P f IG [] res []) (hfl:fV res=true)
  (h0:τ.v=res) (h1:τ.dst=o.dst) (h2:τ.mem=[]) (h3:τ.fU=[]) :
  o.wp C.P a w (fun a' w'=>∃ S' μ',dA C (τ.apply A) a' w' S' μ' ν) (fun _ _ _=>False):=by
 generalize hcv:a.eval cf=cv at Y8
 cases Y8 with
 | @fn _ _ De hl hh =>
  unfold Oper.wp
  rw [zT ho hcv Y9.1]
  have pF:dV w S μ ν (args++cS) (xs.map a.eval++De).toList:=by
   rw [Array.toList_append,Array.toList_map]
   exact mb.append ⟨by simpa using hl,fun i hi=>by rw [← dm]; exact hh i hi⟩
  refine (Y9.2 w (fun b=>b < w.heap.size) (fun _=>none) (xs.map a.eval++De) (fun b hb=>hb) (hs.BG.mono hs.bound (fun _ _=>rfl)) (fun ν'=>Hg hs hs.bound (fun κ b g c h1 h2=>by have:=hs.mem κ b h1; rw [h2] at this; exact this.at.lt) _ ν' hb nr cm pF) (fun κ b hk=>by simp [look] at hk) (fun κ κ' b b' g c c' hk=>by simp [look] at hk)).mono ?_
  rintro e w' ⟨v,S',μ',rfl,B⟩
  have hk:Kept w w' (fun _=>False):=⟨B.kept.os,B.kept.tape,B.kept.output,B.kept.size,fun b hb _=>B.kept.block b hb (fun ⟨κ,b',c,hx,_⟩=>by simp [look] at hx)⟩
  have h4:=hs.world (S':=S) (fun _ x=>x) (fun _ x=>.inl x) hk
  have h5:=h4.put (dst:=o.dst) (x:=res) (v:=v) hd (PC hfl (B.res ν))
  refine ⟨S,μ,?_⟩
  have e:τ.apply A=A.yE o.dst res:=by
   unfold Tr.apply M.yE M.put
   rw [h0,h1,h2,h3]
   cases ho:o.dst with
   | none=>simp [look]
   | some d =>
    simp only [look,List.map_nil,List.not_mem_nil,if_false,Option.some.injEq]
    congr 1
    funext t
    by_cases c:d=t
    ·simp [c]
    ·have:¬ t=d:=fun e=>c e.symm
     simp [c,this]
  rw [e]
  exact h5
end
section
variable {C : Cx} {A : M} {a : Act} {w : World} {S : Nat → Prop} {μ : Mu} {ν : Nat → Bool}
theorem AV.yL {k:Nat}:∀ (l:List AV) (i:Nat),i < l.length→k∈(l.getD i default).keys→k∈AV.uk l
 | [],i,hi,_=>absurd hi (by simp)
 | a :: r,0,_,h=>by simp only [AV.uk,List.mem_append]; exact .inl (by simpa using h)
 | a :: r,i+1,hi,h=>by simp only [AV.uk,List.mem_append]; exact .inr (AV.yL r i (by simpa using hi) (by simpa using h))
theorem Rel.agree {μ':Mu} {x:AV} {v:Value} (h:Rel w S μ ν x v) (hk:∀ k,k∈x.keys→μ' k=μ k):Rel w S μ' ν x v:=by
 induction h with
 | any x=>exact .any x
 | d h=>exact .d h
 | @eI key _ h=>exact .eI (by rw [hk key (by simp [AV.keys])]; exact h)
 | @own key _ _ _ h=>exact .own (by rw [hk key (by simp [AV.keys])]; exact h)
 | @ptr key _ _ _ h=>exact .ptr (by rw [hk key (by simp [AV.keys])]; exact h)
 | @zI key _ _ _ _ _ h=>exact .zI (by rw [hk key (by simp [AV.keys])]; exact h)
 | ref gu ck h=>exact .ref gu ck h
 | A8 h=>exact .A8 h
 | @yC key _ _ h=>exact .yC (by rw [hk key (by simp [AV.keys])]; exact h)
 | C8 h=>exact .C8 h
 | @fn _ cS _ hl _ ih=>exact .fn hl (fun i hi=>ih i hi (fun k gE=>hk k (by simp only [AV.keys]; exact AV.yL cS i hi gE)))
 | @fb l _ hl _ ih=>exact .fb hl (fun i hi=>ih i hi (fun k gE=>hk k (by simp only [AV.keys]; exact AV.yL l i hi gE)))
 | @ag l _ hl _ ih=>exact .ag hl (fun i hi=>ih i hi (fun k gE=>hk k (by simp only [AV.keys]; exact AV.yL l i hi gE)))
 | g _ h0 ih=>exact .g (fun hp=>ih hp (fun k gE=>hk k (by simpa [AV.keys] using gE))) h0
theorem eA.agree {μ':Mu} {b:bQ} {g cap:Nat} (h:eA w S μ b g cap) (hk:∀ k,k∈b.keys→μ' k=μ k):eA w S μ' b g cap:=by
 cases b with
 | box cs =>
  obtain ⟨cur,e,h1,h0,h2,h6⟩:=h
  refine ⟨cur,e,h1,h0,h2,fun j hj=>?_⟩
  obtain ⟨x,hx,hr⟩:=h6 j hj
  exact ⟨x,hx,fun ν=>(hr ν).agree (fun k gE=>hk k (AV.yL _ j hj gE))⟩
 | row e k n f=>exact h
 | mp n f=>exact h
 | it mk n seen =>
  obtain ⟨mg,c,h0,h1⟩:=h
  exact ⟨mg,c,by rw [hk mk (by simp [bQ.keys])]; exact h0,h1⟩
 | mx=>exact h
theorem iM.agree {μ':Mu} {b:bQ} {y:Option (Option (Nat × Nat))} (h:iM w S μ b y) (hk:∀ k,k∈b.keys→μ' k=μ k):iM w S μ' b y:=by
 cases y with
 | none=>cases b <;> exact h
 | some y =>
  cases y with
  | none=>cases b <;> exact h
  | some gc=>obtain ⟨g,c⟩:=gc; exact (h.at.agree hk).ok
theorem dV.nu {ν':Nat→Bool} {l:List AV} {vs:List Value} (h:dV w S μ ν l vs) (hn:wJ.oo l=true):dV w S μ ν' l vs:=⟨h.1,fun i hi=>(h.2 i hi).nu (rK l i hn hi)⟩
theorem Za {o:Oper} {cf:Operand} {xs:Array Operand} {ts:Array TypeId} {f:FuncId} {args cS:List AV} {res:AV} {dz ij:List (Nat × bQ)} {need:List (Nat × AV)} {ro:List (Nat × bQ)} {gs:List (Nat × Bool)}
  (hs:dA C A a w S μ ν) (hd:∀ t,o.dst=some t→t < C.nt) (ho:o.op=.call { callee:=.value cf,args:=xs,argTypes:=ts }) (Y8:Rel w S μ ν (.fn f cS) (a.eval cf)) (mb:dV w S μ ν args (xs.toList.map a.eval)) (hn:wJ.oo (args++cS)=true)
  (Y9:jl C.P f (args++cS) dz res ij) (VS:∀ p,p∈dz→A.lb p.1=some p.2) (yD:∀ k,k∈ij.map (·.1)→km A k) (Zb:∀ k,k∈res.keys→k∈ij.map (·.1)) (uE:∀ p,p∈ij→∀ k,k∈p.2.keys→k∈ij.map (·.1)) :
  o.wp C.P a w (fun a' w'=>∃ S' μ',dA C ((Tr.mk need o.dst res ro dz ij gs).apply A) a' w' S' μ' ν) (fun _ _ _=>False):=by
 generalize hcv:a.eval cf=cv at Y8
 cases Y8 with
 | @fn _ _ De hl hh =>
  unfold Oper.wp
  rw [zT ho hcv Y9.1]
  have pF:dV w S μ ν (args++cS) (xs.map a.eval++De).toList:=by
   rw [Array.toList_append,Array.toList_map]
   exact mb.append ⟨by simpa using hl,fun i hi=>by rw [← dm]; exact hh i hi⟩
  have zM:∀ κ b,look dz κ=some b→A.lb κ=some b:=fun κ b h=>VS (κ,b) (jt h)
  refine (Y9.2 w S μ (xs.map a.eval++De) hs.bound hs.BG (fun ν'=>pF.nu hn) (fun κ b hk=>hs.mem κ b (zM κ b hk)) (fun κ κ' b b' g c c' h1 h2 h3 h4=>hs.inj κ κ' b b' g c c' (zM _ _ h1) (zM _ _ h2) h3 h4)).mono ?_
  rintro e w' ⟨v,S',μ',rfl,B⟩
  have hT:∀ q,Handed dz μ q→C.w0.heap.size≤q∨C.T0 q:=fun q ⟨κ,b,c,h1,h2⟩=>hs.own κ b q c (zM κ b h1) h2
  have hTs:∀ q,Handed dz μ q→¬ S q:=fun q ⟨κ,b,c,h1,h2⟩=>by
   have:=hs.mem κ b (zM κ b h1)
   rw [h2] at this
   exact this.at.not
  have hw:∀ q,S q→w'.heap[q]? = w.heap[q]?:=fun q hq=>B.kept.block q (hs.bound q hq) (fun ht=>hTs q ht hq)
  let μ'':Mu:=fun k=>if k∈ij.map (·.1) then μ' k else μ k
  have ag:∀ k,k ∉ ij.map (·.1)→μ'' k=μ k:=fun k hk=>by simp only [μ'',hk,if_false]
  have ag':∀ k,k∈ij.map (·.1)→μ'' k=μ' k:=fun k hk=>by simp only [μ'',hk,if_true]
  have old:∀ x v,Rel w S μ ν x v→(∀ k,k∈ij.map (·.1)→k ∉ x.keys)→Rel w' S' μ'' ν x v:=fun x v hr hk =>
   (hr.mono B.sub hw (fun _ _ e=>e)).agree (fun k hkx=>ag k (fun gE=>hk k gE hkx))
  refine ⟨S',μ'',?_⟩
  have KX:∀ κ b,((Tr.mk need o.dst res ro dz ij gs).apply A).lb κ=some b→(look ij κ=some b∧κ∈ij.map (·.1))∨(κ ∉ ij.map (·.1)∧κ ∉ dz.map (·.1)∧A.lb κ=some b):=by
   intro κ b hb
   simp only [Tr.apply] at hb
   cases SM:look ij κ with
   | some b' =>
    rw [SM] at hb
    simp only [Option.some.injEq] at hb
    subst hb
    exact .inl ⟨rfl,rI SM⟩
   | none =>
    rw [SM] at hb
    simp only at hb
    have hnk:κ ∉ ij.map (·.1):=fun hk=>by
     obtain ⟨p,hp,e⟩:=List.mem_map.1 hk
     have:∀ (l:List (Nat × bQ)),p∈l→look l κ≠none:=by
      intro l
      induction l with
      | nil=>intro h; cases h
      | cons q r ih =>
       intro h hn
       obtain ⟨q1,q2⟩:=q
       simp only [look] at hn
       cases hq:Nat.beq q1 κ with
       | true=>rw [hq] at hn; cases hn
       | false =>
        rw [hq] at hn
        rcases List.mem_cons.1 h with h' | h'
        ·subst h'
         simp only at e
         rw [e,Nat.beq_refl] at hq
         cases hq
        ·exact ih h' (by simpa using hn)
     exact this ij hp SM
    split at hb
    ·cases hb
    ·rename_i hnm
     exact .inr ⟨hnk,hnm,hb⟩
  have hgT:∀ κ b g c,κ ∉ dz.map (·.1)→A.lb κ=some b→μ κ=some (some (g,c))→¬ Handed dz μ g∧g < w.heap.size∧¬ S g:=by
   intro κ b g c hnm hb hμ
   have hm:=hs.mem κ b hb
   rw [hμ] at hm
   refine ⟨fun ⟨κ2,b2,c2,h1,h2⟩=>?_,hm.at.lt,hm.at.not⟩
   have:=hs.inj κ κ2 b b2 g c c2 hb (zM _ _ h1) hμ h2
   rw [this] at hnm
   exact hnm (rI h1)
  refine ⟨?_,?_,fun t=>?_,fun κ b hb=>?_,fun κ1 κ2 b1 b2 g c c' h1 h2 h3 h4=>?_,fun κ b g c hb hμ=>?_,fun b hb=>B.sub b (hs.fA b hb),fun b hb=>?_,B.bound,?_⟩
  ·simp only [Act.put]; split <;> simp [hs.tmps]
  ·simp only [Act.put]; split <;> exact hs.defers
  ·simp only [Tr.apply]
   by_cases c:o.dst=some t
   ·simp only [c,if_true,Act.put]
    rw [iy _ _ _ (by rw [hs.tmps]; exact hd t c)]
    exact (B.res ν).agree (fun k hk=>ag' k (Zb k hk))
   ·simp only [c,if_false]
    have e:(a.put o.dst v).tmps.getD t undef=a.tmps.getD t undef:=by
     cases eF:o.dst with
     | none=>rfl
     | some d =>
      simp only [Act.put]
      exact dt _ _ _ _ (fun e=>c (by rw [eF,e]))
    rw [e]
    exact old _ _ (hs.eJ t) (fun k hk=>(yD k hk).sl t)
  ·rcases KX κ b hb with ⟨h1,h2⟩ | ⟨h1,h2,h3⟩
   ·rw [ag' κ h2]
    exact (B.mem κ b h1).agree (fun k hk=>ag' k (uE (κ,b) (jt h1) k hk))
   ·rw [ag κ h1]
    have hm:=hs.mem κ b h3
    refine (hm.mono B.sub hw (fun _ _ e=>e) (fun g c e=>?_)).agree (fun k hk=>ag k (fun gE=>(yD k gE).bl κ b h3 hk))
    obtain ⟨q1,q2,q3⟩:=hgT κ b g c h2 h3 e
    refine ⟨B.kept.block g q2 q1,fun BI=>?_⟩
    rcases B.new g BI with h | h | h
    ·exact q3 h
    ·omega
    ·exact q1 h
  ·rcases KX κ1 b1 h1 with ⟨x1,x2⟩ | ⟨x1,x2,x3⟩
   ·rw [ag' κ1 x2] at h3
    rcases KX κ2 b2 h2 with ⟨y1,y2⟩ | ⟨y1,y2,y3⟩
    ·rw [ag' κ2 y2] at h4
     exact B.inj κ1 κ2 b1 b2 g c c' x1 y1 h3 h4
    ·rw [ag κ2 y1] at h4
     obtain ⟨q1,q2,q3⟩:=hgT κ2 b2 g c' y2 y3 h4
     rcases B.own κ1 b1 g c x1 h3 with h | h
     ·omega
     ·exact absurd h q1
   ·rw [ag κ1 x1] at h3
    obtain ⟨q1,q2,q3⟩:=hgT κ1 b1 g c x2 x3 h3
    rcases KX κ2 b2 h2 with ⟨y1,y2⟩ | ⟨y1,y2,y3⟩
    ·rw [ag' κ2 y2] at h4
     rcases B.own κ2 b2 g c' y1 h4 with h | h
     ·omega
     ·exact absurd h q1
    ·rw [ag κ2 y1] at h4
     exact hs.inj κ1 κ2 b1 b2 g c c' x3 y3 h3 h4
  ·rcases KX κ b hb with ⟨h1,h2⟩ | ⟨h1,h2,h3⟩
   ·rw [ag' κ h2] at hμ
    rcases B.own κ b g c h1 hμ with h | h
    ·exact .inl (Nat.le_trans hs.kept.size h)
    ·exact hT g h
   ·rw [ag κ h1] at hμ
    exact hs.own κ b g c h3 hμ
  ·rcases B.new b hb with h | h | h
   ·exact hs.fresh b h
   ·exact .inr (.inl (Nat.le_trans hs.kept.size h))
   ·rcases hT b h with h' | h'
    ·exact .inr (.inl h')
    ·exact .inr (.inr h')
  ·refine hs.kept.trans B.kept (fun b hb h=>?_)
   rcases hT b h with h' | h'
   ·omega
   ·exact h'
def FnB (P:Program) (f:FuncId) (args:List AV) (dz:List (Nat × bQ)) (res:AV) (ij:List (Nat × bQ)) (nw:List (Nat × Nat)):Prop :=
 gF P f=true∧∀ (w:World) (S:Nat→Prop) (μ:Mu) (vs:Array Value),(∀ b,S b→b < w.heap.size)→jU w S→(∀ ν,dV w S μ ν args vs.toList)→(∀ κ b,look dz κ=some b→iM w S μ b (μ κ))→X3 dz μ →
  Calls P f vs w fun e w'=>∃ v S' μ',e=.returned v∧Tj w S (Handed dz μ) res ij v S' μ' w'∧∀ p,p∈nw→∀ ν,Rel w' S' μ' ν (.ptr p.2 0) (vs.toList.getD p.1 undef)
theorem QJ {nw:List (Nat × Nat)} {o:Oper} {cf:Operand} {xs:Array Operand} {ts:Array TypeId} {f:FuncId} {args cS:List AV} {res:AV} {dz ij:List (Nat × bQ)} {need:List (Nat × AV)} {ro:List (Nat × bQ)} {gs:List (Nat × Bool)}
  (hs:dA C A a w S μ ν) (hd:∀ t,o.dst=some t→t < C.nt) (ho:o.op=.call { callee:=.value cf,args:=xs,argTypes:=ts }) (Y8:Rel w S μ ν (.fn f cS) (a.eval cf)) (mb:dV w S μ ν args (xs.toList.map a.eval)) (hn:wJ.oo (args++cS)=true)
  (Y9:FnB C.P f (args++cS) dz res ij nw) (ahH:∀ p,p∈nw→p.1 < (args++cS).length∧(args++cS).getD p.1 default=.ptr p.2 0∧(∃ cs,look dz p.2=some (.box cs))∧∃ cs,look ij p.2=some (.box cs)) (VS:∀ p,p∈dz→A.lb p.1=some p.2) (yD:∀ k,k∈ij.map (·.1)→k ∉ nw.map (·.2)→km A k) (Zb:∀ k,k∈res.keys→k∈ij.map (·.1)∧k ∉ nw.map (·.2)) (uE:∀ p,p∈ij→∀ k,k∈p.2.keys→k∈ij.map (·.1)∧k ∉ nw.map (·.2)) :
  o.wp C.P a w (fun a' w'=>∃ S' μ',dA C ((Tr.mk need o.dst res ro dz ij gs).apply A) a' w' S' μ' ν) (fun _ _ _=>False):=by
 generalize hcv:a.eval cf=cv at Y8
 cases Y8 with
 | @fn _ _ De hl hh =>
  unfold Oper.wp
  rw [zT ho hcv Y9.1]
  have pF:dV w S μ ν (args++cS) (xs.map a.eval++De).toList:=by
   rw [Array.toList_append,Array.toList_map]
   exact mb.append ⟨by simpa using hl,fun i hi=>by rw [← dm]; exact hh i hi⟩
  have zM:∀ κ b,look dz κ=some b→A.lb κ=some b:=fun κ b h=>VS (κ,b) (jt h)
  refine (Y9.2 w S μ (xs.map a.eval++De) hs.bound hs.BG (fun ν'=>pF.nu hn) (fun κ b hk=>hs.mem κ b (zM κ b hk)) (fun κ κ' b b' g c c' h1 h2 h3 h4=>hs.inj κ κ' b b' g c c' (zM _ _ h1) (zM _ _ h2) h3 h4)).mono ?_
  rintro e w' ⟨v,S',μ',rfl,B,ha⟩
  have afO:∀ κ,κ∈nw.map (·.2)→κ∈ij.map (·.1)∧(∃ cs,look ij κ=some (.box cs))∧∃ g c c',μ κ=some (some (g,c))∧μ' κ=some (some (g,c')):=by
   intro κ hκ
   obtain ⟨p,hp,rfl⟩:=List.mem_map.1 hκ
   obtain ⟨h1,h2,-,cs,h4⟩:=ahH p hp
   have h5:=pF.2 p.1 h1
   rw [h2] at h5
   have h6:=ha p hp ν
   generalize (xs.map a.eval++De).toList.getD p.1 undef=u at h5 h6
   refine ⟨rI h4,⟨cs,h4⟩,?_⟩
   cases h5 with
   | @ptr _ _ g c hμ =>
    cases h6 with
    | @ptr _ _ _ c' hμ'=>exact ⟨g,c,c',hμ,hμ'⟩
  have hT:∀ q,Handed dz μ q→C.w0.heap.size≤q∨C.T0 q:=fun q ⟨κ,b,c,h1,h2⟩=>hs.own κ b q c (zM κ b h1) h2
  have hTs:∀ q,Handed dz μ q→¬ S q:=fun q ⟨κ,b,c,h1,h2⟩=>by
   have:=hs.mem κ b (zM κ b h1)
   rw [h2] at this
   exact this.at.not
  have hw:∀ q,S q→w'.heap[q]? = w.heap[q]?:=fun q hq=>B.kept.block q (hs.bound q hq) (fun ht=>hTs q ht hq)
  let μ'':Mu:=fun k=>if k∈nw.map (·.2) then μ k else if k∈ij.map (·.1) then μ' k else μ k
  have ag:∀ k,(k∈ij.map (·.1)→k∈nw.map (·.2))→μ'' k=μ k:=fun k hk=>by
   simp only [μ'']
   by_cases h1:k∈nw.map (·.2)
   ·rw [if_pos h1]
   ·rw [if_neg h1,if_neg (fun h=>h1 (hk h))]
  have ag':∀ k,k∈ij.map (·.1)→k ∉ nw.map (·.2)→μ'' k=μ' k:=fun k hk hn=>by simp only [μ'']; rw [if_neg hn,if_pos hk]
  have tr:∀ k g c,k∈ij.map (·.1)→μ'' k=some (some (g,c))→∃ c',μ' k=some (some (g,c')):=fun k g c hk h=>by
   by_cases h1:k∈nw.map (·.2)
   ·obtain ⟨-,-,g',c1,c2,e1,e2⟩:=afO k h1
    rw [ag k (fun _=>h1),e1] at h
    simp only [Option.some.injEq,Prod.mk.injEq] at h
    obtain ⟨rfl,rfl⟩:=h
    exact ⟨c2,e2⟩
   ·rw [ag' k hk h1] at h
    exact ⟨c,h⟩
  have old:∀ x v,Rel w S μ ν x v→(∀ k,k∈ij.map (·.1)→k ∉ nw.map (·.2)→k ∉ x.keys)→Rel w' S' μ'' ν x v:=fun x v hr hk =>
   (hr.mono B.sub hw (fun _ _ e=>e)).agree (fun k hkx=>ag k (fun gE=>Classical.byContradiction (fun hn=>hk k gE hn hkx)))
  refine ⟨S',μ'',?_⟩
  have KX:∀ κ b,((Tr.mk need o.dst res ro dz ij gs).apply A).lb κ=some b→(look ij κ=some b∧κ∈ij.map (·.1))∨(κ ∉ ij.map (·.1)∧κ ∉ dz.map (·.1)∧A.lb κ=some b):=by
   intro κ b hb
   simp only [Tr.apply] at hb
   cases SM:look ij κ with
   | some b' =>
    rw [SM] at hb
    simp only [Option.some.injEq] at hb
    subst hb
    exact .inl ⟨rfl,rI SM⟩
   | none =>
    rw [SM] at hb
    simp only at hb
    have hnk:κ ∉ ij.map (·.1):=fun hk=>by
     obtain ⟨p,hp,e⟩:=List.mem_map.1 hk
     have:∀ (l:List (Nat × bQ)),p∈l→look l κ≠none:=by
      intro l
      induction l with
      | nil=>intro h; cases h
      | cons q r ih =>
       intro h hn
       obtain ⟨q1,q2⟩:=q
       simp only [look] at hn
       cases hq:Nat.beq q1 κ with
       | true=>rw [hq] at hn; cases hn
       | false =>
        rw [hq] at hn
        rcases List.mem_cons.1 h with h' | h'
        ·subst h'
         simp only at e
         rw [e,Nat.beq_refl] at hq
         cases hq
        ·exact ih h' (by simpa using hn)
     exact this ij hp SM
    split at hb
    ·cases hb
    ·rename_i hnm
     exact .inr ⟨hnk,hnm,hb⟩
  have hgT:∀ κ b g c,κ ∉ dz.map (·.1)→A.lb κ=some b→μ κ=some (some (g,c))→¬ Handed dz μ g∧g < w.heap.size∧¬ S g:=by
   intro κ b g c hnm hb hμ
   have hm:=hs.mem κ b hb
   rw [hμ] at hm
   refine ⟨fun ⟨κ2,b2,c2,h1,h2⟩=>?_,hm.at.lt,hm.at.not⟩
   have:=hs.inj κ κ2 b b2 g c c2 hb (zM _ _ h1) hμ h2
   rw [this] at hnm
   exact hnm (rI h1)
  refine ⟨?_,?_,fun t=>?_,fun κ b hb=>?_,fun κ1 κ2 b1 b2 g c c' h1 h2 h3 h4=>?_,fun κ b g c hb hμ=>?_,fun b hb=>B.sub b (hs.fA b hb),fun b hb=>?_,B.bound,?_⟩
  ·simp only [Act.put]; split <;> simp [hs.tmps]
  ·simp only [Act.put]; split <;> exact hs.defers
  ·simp only [Tr.apply]
   by_cases c:o.dst=some t
   ·simp only [c,if_true,Act.put]
    rw [iy _ _ _ (by rw [hs.tmps]; exact hd t c)]
    exact (B.res ν).agree (fun k hk=>ag' k (Zb k hk).1 (Zb k hk).2)
   ·simp only [c,if_false]
    have e:(a.put o.dst v).tmps.getD t undef=a.tmps.getD t undef:=by
     cases eF:o.dst with
     | none=>rfl
     | some d =>
      simp only [Act.put]
      exact dt _ _ _ _ (fun e=>c (by rw [eF,e]))
    rw [e]
    exact old _ _ (hs.eJ t) (fun k hk hn=>(yD k hk hn).sl t)
  ·rcases KX κ b hb with ⟨h1,h2⟩ | ⟨h1,h2,h3⟩
   ·have hm:=B.mem κ b h1
    have hk2:∀ k,k∈b.keys→μ'' k=μ' k:=fun k hk=>ag' k (uE (κ,b) (jt h1) k hk).1 (uE (κ,b) (jt h1) k hk).2
    by_cases hn:κ∈nw.map (·.2)
    ·obtain ⟨-,⟨cs,e0⟩,g',c1,c2,e1,e2⟩:=afO κ hn
     rw [h1] at e0
     simp only [Option.some.injEq] at e0
     subst e0
     rw [ag κ (fun _=>hn),e1]
     rw [e2] at hm
     have h3:eA w' S' μ' (.box cs) g' c1:=hm.at
     exact eA.ok (b:=.box cs) (h3.agree hk2)
    ·rw [ag' κ h2 hn]
     exact hm.agree hk2
   ·rw [ag κ (fun h=>absurd h h1)]
    have hm:=hs.mem κ b h3
    refine (hm.mono B.sub hw (fun _ _ e=>e) (fun g c e=>?_)).agree (fun k hk=>ag k (fun gE=>Classical.byContradiction (fun hn=>(yD k gE hn).bl κ b h3 hk)))
    obtain ⟨q1,q2,q3⟩:=hgT κ b g c h2 h3 e
    refine ⟨B.kept.block g q2 q1,fun BI=>?_⟩
    rcases B.new g BI with h | h | h
    ·exact q3 h
    ·omega
    ·exact q1 h
  ·rcases KX κ1 b1 h1 with ⟨x1,x2⟩ | ⟨x1,x2,x3⟩
   ·obtain ⟨d1,h3⟩:=tr κ1 g c x2 h3
    rcases KX κ2 b2 h2 with ⟨y1,y2⟩ | ⟨y1,y2,y3⟩
    ·obtain ⟨d2,h4⟩:=tr κ2 g c' y2 h4
     exact B.inj κ1 κ2 b1 b2 g d1 d2 x1 y1 h3 h4
    ·rw [ag κ2 (fun h=>absurd h y1)] at h4
     obtain ⟨q1,q2,q3⟩:=hgT κ2 b2 g c' y2 y3 h4
     rcases B.own κ1 b1 g d1 x1 h3 with h | h
     ·omega
     ·exact absurd h q1
   ·rw [ag κ1 (fun h=>absurd h x1)] at h3
    obtain ⟨q1,q2,q3⟩:=hgT κ1 b1 g c x2 x3 h3
    rcases KX κ2 b2 h2 with ⟨y1,y2⟩ | ⟨y1,y2,y3⟩
    ·obtain ⟨d2,h4⟩:=tr κ2 g c' y2 h4
     rcases B.own κ2 b2 g d2 y1 h4 with h | h
     ·omega
     ·exact absurd h q1
    ·rw [ag κ2 (fun h=>absurd h y1)] at h4
     exact hs.inj κ1 κ2 b1 b2 g c c' x3 y3 h3 h4
  ·rcases KX κ b hb with ⟨h1,h2⟩ | ⟨h1,h2,h3⟩
   ·obtain ⟨d1,hμ⟩:=tr κ g c h2 hμ
    rcases B.own κ b g d1 h1 hμ with h | h
    ·exact .inl (Nat.le_trans hs.kept.size h)
    ·exact hT g h
   ·rw [ag κ (fun h=>absurd h h1)] at hμ
    exact hs.own κ b g c h3 hμ
  ·rcases B.new b hb with h | h | h
   ·exact hs.fresh b h
   ·exact .inr (.inl (Nat.le_trans hs.kept.size h))
   ·rcases hT b h with h' | h'
    ·exact .inr (.inl h')
    ·exact .inr (.inr h')
  ·refine hs.kept.trans B.kept (fun b hb h=>?_)
   rcases hT b h with h' | h'
   ·omega
   ·exact h'
def FnS (P:Program) (f:FuncId) (args:List AV) (κ:Nat) (b b':bQ):Prop :=
 gF P f=true∧∀ (w:World) (S:Nat→Prop) (μ:Mu) (vs:Array Value),(∀ b,S b→b < w.heap.size)→jU w S→(∀ ν,dV w S μ ν args vs.toList)→iM w S μ b (μ κ) →
  Calls P f vs w fun e w'=>(∃ v,e=.returned v)∧iM w' S μ b' (μ κ)∧Kept w w' (fun q=>∃ c,μ κ=some (some (q,c)))
theorem KY {o:Oper} {cf:Operand} {xs:Array Operand} {ts:Array TypeId} {f:FuncId} {args cS:List AV} {κ:Nat} {b b':bQ} {need:List (Nat × AV)} {ro:List (Nat × bQ)} {gs:List (Nat × Bool)}
  (hs:dA C A a w S μ ν) (hd:∀ t,o.dst=some t→t < C.nt) (ho:o.op=.call { callee:=.value cf,args:=xs,argTypes:=ts }) (Y8:Rel w S μ ν (.fn f cS) (a.eval cf)) (mb:dV w S μ ν args (xs.toList.map a.eval)) (hn:wJ.oo (args++cS)=true)
  (Y9:FnS C.P f (args++cS) κ b b') (hκ:A.lb κ=some b) :
  o.wp C.P a w (fun a' w'=>∃ S' μ',dA C ((Tr.mk need o.dst .any ro [(κ,b)] [(κ,b')] gs).apply A) a' w' S' μ' ν) (fun _ _ _=>False):=by
 generalize hcv:a.eval cf=cv at Y8
 cases Y8 with
 | @fn _ _ De hl hh =>
  unfold Oper.wp
  rw [zT ho hcv Y9.1]
  have pF:dV w S μ ν (args++cS) (xs.map a.eval++De).toList:=by
   rw [Array.toList_append,Array.toList_map]
   exact mb.append ⟨by simpa using hl,fun i hi=>by rw [← dm]; exact hh i hi⟩
  refine (Y9.2 w S μ (xs.map a.eval++De) hs.bound hs.BG (fun ν'=>pF.nu hn) (hs.mem κ b hκ)).mono ?_
  rintro e w' ⟨⟨v,rfl⟩,od,hk⟩
  have hg:∀ q,(∃ c,μ κ=some (some (q,c)))→¬ S q:=fun q ⟨c,hc⟩=>by
   have:=hs.mem κ b hκ
   rw [hc] at this
   exact this.at.not
  have hw:∀ q,S q→w'.heap[q]? = w.heap[q]?:=fun q hq=>hk.block q (hs.bound q hq) (fun h=>hg q h hq)
  have h1:dA C (A.set κ (some b')) a w' S μ ν:=by
   refine ⟨hs.tmps,hs.defers,fun t=>(hs.eJ t).mono (fun _ x=>x) hw (fun _ _ e=>e),fun κ' bk hbk=>?_,fun κ1 κ2 b1 b2 g c c' h1 h2 h3 h4=>?_,fun κ' bk g c h1 h2=>?_,hs.fA,hs.fresh,fun q hq=>Nat.lt_of_lt_of_le (hs.bound q hq) hk.size,?_⟩
   ·simp only [M.set] at hbk
    by_cases e:κ'=κ
    ·subst e
     simp only [if_true,Option.some.injEq] at hbk
     subst hbk
     exact od
    ·simp only [e,if_false] at hbk
     have hm:=hs.mem κ' bk hbk
     refine hm.mono (fun _ x=>x) hw (fun _ _ e=>e) (fun g c hgc=>?_)
     rw [hgc] at hm
     exact ⟨hk.block g hm.at.lt (fun ⟨c',hc'⟩=>e (hs.inj κ' κ bk b g c c' hbk hκ hgc hc')),hm.at.not⟩
   ·have get:∀ k bk,(A.set κ (some b')).lb k=some bk→∃ bk',A.lb k=some bk':=fun k bk h=>by
     simp only [M.set] at h
     by_cases e:k=κ
     ·subst e; exact ⟨b,hκ⟩
     ·simp only [e,if_false] at h; exact ⟨bk,h⟩
    obtain ⟨b1',q1⟩:=get _ _ h1
    obtain ⟨b2',q2⟩:=get _ _ h2
    exact hs.inj κ1 κ2 b1' b2' g c c' q1 q2 h3 h4
   ·simp only [M.set] at h1
    by_cases e:κ'=κ
    ·subst e; exact hs.own κ' b g c hκ h2
    ·simp only [e,if_false] at h1; exact hs.own κ' bk g c h1 h2
   ·exact hs.kept.trans hk (fun q hq ⟨c,hc⟩=>by
     rcases hs.own κ b q c hκ hc with h | h
     ·omega
     ·exact h)
  refine ⟨S,μ,?_⟩
  have e:(Tr.mk need o.dst .any ro [(κ,b)] [(κ,b')] gs).apply A=(A.set κ (some b')).yE o.dst .any:=by
   cases eF:o.dst with
   | none=>exact mK _
   | some d =>
    have:=mK (A:=A) (κ:=κ) (b:=b) (b':=b') (need:=need) (ro:=ro) (gs:=gs) .any
    unfold Tr.apply at this ⊢
    simp only [M.yE,M.put,M.set,M.mk.injEq,Option.some.injEq] at this ⊢
    refine ⟨?_,this.2⟩
    funext t
    by_cases c:t=d
    ·simp [c]
    ·have:¬ d=t:=fun e=>c e.symm
     simp [c,this]
  rw [e]
  exact h1.put hd (.any _)
end
def Hh (n k:Nat) (z:List D):List AV:=(List.range n).map fun q=>.d (z.getD (q % k) default)
section
variable {C : Cx} {A : M} {a : Act} {w : World} {S : Nat → Prop} {μ : Mu} {ν : Nat → Bool}
def unN (ρ:Operand→Option AV) (x:Operand):Option AV:=match ρ x with
 | some (.A8 n f)=>some (.d (.sl n f))
 | y=>y
theorem aaC {ρ:Operand→Option AV} (h:∀ x y,ρ x=some y→Rel w S μ ν y (a.eval x)):∀ x y,unN ρ x=some y→Rel w S μ ν y (a.eval x):=by
 intro x y hy
 unfold unN at hy
 split at hy
 ·rename_i n f hx
  have h1:=h x _ hx
  obtain rfl:=Option.some.inj hy
  generalize a.eval x=v at h1
  cases h1 with
  | A8 hd=>exact .d hd
 ·exact h x y hy
def vq (T:List (Nat × TI)) (ρ:Operand→Option AV) (t len:Nat) (ps:List (Nat × Operand)):Option (Nat × Nat × List D) :=
 match look T t,BN ρ ps with
 | some { kind:=.slice e,.. },some vs=>(match look T e with
  | some i=>bif Nat.ble (len * i.size) 16777216&&Nat.ble 1 i.size then (match KL (fun q=>some (q * i.size,i.size)) (Hh (len * i.size) i.size i.zero) vs with
   | some cs=>(match Ba cs with | some ds=>bif Nat.beq ds.length (len * i.size) then some (e,i.size,ds) else none | none=>none)
   | none=>none) else none
  | none=>none)
 | _,_=>none
theorem BQ {P:Program} {T:List (Nat × TI)} (hT:og P T) {ρ:Operand→Option AV} (hρ:∀ x y,ρ x=some y→Rel w S μ ν y (a.eval x)) {t len:Nat} {ps:Array (Nat × Operand)} {e k:Nat} {ds:List D} (h:vq T ρ t len ps.toList=some (e,k,ds)) :
  ∃ cells:Array Value,(Instr.buildSlice t len (ps.map fun (i,x)=>(i,a.eval x))).run P w=.ok (.slice (some ⟨w.heap.size,0,none⟩) len len) (w.alloc (.cells cells e))∧cells.size=len * k∧ju w S k len (DI k len ds) cells.toList∧ds.length=len * k∧len≤maxLen:=by
 unfold vq at h
 split at h
 ·rename_i e' _ _ _ _ vs hl hv
  split at h
  ·rename_i i hi
   cases hb:(Nat.ble (len * i.size) 16777216&&Nat.ble 1 i.size) with
   | false=>rw [hb] at h; cases h
   | true =>
    rw [hb] at h
    simp only [Bool.and_eq_true] at hb
    have hle:=Nat.le_of_ble_eq_true hb.1
    have QK:=Nat.le_of_ble_eq_true hb.2
    simp only [cond_true] at h
    split at h
    ·rename_i cs Fv
     split at h
     ·rename_i ds' hp
      cases Bb:Nat.beq ds'.length (len * i.size) with
      | false=>rw [Bb] at h; cases h
      | true =>
       rw [Bb] at h
       have hdl:=Nat.eq_of_beq_eq_true Bb
       simp only [cond_true,Option.some.injEq,Prod.mk.injEq] at h
       obtain ⟨rfl,rfl,rfl⟩:=h
       have ecs:=vo hp
       subst ecs
       obtain ⟨ti,z,F⟩:=aH (hT t _ hl)
       have hu:=e9 F.kind
       obtain ⟨tj,zj,G⟩:=aH (hT e' _ hi)
       obtain ⟨q1,q2⟩:=ko (w:=w) (S:=S) G.zok
       have hzs:zj.cells.size=i.size:=by rw [← G.Eu,← q1]; simp
       have hz:dV w S μ ν (Hh (len * i.size) i.size i.zero) ((Array.range (len * i.size)).map (zj.cells[· % zj.cells.size]!)).toList:=by
        refine ⟨by simp [Hh],fun q hq=>?_⟩
        have XZ:q < len * i.size:=by simpa [Hh] using hq
        have hm:q % i.size < i.size:=Nat.mod_lt _ QK
        have e1:(Hh (len * i.size) i.size i.zero).getD q default=.d (i.zero.getD (q % i.size) default):=by simp [Hh,List.getD,XZ]
        have e2:((Array.range (len * i.size)).map (zj.cells[· % zj.cells.size]!)).toList.getD q undef=zj.cells.toList.getD (q % i.size) undef:=by
         have h1:q % i.size < zj.cells.size:=by omega
         simp only [List.getD,Array.getElem?_toList,Array.getElem?_map,Array.getElem?_range,XZ,if_true,Option.map_some,Option.getD_some,hzs]
         rw [getElem!_pos zj.cells _ h1,Array.getElem?_eq_getElem h1]
         rfl
        rw [e1,e2]
        exact .d (q2 _ (by rw [G.Eu]; exact hm))
       obtain ⟨v1,v2⟩:=zQ hρ ps.toList vs hv
       obtain ⟨KM,hf,hr⟩:=Db (fun q=>some (q * i.size,i.size)) vs (ps.toList.map fun p=>(p.1,a.eval p.2)) _ _ ((Array.range (len * i.size)).map (zj.cells[· % zj.cells.size]!)) hz v1 v2 Fv
       have DG:KM.size=len * i.size:=by have:=hr.1; simp at this; omega
       refine ⟨KM,?_,DG,⟨by simpa using DG,fun q hq=>⟨(yJ hdl hq).1,fun j hj=>?_⟩⟩,hdl,?_⟩
       ·have hps:(ps.map fun (i,x)=>(i,a.eval x)).toList=ps.toList.map fun p=>(p.1,a.eval p.2):=by simp
        have hn:¬ len * i.size > 2 ^ 24:=by omega
        simp only [Instr.buildSlice,Sem.run_bind,run_underlying hu,Result.andThen_ok,sizeOf,typeInfo,run_program,G.info,Sem.run_pure,G.size,Sem.run_ite,hn,if_false,hps]
        by_cases h0:len * i.size=0
        ·rw [h0] at DG hf
         simp only [h0,if_true]
         have:∀ (g g':Nat→Value),(Array.range 0).map g=(Array.range 0).map g':=fun g g'=>by simp
         rw [this _ (zj.cells[· % zj.cells.size]!),hf]
         simp [newRow]
        ·simp only [h0,if_false,zeroValue,typeInfo,Sem.run_bind,run_program,Result.andThen_ok,G.info,Sem.run_pure,G.zero]
         rw [hf]
         simp [newRow]
       ·rw [(yJ hdl hq).2 j hj]
        have gJ:q * i.size+j < ds'.length:=by
         rw [hdl]
         calc q * i.size+j < q * i.size+i.size:=by omega
          _=(q+1) * i.size:=by rw [Nat.add_mul,Nat.one_mul]
          _≤len * i.size:=Nat.mul_le_mul_right _ hq
        have:=hr.2 (q * i.size+j) (by simpa using gJ)
        rw [kq _ _ gJ] at this
        exact jd.1 this
       ·have:len * 1≤len * i.size:=Nat.mul_le_mul_left len QK
        simp only [maxLen]
        omega
     ·cases h
    ·cases h
  ·cases h
 ·cases h
theorem Jk {T:List (Nat × TI)} (hT:og C.P T) {o:Oper} {dst t len:Nat} {ps:Array (Nat × Operand)} {e k:Nat} {ds:List D} {ρ:Operand→Option AV} {need:List (Nat × AV)} {ro:List (Nat × bQ)} {gs:List (Nat × Bool)}
  (hs:dA C A a w S μ ν) (hd:o.dst=some dst) (hdt:dst < C.nt) (ho:o.op=.buildSlice t len ps) (hρ:∀ x y,ρ x=some y→Rel w S μ ν y (a.eval x)) (h:vq T ρ t len ps.toList=some (e,k,ds)) (hf:km A dst) :
  o.wp C.P a w (fun a' w'=>∃ S' μ',dA C ((Tr.mk need (some dst) (.own dst len) ro [] [(dst,.row e k len (DI k len ds))] gs).apply A) a' w' S' μ' ν) (fun _ _ _=>False):=by
 obtain ⟨cells,g5,jT,qm,_,hml⟩:=BQ hT hρ h
 unfold Oper.wp execOp
 simp only [ho,Sem.run_bind,g5,Result.andThen_ok,Sem.run_pure]
 have tV:¬ S w.heap.size:=fun h=>by have:=hs.bound _ h; omega
 have hw:∀ q,S q→(w.alloc (.cells cells e)).heap[q]? = w.heap[q]?:=fun q hq=>heap_alloc_old w _ (hs.bound q hq)
 have h1:=hs.alloc hf (b:=.row e k len (DI k len ds)) (cur:=cells) (e:=e) (cap:=len) (by simp [bQ.keys]) (KQ (heap_alloc_new w _) tV jT (Nat.le_refl _) hml (by rw [← jT,← Array.length_toList,List.take_length]) (qm.mono (fun _ x=>x) hw))
 have h2:=h1.put (dst:=some dst) (x:=.own dst len) (v:=.slice (some ⟨w.heap.size,0,none⟩) len len) (fun t ht=>by cases ht; exact hdt) (.own (by simp [dC]))
 rw [rJ]
 exact ⟨S,_,by rw [hd]; exact h2⟩
theorem Zc {T:List (Nat × TI)} (hT:og C.P T) {o:Oper} {dst t e:Nat} {l c:Operand} {it i:TI} {kl kc:IntKind} {n:Int} {need:List (Nat × AV)} {ro:List (Nat × bQ)} {gs:List (Nat × Bool)}
  (hs:dA C A a w S μ ν) (hd:o.dst=some dst) (hdt:dst < C.nt) (ho:o.op=.makeSlice t l c) (ht:look T t=some it) (hk:it.kind=.slice e) (he:look T e=some i) (hl:a.eval l=.int kl n) (hc:a.eval c=.int kc n)
  (h0:0≤n) (hm:n.toNat≤maxLen) (hb:n.toNat * i.bytes≤140737488355328) (hf:km A dst) :
  o.wp C.P a w (fun a' w'=>∃ S' μ',dA C ((Tr.mk need (some dst) (.own dst n.toNat) ro [] [(dst,.row e i.size n.toNat fun _=>i.zero)] gs).apply A) a' w' S' μ' ν) (fun _ _ _=>False):=by
 obtain ⟨tj,z,F⟩:=aH (hT _ _ ht)
 obtain ⟨ej,ez,G⟩:=aH (hT _ _ he)
 have wI:=F.kind
 rw [hk] at wI
 have hu:=e9 wI
 have hml:n≤9223372036854775807:=by have:=hm; simp only [maxLen] at this; omega
 have hbb:(ej.bytes:Int) * n≤281474976710656:=by
  rw [G.bytes]
  have h1:((i.bytes * n.toNat:Nat):Int)≤281474976710656:=by rw [Nat.mul_comm]; omega
  rw [Int.natCast_mul,Int.toNat_of_nonneg h0] at h1
  exact h1
 have g5:=run_make (P:=C.P) w t e ej ez hu G.info G.zero kl kc n n h0 (Int.le_refl _) hbb hml
 rw [G.size] at g5
 unfold Oper.wp execOp
 simp only [ho,hl,hc,Sem.run_bind,g5,Result.andThen_ok,Sem.run_pure]
 have tV:¬ S w.heap.size:=fun h=>by have:=hs.bound _ h; omega
 have hw:∀ q,S q→(w.alloc (.cells (madeCells ez.cells (n.toNat * i.size)) e)).heap[q]? = w.heap[q]?:=fun q hq=>heap_alloc_old w _ (hs.bound q hq)
 obtain ⟨q1,q2⟩:=ko (w:=w) (S:=S) G.zok
 have hzl:ez.cells.size=i.size:=by have:=q1; simp only [Array.length_toList] at this; rw [this,G.Eu]
 have qm:ju w S i.size n.toNat (fun _=>i.zero) (madeCells ez.cells (n.toNat * i.size)).toList:=by
  refine ⟨by simp [size_madeCells],fun q hq=>⟨G.Eu,fun j hj=>?_⟩⟩
  have gJ:q * i.size+j < n.toNat * i.size:=by
   calc q * i.size+j < q * i.size+i.size:=by omega
    _=(q+1) * i.size:=by rw [Nat.add_mul,Nat.one_mul]
    _≤n.toNat * i.size:=Nat.mul_le_mul_right _ hq
  have e1:(madeCells ez.cells (n.toNat * i.size)).toList.getD (q * i.size+j) undef=ez.cells.toList.getD j undef:=by
   have IA:j < ez.cells.size:=by omega
   have Tk:(q * i.size+j) % ez.cells.size=j:=by rw [hzl,Nat.mul_comm,Nat.mul_add_mod,Nat.mod_eq_of_lt hj]
   simp [madeCells,List.getD,gJ,Tk,IA]
  rw [e1]
  exact q2 j (by rw [G.Eu]; exact hj)
 have h1:=hs.alloc hf (b:=.row e i.size n.toNat fun _=>i.zero) (cur:=madeCells ez.cells (n.toNat * i.size)) (e:=e) (cap:=n.toNat) (by simp [bQ.keys]) (KQ (heap_alloc_new w _) tV (size_madeCells _ _) (Nat.le_refl _) hm (List.take_of_length_le (by simp [size_madeCells])) (qm.mono (fun _ x=>x) hw))
 have h2:=h1.put (dst:=some dst) (x:=.own dst n.toNat) (v:=.slice (some ⟨w.heap.size,0,none⟩) n.toNat n.toNat) (fun t ht=>by cases ht; exact hdt) (.own (by simp [dC]))
 rw [rJ]
 exact ⟨S,_,by rw [hd]; exact h2⟩
theorem KZ {T:List (Nat × TI)} (hT:og C.P T) {o:Oper} {t len:Nat} {ps:Array (Nat × Operand)} {e k:Nat} {ds:List D} {ρ:Operand→Option AV} {τ:Tr}
  (hs:dA C A a w S μ ν) (hd:∀ t,o.dst=some t→t < C.nt) (ho:o.op=.buildSlice t len ps) (hρ:∀ x y,ρ x=some y→Rel w S μ ν y (a.eval x)) (h:vq T ρ t len ps.toList=some (e,k,ds))
  (h0:τ.v=.d (.sl len (DI k len ds))) (h1:τ.dst=o.dst) (h2:τ.mem=[]) (h3:τ.fU=[]) :
  o.wp C.P a w (fun a' w'=>∃ S' μ',dA C (τ.apply A) a' w' S' μ' ν) (fun _ _ _=>False):=by
 obtain ⟨cells,g5,jT,qm,_,hml⟩:=BQ hT hρ h
 unfold Oper.wp execOp
 simp only [ho,Sem.run_bind,g5,Result.andThen_ok,Sem.run_pure]
 let S':Nat→Prop:=fun q=>S q∨q=w.heap.size
 have h4:=hs.world (S':=S') (w':=w.alloc (.cells cells e)) (fun _ x=>.inl x) (fun q hq=>hq.elim .inl (fun e=>.inr ⟨by omega,by rw [e]; simp⟩)) (pH w _ _)
 have hrd:Rd (w.alloc (.cells cells e)) S' (.sl len (DI k len ds)) (.slice (some ⟨w.heap.size,0,none⟩) len len):=by
  refine .sl len _ ⟨w.heap.size,0,none⟩ len k (fun i j=>cells.toList.getD (i * k+j) undef) (Nat.le_refl _) hml (.inr rfl) (fun i hi=>(qm.2 i hi).1) (fun i j hi hj=>⟨.inr rfl,?_⟩) (fun i j hi hj=>?_)
  ·have gJ:i * k+j < cells.size:=by
    rw [jT]
    calc i * k+j < i * k+k:=by omega
     _=(i+1) * k:=by rw [Nat.add_mul,Nat.one_mul]
     _≤len * k:=Nat.mul_le_mul_right k hi
   rw [g8 _ _ _ cells e (0,0) (heap_alloc_new w _)]
   simp [List.getD,gJ]
  ·exact ((qm.2 i hi).2 j hj).mono (fun _ x=>.inl x) (fun q hq=>heap_alloc_old w _ (hs.bound q hq))
 have h5:=h4.put (dst:=o.dst) (x:=.d (.sl len (DI k len ds))) (v:=.slice (some ⟨w.heap.size,0,none⟩) len len) hd (.d hrd)
 refine ⟨S',μ,?_⟩
 have e:τ.apply A=A.yE o.dst (.d (.sl len (DI k len ds))):=by
  unfold Tr.apply M.yE M.put
  rw [h0,h1,h2,h3]
  cases ho:o.dst with
  | none=>simp [look]
  | some d =>
   simp only [look,List.map_nil,List.not_mem_nil,if_false,Option.some.injEq]
   congr 1
   funext t
   by_cases c:d=t
   ·simp [c]
   ·have:¬ t=d:=fun e=>c e.symm
    simp [c,this]
 rw [e]
 exact h5
def QL (T:List (Nat × TI)) (ρ:Operand→Option AV):Op→Option (AV × Ob)
 | .convert src d x=>(match ρ x,look T src,look T d with
  | some (.d (.v (.string s))),some _,some { kind:=.slice e,.. }=>(match look T e with
   | some { kind:=.int .u8,.. }=>some (.d (.sl s.size fun i=>[.v (.int .u8 (s.data.toList.getD i 0).toNat)]),.pr (s.size≤maxLen))
   | _=>none)
  | _,_,_=>none)
 | _=>none
theorem Wd {T:List (Nat × TI)} (hT:og C.P T) (hs:dA C A a w S μ ν) {o:Oper} {ρ:Operand→Option AV} (hρ:∀ x y,ρ x=some y→Rel w S μ ν y (a.eval x)) (hd:∀ t,o.dst=some t→t < C.nt) {v:AV} {ob:Ob} (h:QL T ρ o.op=some (v,ob)) (cm:ob.den) (need:List (Nat × AV)) (ro:List (Nat × bQ)) (gs:List (Nat × Bool)) :
  o.wp C.P a w (fun a' w'=>∃ S' μ',dA C ((Tr.mk need o.dst v ro [] [] gs).apply A) a' w' S' μ' ν) (fun _ _ _=>False):=by
 unfold QL at h
 split at h
 ·rename_i src d x ho
  split at h
  ·rename_i s ti e _ _ _ _ hx l4 eF
   split at h
   ·rename_i _ _ _ _ he
    simp only [Option.some.injEq,Prod.mk.injEq] at h
    obtain ⟨rfl,rfl⟩:=h
    have cm:s.size≤maxLen:=cm
    have hv:=dg rfl (hρ _ _ hx)
    obtain ⟨ds,hds⟩:∃ q,C.P.underlying src=some q:=by
     obtain ⟨tj,zj,G⟩:=aH (hT _ _ l4)
     have:=G.kind
     cases hu:C.P.underlying src with
     | some q=>exact ⟨q,rfl⟩
     | none=>cases hk:ti.kind <;> rw [hk] at this <;> simp [dU,hu] at this
    obtain ⟨t1,z1,F1⟩:=aH (hT _ _ eF)
    obtain ⟨t2,z2,F2⟩:=aH (hT _ _ he)
    have g5:=Lib.run_convert_string_bytes (P:=C.P) w src d e s hds (e9 F1.kind) (vp F2.kind)
    unfold Oper.wp execOp
    simp only [ho,hv,Sem.run_bind,g5,Result.andThen_ok,Sem.run_pure]
    let S':Nat→Prop:=fun q=>S q∨q=w.heap.size
    have FA:Kept w (Lib.bytesWorld w e s) (fun _=>False):=⟨rfl,rfl,rfl,by rw [Lib.bytesWorld_size]; omega,fun b hb _=>Lib.bytesWorld_at_old w e s b hb⟩
    have h4:=hs.world (S':=S') (fun _ x=>.inl x) (fun q hq=>hq.elim .inl (fun e'=>.inr ⟨by omega,by rw [e',Lib.bytesWorld_size]; omega⟩)) FA
    have hrd:Rd (Lib.bytesWorld w e s) S' (.sl s.size fun i=>[.v (.int .u8 (s.data.toList.getD i 0).toNat)]) (.slice (some ⟨w.heap.size,0,none⟩) s.size (grownCap w s.size 0 e)):=by
     refine .sl s.size _ ⟨w.heap.size,0,none⟩ _ 1 (fun i _=>.int .u8 (s.data.toList.getD i 0).toNat) (grownCap_ge w s.size 0 e) (grownCap_le_maxLen w s.size 0 e cm) (.inr rfl) (fun i hi=>rfl) (fun i j hi hj=>⟨.inr rfl,?_⟩) (fun i j hi hj=>?_)
     ·obtain rfl:j=0:=by omega
      simp only [Nat.mul_one,Nat.add_zero,Nat.zero_add]
      exact Lib.bytesWorld_cell w e s i hi
     ·obtain rfl:j=0:=by omega
      exact .v _ rfl
    have h5:=h4.put (dst:=o.dst) hd (.d hrd)
    refine ⟨S',μ,?_⟩
    have e:(Tr.mk need o.dst (.d (.sl s.size fun i=>[.v (.int .u8 (s.data.toList.getD i 0).toNat)])) ro [] [] gs).apply A=A.yE o.dst (.d (.sl s.size fun i=>[.v (.int .u8 (s.data.toList.getD i 0).toNat)])):=by
     unfold Tr.apply M.yE M.put
     cases ho:o.dst with
     | none=>simp [look]
     | some d =>
      simp only [look,List.map_nil,List.not_mem_nil,if_false,Option.some.injEq]
      congr 1
      funext t
      by_cases c:d=t
      ·simp [c]
      ·have:¬ t=d:=fun e=>c e.symm
       simp [c,this]
    rw [e]
    exact h5
   ·cases h
  ·cases h
 ·cases h
end
section
variable {C : Cx} {A : M} {a : Act} {w : World} {S : Nat → Prop} {μ : Mu} {ν : Nat → Bool}
theorem FC {P:Program} {t k e:Nat} (h:dU P t (.map k e)=true):P.underlying t=some (.map k e):=by
 simp only [dU] at h
 split at h
 ·rename_i x; simp only [Bool.and_eq_true,beq_iff_eq] at h; obtain ⟨rfl,rfl⟩:=h; exact x
 ·cases h
theorem dA.QM (h:dA C A a w S μ ν) {κ g cap:Nat} {b b':bQ} {w':World} (hκ:A.lb κ=some b) (hμ:μ κ=some (some (g,cap))) (hk:Kept w w' (fun q=>q=g)) (hb:eA w' S μ b' g cap):dA C (A.set κ (some b')) a w' S μ ν:=by
 have Y6:=h.mem κ b hκ
 rw [hμ] at Y6
 have tV:=Y6.at.not
 have hw:∀ q,S q→w'.heap[q]? = w.heap[q]?:=fun q hq=>hk.block q (h.bound q hq) (fun e=>tV (e ▸ hq))
 refine ⟨h.tmps,h.defers,fun t=>(h.eJ t).mono (fun _ x=>x) hw (fun _ _ x=>x),fun κ' b'' Hf=>?_,fun κ1 κ2 b1 b2 g' c c' h1 h2 h3 h4=>?_,fun κ' b'' g' c h1 h2=>?_,h.fA,h.fresh,fun q hq=>Nat.lt_of_lt_of_le (h.bound q hq) hk.size,?_⟩
 ·simp only [M.set] at Hf
  by_cases c:κ'=κ
  ·simp only [c,if_true,Option.some.injEq] at Hf
   subst Hf
   rw [c,hμ]
   exact hb.ok
  ·simp only [c,if_false] at Hf
   have hm:=h.mem κ' b'' Hf
   refine hm.mono (fun _ x=>x) hw (fun _ _ x=>x) (fun g' cc e=>?_)
   have hmm:=hm
   rw [e] at hmm
   exact ⟨hk.block g' hmm.at.lt (fun eg=>c (h.inj κ' κ b'' b g' cc cap Hf hκ e (by rw [eg]; exact hμ))),hmm.at.not⟩
 ·have q1:∃ x,A.lb κ1=some x:=by
   simp only [M.set] at h1
   by_cases c:κ1=κ
   ·rw [c]; exact ⟨b,hκ⟩
   ·simp only [c,if_false] at h1; exact ⟨_,h1⟩
  have q2:∃ x,A.lb κ2=some x:=by
   simp only [M.set] at h2
   by_cases c:κ2=κ
   ·rw [c]; exact ⟨b,hκ⟩
   ·simp only [c,if_false] at h2; exact ⟨_,h2⟩
  obtain ⟨x1,q1⟩:=q1
  obtain ⟨x2,q2⟩:=q2
  exact h.inj κ1 κ2 x1 x2 g' c c' q1 q2 h3 h4
 ·have q1:∃ x,A.lb κ'=some x:=by
   simp only [M.set] at h1
   by_cases c:κ'=κ
   ·rw [c]; exact ⟨b,hκ⟩
   ·simp only [c,if_false] at h1; exact ⟨_,h1⟩
  obtain ⟨x1,q1⟩:=q1
  exact h.own κ' x1 g' c q1 h2
 ·refine h.kept.trans hk (fun q hq e=>?_)
  subst e
  rcases h.own κ b q cap hκ hμ with h1 | h1
  ·omega
  ·exact h1
def World.Ev (w:World) (r:Nat) (o:Obj):World:={ w with heap:=w.heap.setIfInBounds r o }
def QN:Obj→Bool
 | .cells _ _ _=>false
 | _=>true
theorem vr {P:Program} {r:Nat} {o:Obj} (h:w.heap[r]? = some o) (hn:QN o=true:=by rfl):(getObj r).run P w=.ok o w:=by
 cases o <;> first | (simp [QN] at hn; done) | simp [getObj,Sem.run,h]
theorem Tl {P:Program} {r:Nat} {x:Obj} (o:Obj) (h:w.heap[r]? = some x) (hn:QN x=true:=by rfl):(setObj r o).run P w=.ok () (World.Ev w r o):=by
 cases x <;> first | (simp [QN] at hn; done) | simp [setObj,Sem.run,h,World.Ev]
theorem vd (r:Nat) (o:Obj):Kept w (World.Ev w r o) (fun q=>q=r):=⟨rfl,rfl,rfl,by simp [World.Ev],fun q _ hq=>by
 have:¬ r=q:=fun e=>hq e.symm
 simp [World.Ev,Array.getElem?_setIfInBounds,this]⟩
theorem Kr {r:Nat} {x:Obj} (o:Obj) (h:w.heap[r]? = some x):(World.Ev w r o).heap[r]? = some o:=by
 have hr:=(Array.getElem?_eq_some_iff.1 h).1
 simp [World.Ev,hr]
def K0:Value→Value→Bool
 | .int k a,.int k' b=>decide (k=k')&&!(a == b)
 | _,_=>false
theorem K1 {kk:IntKind} {kv:Value}:∀ (es:List MapEntry) (i:Nat),(∀ e,e∈es→K0 kv e.key=true)→(∃ k n,kv=.int k n)→Instr.findNow (.int kk) kv es i=some none
 | [],_,_,_=>rfl
 | e :: es,i,h,hv=>by
  have h1:=h e (by simp)
  obtain ⟨k,n,rfl⟩:=hv
  have ih:=K1 (kk:=kk) es (i+1) (fun x hx=>h x (by simp [hx])) ⟨k,n,rfl⟩
  cases hk:e.key with
  | int k' m =>
   rw [hk] at h1
   simp only [K0,Bool.and_eq_true,decide_eq_true_eq,Bool.not_eq_true'] at h1
   obtain ⟨rfl,h2⟩:=h1
   simp only [Instr.findNow,Instr.sameNow,hk,if_true,h2]
   exact ih
  | _=>rw [hk] at h1; simp [K0] at h1
structure R where
 v:AV
 ro:List (Nat × bQ)
 mem:List (Nat × bQ)
 fU:List (Nat × bQ)
 ob:Ob
theorem rL {P:Program} {b:Bool} {kt:TypeId} {ik kk:IntKind} {n:Int} (X6:P.underlying kt=some (.int ik)) (q:Nat):(Instr.checkKey b (q+1) kt (.int kk n)).run P w=.ok () w:=by
 rw [Instr.checkKey]
 simp [run_underlying X6]
theorem K2 {P:Program} {t kt et:TypeId} {ik kk:IntKind} {n0:Int} {g clock:Nat} {cur:Array MapEntry} {x:Value} (hu:P.underlying t=some (.map kt et)) (X6:P.underlying kt=some (.int ik)) (hg:w.heap[g]? = some (.map cur clock)) (hf:Instr.findNow (.int ik) (.int kk n0) cur.toList 0=some none) :
  (Instr.mapUpdate t (.map (some g)) (.int kk n0) x).run P w=.ok () (World.Ev w g (.map (cur.push { key:=.int kk n0,val:=x,born:=clock }) (clock+1))):=by
 unfold Instr.mapUpdate
 simp only [Sem.run_bind,run_underlying hu,Result.andThen_ok,vr hg,rL X6 9999,Instr.findKey,run_underlying X6,hf,Sem.run_pure,Tl _ hg]
def K3 (T:List (Nat × TI)) (lb:List (Nat × bQ)) (ρ:Operand→Option AV) (dst:Option Nat) (quiet:Bool):Op→Option R
 | .makeMap _ none=>(match quiet,dst with
  | false,some d=>some ⟨.yC d,[],[],[(d,.mp 0 fun _=>(.bool false,default))],.tt⟩
  | _,_=>none)
 | .insert t m k x=>(match quiet,dst,ρ m,ρ k,ρ x,look T t with
  | false,none,some (.yC κ),some (.d (.v (.int kk a))),some (.d xd),some { kind:=.map kt _,.. }=>(match look lb κ,look T kt with
   | some (.mp n f),some { kind:=.int _,.. }=>some ⟨.any,[],[(κ,.mp n f)],[(κ,.mp (n+1) fun q=>if q < n then f q else (.int kk a,xd))],.be ((List.range n).all fun i=>K0 (.int kk a) (f i).1) true⟩
   | _,_=>none)
  | _,_,_,_,_,_=>none)
 | .range t m=>(match quiet,dst,ρ m,look T t with
  | false,some d,some (.yC κ),some { kind:=.map _ _,.. }=>(match look lb κ with
   | some (.mp n f)=>bif Nat.beq d κ then none else some ⟨.ptr d 0,[(κ,.mp n f)],[],[(d,.it κ n [])],.tt⟩
   | _=>none)
  | _,_,_,_=>none)
 | .entry it=>(match ρ it with
  | some (.ptr κi 0)=>(match look lb κi with
   | some (.it κ n (i :: s))=>(match look lb κ with
    | some (.mp n' f)=>some ⟨.fb [.d (.v (f i).1),.d (f i).2],[(κi,.it κ n (i :: s)),(κ,.mp n' f)],[],[],(Ob.ne n n').and (.pr (i < n))⟩
    | _=>none)
   | _=>none)
  | _=>none)
 | .slice t x none (some h) none=>(match quiet,dst,ρ x,ρ h,look T t with
  | false,some d,some (.own κ n),some (.d (.v (.int _ hh))),some { kind:=.slice e,.. }=>(match look lb κ,look T e with
   | some (.row e' k n' f),some i=>bif Nat.beq d κ||!Nat.beq e e'||!Nat.beq k i.size then none else some ⟨.own d hh.toNat,[],[(κ,.row e' k n' f)],[(d,.row e' k hh.toNat f)],(Ob.ne n n').and (.pr (0≤hh∧hh≤n))⟩
   | _,_=>none)
  | false,some _,some (.d (.v (.slice none 0 0))),some (.d (.v (.int _ hh))),some { kind:=.slice e,.. }=>(match look T e with
   | some _=>some ⟨.d (.v (.slice none 0 0)),[],[],[],.pr (0≤hh∧hh≤0)⟩
   | none=>none)
  | _,_,_,_,_=>none)
 | .call { callee:=.builtin .cap,args:=xs,argTypes:=ts }=>(match tW ρ xs.toList,ts.toList with
  | some [.d (.v (.slice none 0 0))],[t]=>(match look T t with
   | some { kind:=.slice _,.. }=>some ⟨.d (.v (.int .i64 0)),[],[],[],.tt⟩
   | _=>none)
  | _,_=>none)
 | .call { callee:=.builtin .append,args:=xs,argTypes:=ts }=>(match quiet,dst,tW ρ xs.toList,ts.toList with
  | false,some d,some [.d (.v (.slice none 0 0)),.d (.v (.int .i64 n))],[t,t']=>(match look T t,look T t' with
   | some { kind:=.slice e,.. },some { kind:=.int .i64,.. }=>(match look T e with
    | some i=>some ⟨.own d n.toNat,[],[],[(d,.row e i.size n.toNat fun _=>i.zero)],.pr (0≤n∧n.toNat≤maxLen∧n.toNat * i.bytes≤140737488355328)⟩
    | none=>none)
   | _,_=>none)
  | _,_,_,_=>none)
 | _=>none
theorem Tm {o:Oper} {d:Nat} {v:AV} {x:Value} {b:bQ} {w1:World} {need:List (Nat × AV)} {ro:List (Nat × bQ)} {gs:List (Nat × Bool)} (hs:dA C A a w S μ ν) (eF:o.dst=some d) (hdt:d < C.nt) (hf:km A d) (hk:d ∉ b.keys)
  (g5:(execOp a.eval o).run C.P w=.ok (.value x) w1) (hk1:Kept w w1 (fun q=>q=w.heap.size)) (hb:∀ c,eA w1 S μ b w.heap.size c) (hv:∀ μ',μ' d=some (some (w.heap.size,0))→Rel w1 S μ' ν v x) :
  o.wp C.P a w (fun a' w'=>∃ S' μ',dA C ((Tr.mk need (some d) v ro [] [(d,b)] gs).apply A) a' w' S' μ' ν) (fun _ _ _=>False):=by
 unfold Oper.wp
 rw [g5]
 have tV:¬ S w.heap.size:=fun h=>by have:=hs.bound _ h; omega
 have h1:=hs.X2 hf (blk:=b) (b:=w.heap.size) (cap:=0) hk hk1 tV (fun κ' b' g' c q1 q2 e'=>by
  have:=hs.mem κ' b' q1
  rw [q2] at this
  have:=this.at.lt
  omega) (.inl hs.kept.size) (hb 0)
 have h2:=h1.put (dst:=some d) (x:=v) (v:=x) (fun t ht=>by cases ht; exact hdt) (hv _ (by simp [dC]))
 rw [rJ]
 exact ⟨S,_,by rw [eF]; exact h2⟩
theorem QO {T:List (Nat × TI)} (hT:og C.P T) (hs:dA C A a w S μ ν) {lb:List (Nat × bQ)} {o:Oper} {ρ:Operand→Option AV} (hρ:∀ x y,ρ x=some y→Rel w S μ ν y (a.eval x)) (hd:∀ t,o.dst=some t→t < C.nt) {quiet:Bool} {r:R}
  (h:K3 T lb ρ o.dst quiet o.op=some r) (nr:∀ p,p∈r.ro→A.lb p.1=some p.2) (kr:∀ p,p∈r.mem→A.lb p.1=some p.2) (cm:r.ob.den) (yD:∀ κ,κ∈(r.fU.map (·.1)).filter (fun k=>!(r.mem.map (·.1)).contains k)→km A κ) (need:List (Nat × AV)) (gs:List (Nat × Bool)) :
  o.wp C.P a w (fun a' w'=>∃ S' μ',dA C ((Tr.mk need o.dst r.v r.ro r.mem r.fU gs).apply A) a' w' S' μ' ν) (fun _ _ _=>False):=by
 unfold K3 at h
 split at h
 all_goals rename_i ho
 ·-- makeMap
  split at h
  ·rename_i d eF
   simp only [Option.some.injEq] at h
   subst h
   rw [eF]
   have tV:¬ S w.heap.size:=fun h=>by have:=hs.bound _ h; omega
   refine Tm hs eF (hd d eF) (yD d (by simp)) (by simp [bQ.keys]) (x:=.map (some w.heap.size)) (w1:=w.alloc (.map #[] 0)) ?_ (pH w _ _) (fun c=>⟨#[],heap_alloc_new w _,tV,rfl,fun i hi=>absurd hi (by omega)⟩) (fun μ' hμ=>.yC hμ)
   simp [execOp,ho,Instr.makeMap]
  ·cases h
 ·-- insert
  rename_i t m k x
  split at h
  ·rename_i κ kk n0 xd kt _ _ _ _ _ eF hm hk hx ht
   split at h
   ·rename_i n f ik _ _ _ _ hl hkt
    simp only [Option.some.injEq] at h
    subst h
    rw [eF]
    have hκ:=kr (κ,.mp n f) (by simp)
    have Ny:=hs.mem κ _ hκ
    have hv:=hρ _ _ hm
    generalize hmv:a.eval m=mv at hv
    cases hv with
    | @yC _ g cap hμ =>
     rw [hμ] at Ny
     obtain ⟨cur,hg,tV,jT,ck⟩:=Ny.at
     obtain ⟨ti,z,F⟩:=aH (hT _ _ ht)
     obtain ⟨tj,zj,G⟩:=aH (hT _ _ hkt)
     have hu:=FC F.kind
     have X6:=vp G.kind
     have hkv:=eT (hρ _ _ hk)
     have cm:(List.range n).all (fun i=>K0 (.int kk n0) (f i).1)=true:=cm
     simp only [List.all_eq_true,List.mem_range] at cm
     have qn:Instr.findNow (.int ik) (.int kk n0) cur.toList 0=some none:=K1 _ 0 (fun e he=>by
      obtain ⟨q,hq,rfl⟩:=List.getElem_of_mem he
      have hqn:q < n:=by simpa [jT] using hq
      obtain ⟨e,h1,h2,_⟩:=ck q hqn
      have:cur.toList[q]=e:=by
       have:=Array.getElem?_eq_some_iff.1 h1
       simpa using this.2
      rw [this,h2]
      exact cm q hqn) ⟨kk,n0,rfl⟩
     have g5:(execOp a.eval o).run C.P w=.ok .skip (World.Ev w g (.map (cur.push { key:=.int kk n0,val:=a.eval x,born:=n }) (n+1))):=by
      have h1:=K2 (x:=a.eval x) hu X6 hg qn
      unfold execOp
      rw [ho]
      simp only [hmv,hkv,Sem.run_bind,h1,Result.andThen_ok,Sem.run_pure]
     unfold Oper.wp
     rw [g5]
     refine ⟨S,μ,?_⟩
     rw [mK,eF]
     refine hs.QM hκ hμ (vd g _) ⟨_,Kr _ hg,tV,by simp [jT],fun i hi=>?_⟩
     have hw:∀ q,S q→(World.Ev w g (.map (cur.push { key:=.int kk n0,val:=a.eval x,born:=n }) (n+1))).heap[q]? = w.heap[q]?:=fun q hq=>(vd g _).block q (hs.bound q hq) (fun e=>tV (e ▸ hq))
     by_cases c:i < n
     ·obtain ⟨e,h1,h2,h3,h4,h5⟩:=ck i c
      refine ⟨e,?_,by simp only [c,if_true]; exact h2,h3,h4,by simp only [c,if_true]; exact h5.mono (fun _ x=>x) hw⟩
      rw [Array.getElem?_push,if_neg (by omega)]
      exact h1
     ·obtain rfl:i=n:=by omega
      refine ⟨_,by rw [Array.getElem?_push,if_pos jT.symm],by simp only [c,if_false],rfl,rfl,?_⟩
      simp only [c,if_false]
      exact (jd.1 (hρ _ _ hx)).mono (fun _ x=>x) hw
   ·cases h
  ·cases h
 ·-- range
  rename_i t m
  split at h
  ·rename_i d κ _ _ _ _ _ _ eF hm ht
   split at h
   ·rename_i n f hl
    rw [Bool.cond_eq_ite] at h
    split at h
    ·cases h
    ·rename_i A9
     simp only [Option.some.injEq] at h
     subst h
     rw [eF]
     have hκ:=nr (κ,.mp n f) (by simp)
     have Ny:=hs.mem κ _ hκ
     have hv:=hρ _ _ hm
     generalize hmv:a.eval m=mv at hv
     cases hv with
     | @yC _ g cap hμ =>
      rw [hμ] at Ny
      obtain ⟨cur,hg,ajg,jT,ck⟩:=Ny.at
      obtain ⟨ti,z,F⟩:=aH (hT _ _ ht)
      have hu:=FC F.kind
      have tV:¬ S w.heap.size:=fun h=>by have:=hs.bound _ h; omega
      have hdk:d≠κ:=fun e=>by rw [e,Nat.beq_refl] at A9; exact A9 rfl
      refine Tm hs eF (hd d eF) (yD d (by simp)) (by simp [bQ.keys,hdk]) (x:=.pointer (some ⟨w.heap.size,0,none⟩)) (w1:=w.alloc (.mapIter (some g) n #[] n)) ?_ (pH w _ _) (fun c=>⟨g,cap,hμ,heap_alloc_new w _,tV⟩) (fun μ' hμ'=>.ptr hμ')
      simp [execOp,ho,hmv,Instr.range,run_underlying hu,vr hg]
   ·cases h
  ·cases h
 ·-- entry
  rename_i it
  split at h
  ·rename_i κi hit
   split at h
   ·rename_i κ n i s hli
    split at h
    ·rename_i n' f hl
     simp only [Option.some.injEq] at h
     subst h
     have cm:((Ob.ne n n').and (.pr (i < n))).den:=cm
     obtain ⟨o1,o2⟩:=Ob.db cm
     have o1:n=n':=o1
     subst o1
     have o2:i < n:=o2
     have hκi:=nr (κi,.it κ n (i :: s)) (by simp)
     have hκ:=nr (κ,.mp n f) (by simp)
     have hv:=hρ _ _ hit
     generalize hiv:a.eval it=iv at hv
     cases hv with
     | @ptr _ _ gi ci hμi =>
      have hmi:=hs.mem κi _ hκi
      rw [hμi] at hmi
      obtain ⟨mg,c,hμ,hgi,afP⟩:=hmi.at
      have Ny:=hs.mem κ _ hκ
      rw [hμ] at Ny
      obtain ⟨cur,hg,tV,jT,ck⟩:=Ny.at
      obtain ⟨e,h1,h2,h3,h4,h5⟩:=ck i o2
      have qn:cur.find? (fun x=>x.born == i)=some e:=by
       rw [Array.find?_eq_some_iff_getElem]
       have hi:i < cur.size:=by omega
       refine ⟨by simp [h4],i,hi,(Array.getElem?_eq_some_iff.1 h1).2,fun j hj=>?_⟩
       obtain ⟨e',q1,_,_,q4,_⟩:=ck j (by omega)
       have:cur[j]=e':=(Array.getElem?_eq_some_iff.1 q1).2
       rw [this,q4]
       simp
       omega
      refine mI (τ:=Tr.mk need o.dst (.fb [.d (.v (f i).1),.d (f i).2]) [(κi,.it κ n (i :: s)),(κ,.mp n f)] [] [] gs) hs hd (x:=.tuple #[e.key,e.val]) ?_ (.fb rfl (fun q hq=>?_)) rfl rfl rfl
      ·simp [execOp,ho,hiv,Instr.entry,vr hgi,vr hg,qn]
      ·match q with
       | 0=>simpa [h2] using g7 (w:=w) (S:=S) (μ:=μ) (ν:=ν) h3
       | 1=>simpa using Rel.d (μ:=μ) (ν:=ν) h5
       | q+2=>simp at hq; omega
    ·cases h
   ·cases h
  ·cases h
 ·-- slice
  rename_i t x hh0
  split at h
  ·rename_i d κ n kk hh e _ _ _ _ eF hx hhi ht
   split at h
   ·rename_i e' k n' f i hl hie
    rw [Bool.cond_eq_ite] at h
    split at h
    ·cases h
    ·rename_i A9
     simp only [Bool.or_eq_true,Bool.not_eq_true',not_or,Bool.not_eq_false] at A9
     simp only [Option.some.injEq] at h
     subst h
     rw [eF]
     have cm:((Ob.ne n n').and (.pr (0≤hh∧hh≤n))).den:=cm
     obtain ⟨o1,o2,o3⟩:=Ob.db cm
     have o1:n=n':=o1
     subst o1
     have hdk:d≠κ:=fun e=>A9.1.1 (by rw [e,Nat.beq_refl])
     have hκ:=kr (κ,.row e' k n f) (by simp)
     have Ny:=hs.mem κ _ hκ
     obtain ⟨ti,z,F⟩:=aH (hT _ _ ht)
     have hu:=e9 F.kind
     obtain ⟨te,ze,G⟩:=aH (hT _ _ hie)
     have Ji:(sizeOf e).run C.P w=.ok i.size w:=by simp [sizeOf,typeInfo,G.info,G.size]
     have hhv:=eT (hρ _ _ hhi)
     have hf:km A d:=yD d (by simp [hdk])
     have hv:=hρ _ _ hx
     generalize hxv:a.eval x=xv at hv
     have X7:=hs.drop κ
     have hfd:=hf.drop κ
     have q1:∀ (k:IntKind) (i:Int) (y:Nat) (c:BoundsCode),0≤i→i≤y→(Instr.sliceBound (.int k i) y c).run C.P w=.ok i.toNat w:=fun k i y c h0 h1=>run_sliceBound w k i y c h0 h1
     cases hv with
     | @eI _ ad hμ =>
      have ahI:hh=0:=by omega
      subst ahI
      unfold Oper.wp
      have g5:(execOp a.eval o).run C.P w=.ok (.value (.slice ad 0 0)) w:=by
       simp (disch:=omega) [execOp,ho,hxv,hhv,Instr.sliceAt,run_underlying hu,Instr.slice,Instr.sliceBounds,q1,Ji]
      rw [g5]
      have h1:=X7.KR hfd e' k f
      have h2:=h1.put (dst:=some d) (x:=.own d 0) (v:=.slice ad 0 0) (fun t ht=>by cases ht; exact hd d eF) (.eI (by simp [dC]))
      rw [zR hdk]
      exact ⟨S,_,by rw [eF]; exact h2⟩
     | @own _ _ g cap hμ =>
      rw [hμ] at Ny
      have tV:=Ny.at.not
      obtain ⟨cur,hg,_,h3,h4,h5,h6⟩:=Ny.at
      unfold Oper.wp
      have Zd:hh.toNat≤cap:=by omega
      have g5:(execOp a.eval o).run C.P w=.ok (.value (.slice (some ⟨g,0,none⟩) hh.toNat cap)) w:=by
       simp (disch:=omega) [execOp,ho,hxv,hhv,Instr.sliceAt,run_underlying hu,Instr.slice,Instr.sliceBounds,q1,Ji,iO]
      rw [g5]
      have h1:=X7.X2 hfd (blk:=.row e' k hh.toNat f) (b:=g) (cap:=cap) (w':=w) (by simp [bQ.keys]) (Kept.refl _ _) tV (fun κ' b' g' c q1 q2 e'=>by
       simp only [M.set] at q1
       by_cases cc:κ'=κ
       ·simp [cc] at q1
       ·simp only [cc,if_false] at q1
        subst e'
        exact cc (hs.inj κ' κ b' _ g' c cap q1 hκ q2 hμ)) (hs.own κ _ g cap hκ hμ) ⟨cur,hg,tV,h3,Zd,h5,fun q hq=>h6 q (by omega)⟩
      have h2:=h1.put (dst:=some d) (x:=.own d hh.toNat) (v:=.slice (some ⟨g,0,none⟩) hh.toNat cap) (fun t ht=>by cases ht; exact hd d eF) (.own (by simp [dC]))
      rw [zR hdk]
      exact ⟨S,_,by rw [eF]; exact h2⟩
   ·cases h
  ·rename_i d kk hh e _ _ _ _ eF hx hhi ht
   split at h
   ·rename_i i hie
    simp only [Option.some.injEq] at h
    subst h
    have cm:0≤hh∧hh≤0:=cm
    obtain rfl:hh=0:=by omega
    obtain ⟨ti,z,F⟩:=aH (hT _ _ ht)
    have hu:=e9 F.kind
    obtain ⟨te,ze,G⟩:=aH (hT _ _ hie)
    have Ji:(sizeOf e).run C.P w=.ok i.size w:=by simp [sizeOf,typeInfo,G.info,G.size]
    have hhv:=eT (hρ _ _ hhi)
    have hxv:=dg rfl (hρ _ _ hx)
    have q1:∀ (k:IntKind) (i:Int) (y:Nat) (c:BoundsCode),0≤i→i≤y→(Instr.sliceBound (.int k i) y c).run C.P w=.ok i.toNat w:=fun k i y c h0 h1=>run_sliceBound w k i y c h0 h1
    refine mI (τ:=Tr.mk need o.dst (.d (.v (.slice none 0 0))) [] [] [] gs) hs hd (x:=.slice none 0 0) ?_ (g7 rfl) rfl rfl rfl
    simp (disch:=omega) [execOp,ho,hxv,hhv,Instr.sliceAt,run_underlying hu,Instr.slice,Instr.sliceBounds,q1,Ji]
   ·cases h
  ·cases h
 ·-- cap
  rename_i xs ts
  split at h
  ·rename_i t hxs hts
   split at h
   ·rename_i _ _ _ _ _ ht
    simp only [Option.some.injEq] at h
    subst h
    obtain ⟨ti,z,F⟩:=aH (hT _ _ ht)
    have hu:=e9 F.kind
    have mb:=mJ hρ xs.toList _ hxs
    have hx0:xs.map a.eval = #[.slice none 0 0]:=by
     have hl:(xs.map a.eval).toList.length=1:=by simpa using mb.1
     have h0:=mb.2 0 (by simp)
     have h0:=dg rfl h0
     apply Array.ext'
     rw [Array.toList_map] at hl ⊢
     match hq:xs.toList.map a.eval,hl with
     | [y],_=>rw [hq] at h0; simpa using h0
    have aaD:ts = #[t]:=by cases ts; simpa using hts
    refine mI (τ:=Tr.mk need o.dst (.d (.v (.int .i64 0))) [] [] [] gs) hs hd (x:=.int .i64 0) ?_ (g7 rfl) rfl rfl rfl
    simp [execOp,ho,resolve,invoke,builtin,hx0,aaD,Builtin.cap_,run_underlying hu,goInt]
   ·cases h
  ·cases h
 ·-- append of aiZ
  rename_i xs ts
  split at h
  ·rename_i d n t t' eF hxs hts
   split at h
   ·rename_i e _ _ _ _ _ _ _ _ ht ht'
    split at h
    ·rename_i i hie
     simp only [Option.some.injEq] at h
     subst h
     have cm:0≤n∧n.toNat≤maxLen∧n.toNat * i.bytes≤140737488355328:=cm
     obtain ⟨o1,o2,o3⟩:=cm
     rw [eF]
     obtain ⟨ti,z,F⟩:=aH (hT _ _ ht)
     have hu:=e9 F.kind
     obtain ⟨ti',z',F'⟩:=aH (hT _ _ ht')
     have hu':=vp F'.kind
     obtain ⟨te,ze,G⟩:=aH (hT _ _ hie)
     have mb:=mJ hρ xs.toList _ hxs
     have hx0:xs.map a.eval = #[.slice none 0 0,.int .i64 n]:=by
      have hl:(xs.map a.eval).toList.length=2:=by simpa using mb.1
      have h0:=dg rfl (mb.2 0 (by simp))
      have h1:=dg rfl (mb.2 1 (by simp))
      apply Array.ext'
      rw [Array.toList_map] at hl ⊢
      match hq:xs.toList.map a.eval,hl with
      | [y,y'],_=>rw [hq] at h0 h1; simp only [List.getD_cons_zero,List.getD_cons_succ] at h0 h1; rw [h0,h1]
     have aaD:ts = #[t,t']:=by cases ts; simpa using hts
     have hml:n≤9223372036854775807:=by have:=o2; simp only [maxLen] at this; omega
     have hwr:IntKind.i64.wrap n=n:=IntWalk.i64_in n ⟨by omega,hml⟩
     obtain ⟨q1,q2⟩:=ko (w:=w) (S:=S) G.zok
     have hzl:ze.cells.size=i.size:=by have:=q1; simp only [Array.length_toList] at this; rw [this,G.Eu]
     have hf:km A d:=yD d (by simp)
     by_cases h0:n=0
     ·subst h0
      have g5:(execOp a.eval o).run C.P w=.ok (.value (.slice none 0 0)) w:=by
       simp [execOp,ho,resolve,invoke,builtin,hx0,aaD,Builtin.append_,run_underlying hu,run_underlying hu',sizeOf,typeInfo,G.info,asInt,asIntOf,hwr]
      unfold Oper.wp
      rw [g5]
      have h1:=hs.KR hf e i.size (fun _=>i.zero)
      have h2:=h1.put (dst:=some d) (x:=.own d 0) (v:=.slice none 0 0) (fun t ht=>by cases ht; exact hd d eF) (.eI (by simp [dC]))
      rw [rJ]
      exact ⟨S,_,by rw [eF]; exact h2⟩
     ·have hn1:0 < n.toNat:=by omega
      have hge:=grownCap_ge w n.toNat 0 e
      have SN:grownCap w n.toNat 0 e≤maxLen:=grownCap_le_maxLen w n.toNat 0 e o2
      have h48:¬ (281474976710656 < Builtin.nextslicecap n.toNat 0 * te.bytes):=by rw [nextslicecap_zero hn1,G.bytes]; omega
      have afQ:¬ (281474976710656 < n * (te.bytes:Int)):=by
       rw [G.bytes]
       have h1:((n.toNat * i.bytes:Nat):Int)≤140737488355328:=by omega
       rw [Int.natCast_mul,Int.toNat_of_nonneg o1] at h1
       omega
      have g5:∃ cells:Array Value,(execOp a.eval o).run C.P w=.ok (.value (.slice (some ⟨w.heap.size,0,none⟩) n.toNat (grownCap w n.toNat 0 e))) (w.drew.alloc (.cells cells e))∧cells=Builtin.zeroCells ze.cells n.toNat++Builtin.zeroCells ze.cells (grownCap w n.toNat 0 e - n.toNat):=by
       refine ⟨_,?_,rfl⟩
       have hn0:¬ n.toNat=0:=by omega
       have acz:¬ n < 0:=by omega
       have hle:¬ n≤0:=by omega
       have h63:¬ (9223372036854775807 < n):=by omega
       have hmx:max n 0=n:=by omega
       by_cases jT:i.size=0
       ·have hz0:ze.cells.size=0:=by omega
        have hze:Builtin.zeroCells ze.cells n.toNat = #[]:=by simp [Builtin.zeroCells,hz0]
        rw [hze]
        simp [execOp,ho,resolve,invoke,builtin,hx0,aaD,Builtin.append_,run_underlying hu,run_underlying hu',sizeOf,typeInfo,G.info,asInt,asIntOf,hwr,acz,hle,h48,afQ,h63,hmx,Question.forced,Builtin.firstCells,newRow,grownCap,zeroValue,G.zero,G.size,jT]
       ·simp [execOp,ho,resolve,invoke,builtin,hx0,aaD,Builtin.append_,run_underlying hu,run_underlying hu',sizeOf,typeInfo,G.info,asInt,asIntOf,hwr,acz,hle,h48,afQ,h63,hmx,Question.forced,Builtin.firstCells,newRow,grownCap,zeroValue,G.zero,G.size]
        intro hc
        rcases Nat.mul_eq_zero.1 hc with hc | hc
        ·exact absurd hc hn0
        ·exact absurd hc jT
      obtain ⟨cells,g5,QP⟩:=g5
      have Zd:cells.size=grownCap w n.toNat 0 e * i.size:=by
       rw [QP]
       simp only [Array.size_append,size_zeroCells,hzl,← Nat.add_mul]
       congr 1
       omega
      unfold Oper.wp
      rw [g5]
      have tV:¬ S w.heap.size:=fun h=>by have:=hs.bound _ h; omega
      have hw:∀ q,S q→(w.drew.alloc (.cells cells e)).heap[q]? = w.heap[q]?:=fun q hq=>heap_alloc_old w.drew _ (hs.bound q hq)
      have h1:=hs.X2 hf (blk:=.row e i.size n.toNat fun _=>i.zero) (b:=w.heap.size) (cap:=grownCap w n.toNat 0 e) (w':=w.drew.alloc (.cells cells e)) (by simp [bQ.keys]) ⟨rfl,rfl,rfl,by simp,fun k hk _=>heap_alloc_old w.drew _ hk⟩ tV (fun κ' b' g' c q1 q2 e'=>by
       have:=hs.mem κ' b' q1
       rw [q2] at this
       have:=this.at.lt
       omega) (.inl hs.kept.size) ⟨cells,heap_alloc_new w.drew _,tV,Zd,hge,SN,fun q hq=>⟨G.Eu,fun j hj=>?_⟩⟩
      ·have h2:=h1.put (dst:=some d) (x:=.own d n.toNat) (v:=.slice (some ⟨w.heap.size,0,none⟩) n.toNat (grownCap w n.toNat 0 e)) (fun t ht=>by cases ht; exact hd d eF) (.own (by simp [dC]))
       rw [rJ]
       exact ⟨S,_,by rw [eF]; exact h2⟩
      ·have gJ:q * i.size+j < n.toNat * i.size:=by
        calc q * i.size+j < q * i.size+i.size:=by omega
         _=(q+1) * i.size:=by rw [Nat.add_mul,Nat.one_mul]
         _≤n.toNat * i.size:=Nat.mul_le_mul_right _ hq
       have IA:j < ze.cells.size:=by omega
       have Tk:(q * i.size+j) % ze.cells.size=j:=by rw [hzl,Nat.mul_comm,Nat.mul_add_mod,Nat.mod_eq_of_lt hj]
       refine ⟨ze.cells[j],?_,?_⟩
       ·rw [QP,Array.getElem?_append_left (by rw [size_zeroCells,hzl]; exact gJ)]
        have Nu:q * i.size+j < n.toNat * ze.cells.size:=by rw [hzl]; exact gJ
        simp only [Builtin.zeroCells,Array.getElem?_map,Array.getElem?_range,Nu,if_true,Option.map_some,Tk]
        rw [getElem!_pos ze.cells j IA]
       ·have:=(q2 j (by rw [G.Eu]; exact hj)).mono (S':=S) (w':=w.drew.alloc (.cells cells e)) (fun _ x=>x) hw
        rw [show ze.cells.toList.getD j undef=ze.cells[j] from by simp [List.getD,IA]] at this
        exact this
    ·cases h
   ·cases h
  ·cases h
 ·cases h
theorem Ze {T:List (Nat × TI)} {lb:List (Nat × bQ)} {ρ:Operand→Option AV} {dst:Option Nat} {quiet:Bool} {op:Op} {r:R} (h:K3 T lb ρ dst quiet op=some r) :
  (∀ p,p∈r.ro→look lb p.1=some p.2)∧(∀ p,p∈r.mem→look lb p.1=some p.2)∧(quiet=true→r.mem=[]∧r.fU=[]):=by
 unfold K3 at h
 have nil:∀ {p:Nat × bQ},p∈([]:List (Nat × bQ))→look lb p.1=some p.2:=fun h=>by cases h
 have one:∀ {κ:Nat} {b:bQ},look lb κ=some b→∀ p,p∈[(κ,b)]→look lb p.1=some p.2:=fun h p hp=>by simp only [List.mem_singleton] at hp; subst hp; exact h
 split at h
 ·split at h
  ·simp only [Option.some.injEq] at h; subst h; exact ⟨fun _=>nil,fun _=>nil,fun hq=>by cases hq⟩
  ·cases h
 ·split at h
  ·split at h
   ·rename_i hl _; simp only [Option.some.injEq] at h; subst h; exact ⟨fun _=>nil,one hl,fun hq=>by cases hq⟩
   ·cases h
  ·cases h
 ·split at h
  ·split at h
   ·rename_i hl
    rw [Bool.cond_eq_ite] at h
    split at h
    ·cases h
    ·simp only [Option.some.injEq] at h; subst h; exact ⟨one hl,fun _=>nil,fun hq=>by cases hq⟩
   ·cases h
  ·cases h
 ·split at h
  ·split at h
   ·rename_i hli
    split at h
    ·rename_i hl
     simp only [Option.some.injEq] at h; subst h
     exact ⟨fun p hp=>by
      simp only [List.mem_cons,List.not_mem_nil,or_false] at hp
      rcases hp with rfl | rfl
      ·exact hli
      ·exact hl,fun _=>nil,fun _=>⟨rfl,rfl⟩⟩
    ·cases h
   ·cases h
  ·cases h
 ·split at h
  ·split at h
   ·rename_i hl _
    rw [Bool.cond_eq_ite] at h
    split at h
    ·cases h
    ·simp only [Option.some.injEq] at h; subst h; exact ⟨fun _=>nil,one hl,fun hq=>by cases hq⟩
   ·cases h
  ·split at h
   ·simp only [Option.some.injEq] at h; subst h; exact ⟨fun _=>nil,fun _=>nil,fun hq=>by cases hq⟩
   ·cases h
  ·cases h
 ·split at h
  ·split at h
   ·simp only [Option.some.injEq] at h; subst h; exact ⟨fun _=>nil,fun _=>nil,fun _=>⟨rfl,rfl⟩⟩
   ·cases h
  ·cases h
 ·split at h
  ·split at h
   ·split at h
    ·simp only [Option.some.injEq] at h; subst h; exact ⟨fun _=>nil,fun _=>nil,fun hq=>by cases hq⟩
    ·cases h
   ·cases h
  ·cases h
 ·cases h
end
def Ew:Value→Value→Bool
 | .int k a,.int k' b=>decide (k=k')&&(a == b)
 | _,_=>false
def ot (k:Value):Nat→(Nat→Value × D)→Option Nat
 | 0,_=>none
 | n+1,f=>bif Ew k (f 0).1 then some 0 else (ot k n fun i=>f (i+1)).map (· + 1)
def FD (k:Value) (n:Nat) (f:Nat→Value × D):Bool:=(ot k n f).isSome
def wT (k:Value) (n:Nat) (f:Nat→Value × D) (z:D):D:=match ot k n f with | some p=>(f p).2 | none=>z
def mpN (k:Value) (n:Nat) (f:Nat→Value × D):Nat:=match ot k n f with | some _=>n | none=>n+1
def mpF (k:Value) (x:D) (n:Nat) (f:Nat→Value × D):Nat→Value × D:=match ot k n f with
 | some p=>fun q=>if q=p then ((f q).1,x) else f q
 | none=>fun q=>if q < n then f q else (k,x)
def X8 (P:Program) (t:Nat):Option D:=match P.info? t with
 | some j=>(match j.zero with | some (.int k n)=>some (.v (.int k n)) | some (.bool b)=>some (.v (.bool b)) | _=>none)
 | none=>none
def Tn (P:Program) (T:List (Nat × TI)) (lb:List (Nat × bQ)) (ρ:Operand→Option AV) (dst:Option Nat) (quiet:Bool):Op→Option R
 | .mapUpdate t m k x=>(match quiet,dst,ρ m,ρ k,ρ x,look T t with
  | false,none,some (.yC κ),some (.d (.v (.int kk a))),some (.d xd),some { kind:=.map kt _,.. }=>(match look lb κ,look T kt with
   | some (.mp n f),some { kind:=.int _,.. }=>some ⟨.any,[],[(κ,.mp n f)],[(κ,.mp (mpN (.int kk a) n f) (mpF (.int kk a) xd n f))],.pr (∀ i,i < n→∃ b,(f i).1=.int kk b)⟩
   | _,_=>none)
  | _,_,_,_,_,_=>none)
 | .lookup t m k ok=>(match ρ m,ρ k,look T t with
  | some (.yC κ),some (.d (.v (.int kk a))),some { kind:=.map kt et,.. }=>(match look lb κ,look T kt,X8 P et with
   | some (.mp n f),some { kind:=.int _,.. },some z=>some ⟨bif ok then .fb [.d (wT (.int kk a) n f z),.d (.v (.bool (FD (.int kk a) n f)))] else .d (wT (.int kk a) n f z),[(κ,.mp n f)],[],[],.pr (∀ i,i < n→∃ b,(f i).1=.int kk b)⟩
   | _,_,_=>none)
  | some (.C8 n f),some (.d (.v (.int kk a))),some { kind:=.map kt et,.. }=>(match look T kt,X8 P et with
   | some { kind:=.int _,.. },some z=>some ⟨bif ok then .fb [.d (wT (.int kk a) n f z),.d (.v (.bool (FD (.int kk a) n f)))] else .d (wT (.int kk a) n f z),[],[],[],.pr (∀ i,i < n→∃ b,(f i).1=.int kk b)⟩
   | _,_=>none)
  | _,_,_=>none)
 | _=>none
theorem Ex {k:Value}:∀ {n:Nat} {f:Nat→Value × D},(∀ p,ot k n f=some p→p < n∧Ew k (f p).1=true)∧(ot k n f=none→∀ i,i < n→Ew k (f i).1=false)
 | 0,f=>⟨fun p h=>(by cases h),fun _ i hi=>absurd hi (by omega)⟩
 | n+1,f=>by
  have ih:=Ex (k:=k) (n:=n) (f:=fun i=>f (i+1))
  simp only [ot]
  cases hk:Ew k (f 0).1 with
  | true=>exact ⟨fun p h=>by simp only [cond_true,Option.some.injEq] at h; subst h; exact ⟨by omega,hk⟩,fun h=>(by cases h)⟩
  | false =>
   simp only [cond_false]
   refine ⟨fun p h=>?_,fun h i hi=>?_⟩
   ·cases hq:ot k n (fun i=>f (i+1)) with
    | none=>rw [hq] at h; cases h
    | some q =>
     rw [hq] at h
     simp only [Option.map_some,Option.some.injEq] at h
     subst h
     obtain ⟨h1,h2⟩:=ih.1 q hq
     exact ⟨by omega,h2⟩
   ·have hq:ot k n (fun i=>f (i+1))=none:=by
     cases hq:ot k n (fun i=>f (i+1)) with
     | none=>rfl
     | some q=>rw [hq] at h; cases h
    cases i with
    | zero=>exact hk
    | succ i=>exact ih.2 hq i (by omega)
theorem BS {ik kk:IntKind} {a:Int}:∀ (es:List MapEntry) (f:Nat→Value × D) (j:Nat),(∀ (i:Nat) (h:i < es.length),(es[i]'h).key=(f i).1∧∃ b,(f i).1=.int kk b) →
  Instr.findNow (.int ik) (.int kk a) es j=some (match ot (.int kk a) es.length f with | some p=>(es[p]?).map (fun e=>(p+j,e.val)) | none=>none)
 | [],_,_,_=>rfl
 | e :: es,f,j,h=>by
  obtain ⟨h1,b,h2⟩:=h 0 (by simp)
  have h1:e.key=(f 0).1:=h1
  have ih:=BS (ik:=ik) (kk:=kk) (a:=a) es (fun i=>f (i+1)) (j+1) (fun i hi=>h (i+1) (by simpa using hi))
  simp only [Instr.findNow,Instr.sameNow,h1,h2,if_true,List.length_cons,ot,Ew,decide_true,Bool.true_and]
  cases hab:(a == b) with
  | true=>simp
  | false =>
   simp only [ih,cond_false]
   cases hq:ot (.int kk a) es.length (fun i=>f (i+1)) with
   | none=>simp
   | some q =>
    simp only [Option.map_some,List.getElem?_cons_succ]
    congr 2
    funext e
    simp; omega
section
variable {C : Cx} {A : M} {a : Act} {w : World} {S : Nat → Prop} {μ : Mu} {ν : Nat → Bool}
theorem aaE {P:Program} {k:IntKind} {n:Int}:(Instr.keyThatStays (.int k n) (.int k n)).run P w=.ok (.int k n) w:=by
 simp [Instr.keyThatStays,Instr.sameBits]
theorem K4 {ok:Bool} {x:D} {b:Bool} {v:Value} (hv:Rel w S μ ν (.d x) v):Rel w S μ ν (bif ok then .fb [.d x,.d (.v (.bool b))] else .d x) (bif ok then .tuple #[v,.bool b] else v):=by
 cases ok with
 | false=>exact hv
 | true =>
  refine .fb rfl (fun q hq=>?_)
  match q with
  | 0=>simpa using hv
  | 1=>simpa using g7 (w:=w) (S:=S) (μ:=μ) (ν:=ν) (x:=.bool b) rfl
  | q+2=>simp at hq; omega
theorem K5 {T:List (Nat × TI)} (hT:og C.P T) {t kt et:Nat} {ik kk:IntKind} {n0:Int} {kv:Value} {z:D} {n g:Nat} {f:Nat→Value × D} {cur:Array MapEntry} {ok:Bool} {s1 b1 s2 b2:Nat} {z1 z2:List D} {q1 q2:Bool}
  (hkv:kv=.int kk n0) (ht:look T t=some { kind:=.map kt et,size:=s1,bytes:=b1,zero:=z1,eq:=q1 }) (hkt:look T kt=some { kind:=.int ik,size:=s2,bytes:=b2,zero:=z2,eq:=q2 }) (hz:X8 C.P et=some z) (cm:(Ob.pr (∀ i,i < n→∃ b,(f i).1=.int kk b)).den)
  (hg:w.heap[g]? = some (.map cur n)) (jT:cur.size=n) (ck:∀ i,i < n→∃ e,cur[i]? = some e∧e.key=(f i).1∧scalar e.key=true∧e.born=i∧Rd w S (f i).2 e.val) :
  ∃ v,(Instr.lookup t (.map (some g)) kv ok).run C.P w=.ok (bif ok then .tuple #[v,.bool (FD (.int kk n0) n f)] else v) w∧Rel w S μ ν (.d (wT (.int kk n0) n f z)) v:=by
 subst hkv
 obtain ⟨ti,z0,F⟩:=aH (hT _ _ ht)
 obtain ⟨tj,zj,G⟩:=aH (hT _ _ hkt)
 have hu:=FC F.kind
 have X6:=vp G.kind
 have cm:∀ i,i < n→∃ b,(f i).1=.int kk b:=cm
 have aef:∀ (i:Nat) (h:i < cur.toList.length),(cur.toList[i]'h).key=(f i).1∧∃ b,(f i).1=.int kk b:=fun i hi=>by
  have V6:i < n:=by simpa [jT] using hi
  obtain ⟨e,h1,h2,_⟩:=ck i V6
  have:cur.toList[i]=e:=by simpa using (Array.getElem?_eq_some_iff.1 h1).2
  rw [this]
  exact ⟨h2,cm i V6⟩
 have qn:=BS (ik:=ik) (a:=n0) cur.toList f 0 aef
 have DG:cur.toList.length=n:=by simpa using jT
 rw [DG] at qn
 have hck:=fun q=>rL (w:=w) (P:=C.P) (b:=cur.isEmpty) (kk:=kk) (n:=n0) X6 q
 obtain ⟨zv,hzv,hzr⟩:∃ zv,(zeroValue et).run C.P w=.ok zv w∧Rel w S μ ν (.d z) zv:=by
  unfold X8 at hz
  split at hz
  ·rename_i j hj
   split at hz
   ·rename_i k' n' hjz
    simp only [Option.some.injEq] at hz
    subst hz
    exact ⟨.int k' n',by simp only [zeroValue,typeInfo,Sem.run_bind,run_program,Result.andThen_ok,hj,Sem.run_pure,hjz],g7 rfl⟩
   ·rename_i b hjz
    simp only [Option.some.injEq] at hz
    subst hz
    exact ⟨.bool b,by simp only [zeroValue,typeInfo,Sem.run_bind,run_program,Result.andThen_ok,hj,Sem.run_pure,hjz],g7 rfl⟩
   ·cases hz
  ·cases hz
 cases Jl:ot (.int kk n0) n f with
 | some p =>
  obtain ⟨hp,hpk⟩:=Ex.1 p Jl
  obtain ⟨e,h1,h2,h3,h4,h5⟩:=ck p hp
  have h1l:cur.toList[p]? = some e:=by simpa using h1
  rw [Jl] at qn
  simp only [h1l,Option.map_some,Nat.add_zero] at qn
  refine ⟨e.val,?_,by simp only [wT,Jl]; exact .d h5⟩
  unfold Instr.lookup
  simp only [Sem.run_bind,run_underlying hu,Result.andThen_ok,vr hg,Sem.run_pure,hck 9999,Instr.findKey,run_underlying X6,qn,FD,Jl,Option.isSome_some]
  cases ok <;> rfl
 | none =>
  rw [Jl] at qn
  simp only at qn
  refine ⟨zv,?_,by simp only [wT,Jl]; exact hzr⟩
  unfold Instr.lookup
  simp only [Sem.run_bind,run_underlying hu,Result.andThen_ok,vr hg,Sem.run_pure,hck 9999,Instr.findKey,run_underlying X6,qn,hzv,FD,Jl,Option.isSome_none]
  cases ok <;> rfl
theorem Tp {T:List (Nat × TI)} (hT:og C.P T) (hs:dA C A a w S μ ν) {lb:List (Nat × bQ)} {o:Oper} {ρ:Operand→Option AV} (hρ:∀ x y,ρ x=some y→Rel w S μ ν y (a.eval x)) (hd:∀ t,o.dst=some t→t < C.nt) {quiet:Bool} {r:R}
  (h:Tn C.P T lb ρ o.dst quiet o.op=some r) (nr:∀ p,p∈r.ro→A.lb p.1=some p.2) (kr:∀ p,p∈r.mem→A.lb p.1=some p.2) (cm:r.ob.den) (need:List (Nat × AV)) (gs:List (Nat × Bool)) :
  o.wp C.P a w (fun a' w'=>∃ S' μ',dA C ((Tr.mk need o.dst r.v r.ro r.mem r.fU gs).apply A) a' w' S' μ' ν) (fun _ _ _=>False):=by
 unfold Tn at h
 split at h
 all_goals rename_i ho
 ·-- an entry is laid
  rename_i t m k x
  split at h
  ·rename_i κ kk n0 xd kt _ _ _ _ _ eF hm hk hx ht
   split at h
   ·rename_i n f ik _ _ _ _ hl hkt
    simp only [Option.some.injEq] at h
    subst h
    rw [eF]
    have hκ:=kr (κ,.mp n f) (by simp)
    have Ny:=hs.mem κ _ hκ
    have hv:=hρ _ _ hm
    generalize hmv:a.eval m=mv at hv
    cases hv with
    | @yC _ g cap hμ =>
     rw [hμ] at Ny
     obtain ⟨cur,hg,tV,jT,ck⟩:=Ny.at
     obtain ⟨ti,z,F⟩:=aH (hT _ _ ht)
     obtain ⟨tj,zj,G⟩:=aH (hT _ _ hkt)
     have hu:=FC F.kind
     have X6:=vp G.kind
     have hkv:=eT (hρ _ _ hk)
     have cm:∀ i,i < n→∃ b,(f i).1=.int kk b:=cm
     have aef:∀ (i:Nat) (h:i < cur.toList.length),(cur.toList[i]'h).key=(f i).1∧∃ b,(f i).1=.int kk b:=fun i hi=>by
      have V6:i < n:=by simpa [jT] using hi
      obtain ⟨e,h1,h2,_⟩:=ck i V6
      have:cur.toList[i]=e:=by simpa using (Array.getElem?_eq_some_iff.1 h1).2
      rw [this]
      exact ⟨h2,cm i V6⟩
     have qn:=BS (ik:=ik) (a:=n0) cur.toList f 0 aef
     have DG:cur.toList.length=n:=by simpa using jT
     rw [DG] at qn
     have hw:∀ o':Obj,∀ q,S q→(World.Ev w g o').heap[q]? = w.heap[q]?:=fun o' q hq=>(vd g _).block q (hs.bound q hq) (fun e=>tV (e ▸ hq))
     have hck:=fun q=>rL (w:=w) (P:=C.P) (b:=false) (kk:=kk) (n:=n0) X6 q
     cases Jl:ot (.int kk n0) n f with
     | some p =>
      obtain ⟨hp,hpk⟩:=Ex.1 p Jl
      obtain ⟨e,h1,h2,h3,h4,h5⟩:=ck p hp
      have afR:e.key=.int kk n0:=by
       obtain ⟨b,hb⟩:=cm p hp
       rw [hb] at hpk h2
       simp only [Ew,decide_true,Bool.true_and,beq_iff_eq] at hpk
       rw [h2,hpk]
      have h1l:cur.toList[p]? = some e:=by simpa using h1
      rw [Jl] at qn
      simp only [h1l,Option.map_some,Nat.add_zero] at qn
      have g5:(execOp a.eval o).run C.P w=.ok .skip (World.Ev w g (.map (cur.modify p fun e=>{ e with key:=.int kk n0,val:=a.eval x }) n)):=by
       unfold execOp
       rw [ho]
       simp only [hmv,hkv,Sem.run_bind]
       unfold Instr.mapUpdate
       simp only [Sem.run_bind,run_underlying hu,Result.andThen_ok,vr hg,hck 9999,Instr.findKey,run_underlying X6,qn,Sem.run_pure,h1,Option.map_some,Option.getD_some,afR,aaE,Tl _ hg]
      unfold Oper.wp
      rw [g5]
      refine ⟨S,μ,?_⟩
      rw [mK,eF]
      have eN:mpN (.int kk n0) n f=n:=by simp [mpN,Jl]
      rw [eN]
      refine hs.QM hκ hμ (vd g _) ⟨_,Kr _ hg,tV,by simp [jT],fun i hi=>?_⟩
      obtain ⟨e',q1,q2,q3,q4,q5⟩:=ck i hi
      have gv:i < cur.size:=by omega
      by_cases c:i=p
      ·subst c
       rw [h1] at q1
       cases q1
       refine ⟨{ e with key:=.int kk n0,val:=a.eval x },?_,?_,rfl,q4,?_⟩
       ·simp [Array.getElem?_modify,h1]
       ·simp only [mpF,Jl,if_true]
        rw [← q2,afR]
       ·simp only [mpF,Jl,if_true]
        exact (jd.1 (hρ _ _ hx)).mono (fun _ x=>x) (hw _)
      ·refine ⟨e',?_,?_,q3,q4,?_⟩
       ·have c':¬ p=i:=fun e=>c e.symm
        simp [Array.getElem?_modify,c',q1]
       ·simp only [mpF,Jl,c,if_false]; exact q2
       ·simp only [mpF,Jl,c,if_false]; exact q5.mono (fun _ x=>x) (hw _)
     | none =>
      rw [Jl] at qn
      simp only at qn
      have g5:(execOp a.eval o).run C.P w=.ok .skip (World.Ev w g (.map (cur.push { key:=.int kk n0,val:=a.eval x,born:=n }) (n+1))):=by
       have h1:=K2 (x:=a.eval x) hu X6 hg qn
       unfold execOp
       rw [ho]
       simp only [hmv,hkv,Sem.run_bind,h1,Result.andThen_ok,Sem.run_pure]
      unfold Oper.wp
      rw [g5]
      refine ⟨S,μ,?_⟩
      rw [mK,eF]
      have eN:mpN (.int kk n0) n f=n+1:=by simp [mpN,Jl]
      rw [eN]
      refine hs.QM hκ hμ (vd g _) ⟨_,Kr _ hg,tV,by simp [jT],fun i hi=>?_⟩
      by_cases c:i < n
      ·obtain ⟨e,h1,h2,h3,h4,h5⟩:=ck i c
       refine ⟨e,?_,by simp only [mpF,Jl,c,if_true]; exact h2,h3,h4,by simp only [mpF,Jl,c,if_true]; exact h5.mono (fun _ x=>x) (hw _)⟩
       rw [Array.getElem?_push,if_neg (by omega)]
       exact h1
      ·obtain rfl:i=n:=by omega
       refine ⟨_,by rw [Array.getElem?_push,if_pos jT.symm],by simp only [mpF,Jl,c,if_false],rfl,rfl,?_⟩
       simp only [mpF,Jl,c,if_false]
       exact (jd.1 (hρ _ _ hx)).mono (fun _ x=>x) (hw _)
   ·cases h
  ·cases h
 ·-- an entry is looked up
  rename_i t m k ok
  split at h
  ·rename_i κ kk n0 kt et _ _ _ _ hm hk ht
   split at h
   ·rename_i n f ik _ _ _ _ z hl hkt hz
    simp only [Option.some.injEq] at h
    subst h
    have hκ:=nr (κ,.mp n f) (by simp)
    have Ny:=hs.mem κ _ hκ
    have hv:=hρ _ _ hm
    generalize hmv:a.eval m=mv at hv
    cases hv with
    | @yC _ g cap hμ =>
     rw [hμ] at Ny
     obtain ⟨cur,hg,tV,jT,ck⟩:=Ny.at
     obtain ⟨v,hrv,hv⟩:=K5 (ok:=ok) hT (eT (hρ _ _ hk)) ht hkt hz cm hg jT ck
     refine mI (τ:=Tr.mk need o.dst (bif ok then .fb [.d (wT (.int kk n0) n f z),.d (.v (.bool (FD (.int kk n0) n f)))] else .d (wT (.int kk n0) n f z)) [(κ,.mp n f)] [] [] gs) hs hd (x:=bif ok then .tuple #[v,.bool (FD (.int kk n0) n f)] else v) ?_ (K4 hv) rfl rfl rfl
     simp only [execOp,ho,hmv,Sem.run_bind,hrv,Result.andThen_ok,Sem.run_pure]
   ·cases h
  ·rename_i n f kk n0 kt et _ _ _ _ hm hk ht
   split at h
   ·rename_i ik _ _ _ _ z hkt hz
    simp only [Option.some.injEq] at h
    subst h
    have hv:=hρ _ _ hm
    generalize hmv:a.eval m=mv at hv
    cases hv with
    | @C8 _ _ g hp =>
     obtain ⟨tV,cur,hg,jT,ck⟩:=hp
     obtain ⟨v,hrv,hv⟩:=K5 (ok:=ok) hT (eT (hρ _ _ hk)) ht hkt hz cm hg jT ck
     refine mI (τ:=Tr.mk need o.dst (bif ok then .fb [.d (wT (.int kk n0) n f z),.d (.v (.bool (FD (.int kk n0) n f)))] else .d (wT (.int kk n0) n f z)) [] [] [] gs) hs hd (x:=bif ok then .tuple #[v,.bool (FD (.int kk n0) n f)] else v) ?_ (K4 hv) rfl rfl rfl
     simp only [execOp,ho,hmv,Sem.run_bind,hrv,Result.andThen_ok,Sem.run_pure]
   ·cases h
  ·cases h
 ·cases h
theorem K6 {P:Program} {T:List (Nat × TI)} {lb:List (Nat × bQ)} {ρ:Operand→Option AV} {dst:Option Nat} {quiet:Bool} {op:Op} {r:R} (h:Tn P T lb ρ dst quiet op=some r) :
  (∀ p,p∈r.ro→look lb p.1=some p.2)∧(∀ p,p∈r.mem→look lb p.1=some p.2)∧(quiet=true→r.mem=[]∧r.fU=[])∧∀ k,k∈r.fU.map (·.1)→k∈r.mem.map (·.1):=by
 unfold Tn at h
 have nil:∀ {p:Nat × bQ},p∈([]:List (Nat × bQ))→look lb p.1=some p.2:=fun h=>by cases h
 have one:∀ {κ:Nat} {b:bQ},look lb κ=some b→∀ p,p∈[(κ,b)]→look lb p.1=some p.2:=fun h p hp=>by simp only [List.mem_singleton] at hp; subst hp; exact h
 split at h
 ·split at h
  ·split at h
   ·rename_i hl _; simp only [Option.some.injEq] at h; subst h; exact ⟨fun _=>nil,one hl,fun hq=>(by cases hq),fun k hk=>by simpa using hk⟩
   ·cases h
  ·cases h
 ·split at h
  ·split at h
   ·rename_i hl _ _; simp only [Option.some.injEq] at h; subst h; exact ⟨one hl,fun _=>nil,fun _=>⟨rfl,rfl⟩,fun k hk=>(by cases hk)⟩
   ·cases h
  ·split at h
   ·simp only [Option.some.injEq] at h; subst h; exact ⟨fun _=>nil,fun _=>nil,fun _=>⟨rfl,rfl⟩,fun k hk=>(by cases hk)⟩
   ·cases h
  ·cases h
 ·cases h
end
structure rB where
 n:Nat
 n':Nat
 f:Nat→List D
 f':Nat→List D
 eq:n=n'∧∀ i,i < n→zJ (f i) (f' i)
structure Tq where
 x:AV
 y:AV
 le:∀ w S μ ν v,Rel w S μ ν x v→Rel w S μ ν y v
structure FE where
 n:Nat
 n':Nat
 f:Nat→Value × D
 f':Nat→Value × D
 eq:n=n'∧∀ i,i < n→f i=f' i
inductive Df where
 | flat (res:AV)
 | gen (hand:List Nat) (res:AV) (back:List (Nat × bQ))
 | cU (c:rB)
 | wK (c:FE)
 | cast (d:Nat) (c:Tq)
 | pur (d:Nat)
 | same (κ:Nat) (b':bQ)
 | bx (hand:List Nat) (nw:List (Nat × Nat)) (res:AV) (back:List (Nat × bQ))
def looks (lb:List (Nat × bQ)):List Nat→Option (List (Nat × bQ))
 | []=>some []
 | k :: r=>(match look lb k,looks lb r with | some b,some l=>some ((k,b) :: l) | _,_=>none)
def Ks (res:AV) (back:List (Nat × bQ)):Bool :=
 res.keys.all (fun k=>(back.map (·.1)).contains k)&&back.all (fun p=>p.2.keys.all fun k=>(back.map (·.1)).contains k)
def QQ (T:List (Nat × TI)) (lb:List (Nat × bQ)) (t:Nat) (ad v:AV):Option R :=
 match look T t,v.cells with
 | some i,some xs=>(match ad with
  | .ptr κ off=>(match look lb κ with
   | some (.box cs)=>bif Nat.beq xs.length i.size&&Nat.ble (off+i.size) cs.length&&wJ.oo xs&&xs.all QH then some ⟨.any,[],[(κ,.box cs)],[(κ,.box (cs.take off++xs++cs.drop (off+i.size)))],.tt⟩ else none
   | _=>none)
  | .zI κ k p off=>(match look lb κ,Ba xs with
   | some (.row e k' n f),some ds=>bif Nat.beq k k'&&Nat.beq ds.length i.size&&Nat.ble (off+i.size) k&&ds.all Bu then
     some ⟨.any,[],[(κ,.row e k n f)],[(κ,.row e k n fun q=>if q=p then (f p).take off++ds++(f p).drop (off+i.size) else f q)],.pr (p < n)⟩ else none
   | _,_=>none)
  | _=>none)
 | _,_=>none
def aaF (lb:List (Nat × bQ)) (k:Nat):AV→Option (Nat × (Nat→List D) × List (Nat × bQ) × Ob)
 | .d (.sl m g)=>some (m,g,[],.pr ((∀ i,i < m→(g i).length=k)∧∀ i,i < m→(g i).all Bu=true))
 | .d (.v (.slice none 0 0))=>some (0,fun _=>[],[],.tt)
 | .A8 m g=>some (m,g,[],.pr ((∀ i,i < m→(g i).length=k)∧∀ i,i < m→(g i).all Bu=true))
 | .own κ m=>(match look lb κ with | some (.row e k' m' g)=>bif Nat.beq k k' then some (m,g,[(κ,.row e k' m' g)],(Ob.ne m m').and (.pr (∀ i,i < m→(g i).all Bu=true))) else none | _=>none)
 | _=>none
def K7 (T:List (Nat × TI)) (lb:List (Nat × bQ)) (dst t:Nat) (dv sv:AV):Option R :=
 match look T t with
 | some { kind:=.slice e,.. }=>(match look T e with
  | some i=>(match aaF lb i.size sv with
   | some (m,g,ro,ob)=>(match dv with
    | .d (.v (.slice none 0 0))=>some ⟨.own dst (0+m),ro,[],[(dst,.row e i.size (0+m) fun q=>if q < 0 then [] else g (q - 0))],ob.and (.pr (0+m≤maxLen∧(0+m) * i.bytes≤140737488355328))⟩
    | .own κ n=>(match look lb κ with
     | some (.row e' k n' f)=>bif Nat.beq e e'&&Nat.beq k i.size&&!Nat.beq dst κ then some ⟨.own dst (n+m),ro,[(κ,.row e' k n' f)],[(dst,.row e i.size (n+m) fun q=>if q < n then f q else g (q - n))],ob.and ((Ob.ne n n').and (.pr (n+m≤maxLen∧(n+m) * i.bytes≤140737488355328)))⟩ else none
     | _=>none)
    | _=>none)
   | none=>none)
  | none=>none)
 | _=>none
def Kt (lb:List (Nat × bQ)) (κ:Nat):Bool:=match look lb κ with | some (.box _)=>true | _=>false
def aaG (κ:Nat):AV→Bool
 | .ptr k 0=>Nat.beq k κ
 | _=>false
def acA (args:List AV) (hand:List Nat) (dz:List (Nat × bQ)) (nw:List (Nat × Nat)) (res:AV) (back:List (Nat × bQ)):Bool :=
 nw.all (fun p=>Nat.ble (p.1+1) args.length&&aaG p.2 (args.getD p.1 default)&&Kt dz p.2&&Kt back p.2) &&
 back.all (fun q=>(nw.map (·.2)).contains q.1||!hand.contains q.1) &&
 res.keys.all (fun k=>(back.map (·.1)).contains k&&!(nw.map (·.2)).contains k) &&
 back.all (fun q=>q.2.keys.all fun k=>(back.map (·.1)).contains k&&!(nw.map (·.2)).contains k)
def We (P:Program) (lb:List (Nat × bQ)) (quiet:Bool) (cf:AV) (args:List AV):List Df→Option (R × List Df)
 | .flat res :: j8=>(match cf with
  | .fn f cS=>(match yK lb (args++cS) with
   | some (IG,ro,ob)=>bif fV res then some (⟨res,ro,[],[],ob.and (.pr (jl P f IG [] res []))⟩,j8) else none
   | none=>none)
  | _=>none)
 | .gen hand res back :: j8=>(match cf with
  | .fn f cS=>(match looks lb hand with
   | some dz=>bif wJ.oo (args++cS)&&Ks res back&&wJ res&&(!quiet||(hand.isEmpty&&back.isEmpty))&&back.all (fun p=>!hand.contains p.1) then some (⟨res,[],dz,back,.pr (jl P f (args++cS) dz res back)⟩,j8) else none
   | none=>none)
  | _=>none)
 | .same κ b' :: j8=>(match cf with
  | .fn f cS=>(match look lb κ with
   | some b=>bif wJ.oo (args++cS)&&!quiet then some (⟨.any,[],[(κ,b)],[(κ,b')],.pr (FnS P f (args++cS) κ b b')⟩,j8) else none
   | none=>none)
  | _=>none)
 | .bx hand nw res back :: j8=>(match cf with
  | .fn f cS=>(match looks lb hand with
   | some dz=>bif wJ.oo (args++cS)&&acA (args++cS) hand dz nw res back&&wJ res&&!quiet then some (⟨res,[],dz,back,.pr (FnB P f (args++cS) dz res back nw)⟩,j8) else none
   | none=>none)
  | _=>none)
 | _=>none
def adw (quiet:Bool) (dst:Option Nat) (j8:List Df):Option (List Df) :=
 match quiet with
 | true=>some j8
 | false=>(match dst,j8 with
  | some t,.pur d :: r=>bif Nat.beq t d then some r else none
  | _,_=>none)
def Ts (P:Program) (T:List (Nat × TI)) (lb:List (Nat × bQ)) (ρ:Operand→Option AV) (dst:Option Nat) (quiet:Bool) (j8:List Df) (op:Op):Option (R × List Df) :=
 match op with
 | .alloc t=>(match quiet,dst,look T t with | false,some d,some i=>some (⟨.ptr d 0,[],[],[(d,.box (i.zero.map .d))],.tt⟩,j8) | _,_,_=>none)
 | .box _ x=>(match quiet,dst,ρ x with
  | false,some d,some v=>(match v.cells with
   | some cs=>(match adw false (some d) j8,Ba cs with
    | some uF,some ds=>some (⟨.ref ds,[],[],[],.tt⟩,uF)
    | _,_=>bif wJ.oo cs&&!(AV.uk cs).contains d then some (⟨.ptr d 0,[],[],[(d,.box cs)],.tt⟩,j8) else none)
   | none=>none)
  | _,_,_=>none)
 | .buildSlice t len ps=>(match vq T (unN ρ) t len ps.toList with
  | some (e,k,ds)=>(match adw quiet dst j8 with
   | some j8=>some (⟨.d (.sl len (DI k len ds)),[],[],[],.tt⟩,j8)
   | none=>(match quiet,dst with
    | false,some d=>some (⟨.own d len,[],[],[(d,.row e k len (DI k len ds))],.tt⟩,j8)
    | _,_=>none))
  | none=>none)
 | .store t ad x=>(match quiet,dst,ρ ad,ρ x with
  | false,none,some av,some v=>(match QQ T lb t av v with | some r=>some (r,j8) | none=>none)
  | _,_,_,_=>none)
 | .call { callee:=.builtin .append,args:=xs,argTypes:=ts }=>(match quiet,dst,xs.toList,ts.toList with
  | false,some d,[s,x],[t,t']=>(match Nat.beq t t',ρ s,ρ x with
   | true,some dv,some sv=>(match K7 T lb d t dv sv with | some r=>some (r,j8) | none=>none)
   | _,_,_=>none)
  | _,_,_,_=>none)
 | .call { callee:=.value cf,args:=xs,.. }=>(match ρ cf,tW ρ xs.toList with
  | some c,some l=>We P lb quiet c l j8
  | _,_=>none)
 | .makeSlice t l c=>(match quiet,dst,look T t,ρ l,ρ c with
  | false,some d,some { kind:=.slice e,.. },some (.d (.v (.int _ n))),some (.d (.v (.int _ m)))=>(match look T e with
   | some i=>some (⟨.own d n.toNat,[],[],[(d,.row e i.size n.toNat fun _=>i.zero)],(Ob.ze n m).and (.pr (0≤n∧n.toNat≤maxLen∧n.toNat * i.bytes≤140737488355328))⟩,j8)
   | none=>none)
  | _,_,_,_,_=>none)
 | op=>(match QL T ρ op with
  | some (v,ob)=>some (⟨v,[],[],[],ob⟩,j8)
  | none=>(match evV T lb ρ op with | some (v,ro,ob)=>some (⟨v,ro,[],[],ob⟩,j8) | none=>none))
def aaH (T:List (Nat × TI)) (ρ:Operand→Option AV):Op→Option (AV × Ob)
 | .build t ps=>(match look T t,BN ρ ps.toList with
  | some { kind:=.array _ e,zero:=z,.. },some vs=>(match look T e with
   | some ie=>(match KL (fun q=>some (q * ie.size,ie.size)) (z.map .d) vs with | some cs=>some (SW cs,.tt) | none=>none)
   | none=>none)
  | _,_=>none)
 | .indexAddr t x i=>(match look T t,ρ x,ρ i with
  | some { kind:=.array n e,.. },some (.ptr κ off),some (.d (.v (.int _ q)))=>(match look T e with | some ie=>some (.ptr κ (off+q.toNat * ie.size),.pr (0≤q∧q < n)) | none=>none)
  | some { kind:=.array n e,.. },some (.ref cs),some (.d (.v (.int _ q)))=>(match look T e with | some ie=>some (.ref (cs.drop (q.toNat * ie.size)),.pr (0≤q∧q < n)) | none=>none)
  | _,_,_=>none)
 | _=>none
def Tt (P:Program) (T:List (Nat × TI)) (lb:List (Nat × bQ)) (ρ:Operand→Option AV) (dst:Option Nat) (quiet:Bool) (j8:List Df) (op:Op):Option (R × List Df) :=
 match Tn P T lb ρ dst quiet op with
 | some r=>some (r,j8)
 | none=>(match K3 T lb ρ dst quiet op with
 | some r=>some (r,j8)
 | none=>(match aaH T ρ op with
 | some (v,ob)=>some (⟨v,[],[],[],ob⟩,j8)
 | none=>Ts P T lb ρ dst quiet j8 op))
def ahJ:Op→Bool
 | .buildSlice .. | .slice .. | .store .. | .makeSlice .. | .convert ..=>true
 | .call { callee:=.builtin .append,.. }=>true
 | _=>false
def Tu (c:rB) (r:R):Option R :=
 match r.fU with
 | [(κ,.row e k n f)]=>(match r.v with
  | .own κ' m=>bif Nat.beq κ' κ then some ⟨.own κ' c.n',r.ro,r.mem,[(κ,.row e k c.n' c.f')],r.ob.and ((Ob.ne m c.n).and ((Ob.ne n c.n).and (.fe f c.f)))⟩ else none
  | .any=>some ⟨.any,r.ro,r.mem,[(κ,.row e k c.n' c.f')],r.ob.and ((Ob.ne n c.n).and (.fe f c.f))⟩
  | _=>none)
 | []=>(match r.v with
  | .d (.sl n f)=>some ⟨.d (.sl c.n' c.f'),r.ro,r.mem,[],r.ob.and ((Ob.ne n c.n).and (.fe f c.f))⟩
  | _=>none)
 | _=>none
def Tv (c:FE) (r:R):Option R :=
 match r.fU with
 | [(κ,.mp n f)]=>(match r.v with
  | .any=>some ⟨.any,r.ro,r.mem,[(κ,.mp c.n' c.f')],r.ob.and ((Ob.ne n c.n).and (.me f c.f))⟩
  | .yC q=>some ⟨.yC q,r.ro,r.mem,[(κ,.mp c.n' c.f')],r.ob.and ((Ob.ne n c.n).and (.me f c.f))⟩
  | _=>none)
 | _=>none
def adx (c:Tq) (r:R):R:=⟨c.y,r.ro,r.mem,r.fU,r.ob.and (.ve r.v c.x)⟩
def aaI (P:Program) (T:List (Nat × TI)) (lb:List (Nat × bQ)) (ρ:Operand→Option AV) (dst:Option Nat) (quiet:Bool) (j8:List Df) (op:Op):Option (R × List Df) :=
 match Tt P T lb ρ dst quiet j8 op with
 | some (r,Nz)=>(match ahJ op,Nz with
  | true,.cU c :: Wf=>(match Tu c r with | some r'=>some (r',Wf) | none=>some (r,Nz))
  | _,.wK c :: Wf=>(match Tv c r with | some r'=>some (r',Wf) | none=>some (r,Nz))
  | _,.cast d c :: Wf=>(match dst with | some t=>bif Nat.beq t d then some (adx c r,Wf) else some (r,Nz) | none=>some (r,Nz))
  | _,_=>some (r,Nz))
 | none=>none
section
variable {C : Cx} {A : M} {a : Act} {w : World} {S : Nat → Prop} {μ : Mu} {ν : Nat → Bool}
theorem Hi {lb:List (Nat × bQ)}:∀ {ks:List Nat} {l:List (Nat × bQ)},looks lb ks=some l→l.map (·.1)=ks
 | [],l,h=>by simp only [looks,Option.some.injEq] at h; subst h; rfl
 | k :: r,l,h=>by
  simp only [looks] at h
  cases h1:look lb k with
  | none=>rw [h1] at h; cases h
  | some b =>
   cases h2:looks lb r with
   | none=>rw [h1,h2] at h; cases h
   | some l' =>
    rw [h1,h2] at h
    simp only [Option.some.injEq] at h
    subst h
    simp [Hi h2]
theorem aeg {T:List (Nat × TI)} (hT:og C.P T) (hs:dA C A a w S μ ν) {lb:List (Nat × bQ)} {o:Oper} {ρ:Operand→Option AV} (hρ:∀ x y,ρ x=some y→Rel w S μ ν y (a.eval x)) (hd:∀ t,o.dst=some t→t < C.nt)
  {v:AV} {ro:List (Nat × bQ)} {ob:Ob} (h:evV T lb ρ o.op=some (v,ro,ob)) (nr:∀ p,p∈ro→A.lb p.1=some p.2) (cm:ob.den) (need:List (Nat × AV)) (gs:List (Nat × Bool)) :
  o.wp C.P a w (fun a' w'=>∃ S' μ',dA C ((Tr.mk need o.dst v ro [] [] gs).apply A) a' w' S' μ' ν) (fun _ _ _=>False):=by
 obtain ⟨x,h1,h2⟩:=Y5 hT hs hρ h nr cm
 exact mI hs hd h1 h2 rfl rfl rfl
theorem QR {o:Oper} {t:TypeId} {ds:List D} {τ:Tr} (hs:dA C A a w S μ ν) (hd:∀ t,o.dst=some t→t < C.nt) {vs:Array Value}
  (g5:(execOp a.eval o).run C.P w=.ok (.value (.pointer (some ⟨w.heap.size,0,none⟩))) (w.alloc (.cells vs t))) (hr:dV w S μ ν (ds.map .d) vs.toList)
  (h0:τ.v=.ref ds) (h1:τ.dst=o.dst) (h2:τ.mem=[]) (h3:τ.fU=[]) :
  o.wp C.P a w (fun a' w'=>∃ S' μ',dA C (τ.apply A) a' w' S' μ' ν) (fun _ _ _=>False):=by
 unfold Oper.wp
 rw [g5]
 let S':Nat→Prop:=fun q=>S q∨q=w.heap.size
 have h4:=hs.world (S':=S') (w':=w.alloc (.cells vs t)) (fun _ x=>.inl x) (fun q hq=>hq.elim .inl (fun e=>.inr ⟨by omega,by rw [e]; simp⟩)) (pH w _ _)
 have hl:=hr.1
 simp only [List.length_map,Array.length_toList] at hl
 have hrd:∀ ν,Rel (w.alloc (.cells vs t)) S' μ ν (.ref ds) (.pointer (some ⟨w.heap.size,0,none⟩)):=fun ν'=>by
  refine .ref (fun j=>vs.toList.getD j undef) (fun j hj=>⟨.inr rfl,?_⟩) (fun j hj=>?_)
  ·rw [g8 _ _ _ vs t (0,0) (heap_alloc_new w _)]
   have gJ:j < vs.size:=by omega
   simp [List.getD,gJ]
  ·have:=hr.2 j (by simpa using hj)
   rw [kq _ j hj] at this
   exact (jd.1 this).mono (fun _ x=>.inl x) (fun q hq=>heap_alloc_old w _ (hs.bound q hq))
 have h5:=h4.put (dst:=o.dst) (x:=.ref ds) (v:=.pointer (some ⟨w.heap.size,0,none⟩)) hd (hrd ν)
 refine ⟨S',μ,?_⟩
 have e:τ.apply A=A.yE o.dst (.ref ds):=by
  unfold Tr.apply M.yE M.put
  rw [h0,h1,h2,h3]
  cases ho:o.dst with
  | none=>simp [look]
  | some d =>
   simp only [look,List.map_nil,List.not_mem_nil,if_false,Option.some.injEq]
   congr 1
   funext t
   by_cases c:d=t
   ·simp [c]
   ·have:¬ t=d:=fun e=>c e.symm
    simp [c,this]
 rw [e]
 exact h5
theorem Tw {T:List (Nat × TI)} (hT:og C.P T) (hs:dA C A a w S μ ν) {lb:List (Nat × bQ)} {o:Oper} {ρ:Operand→Option AV} (hρ:∀ x y,ρ x=some y→Rel w S μ ν y (a.eval x)) (hd:∀ t,o.dst=some t→t < C.nt) {quiet:Bool} {j8 uF:List Df} {r:R}
  (h:Ts C.P T lb ρ o.dst quiet j8 o.op=some (r,uF)) (nr:∀ p,p∈r.ro→A.lb p.1=some p.2) (kr:∀ p,p∈r.mem→A.lb p.1=some p.2) (cm:r.ob.den) (yD:∀ κ,κ∈(r.fU.map (·.1)).filter (fun k=>!(r.mem.map (·.1)).contains k)→km A κ) (need:List (Nat × AV)) (gs:List (Nat × Bool)) :
  o.wp C.P a w (fun a' w'=>∃ S' μ',dA C ((Tr.mk need o.dst r.v r.ro r.mem r.fU gs).apply A) a' w' S' μ' ν) (fun _ _ _=>False):=by
 unfold Ts at h
 split at h
 all_goals rename_i ho
 ·rename_i t0
  split at h
  ·rename_i d i eF hi
   simp only [Option.some.injEq,Prod.mk.injEq] at h
   obtain ⟨rfl,-⟩:=h
   obtain ⟨ti,z,F⟩:=aH (hT _ _ hi)
   obtain ⟨q1,q2⟩:=ko (w:=w) (S:=S) F.zok
   have hz:dV w S μ ν (i.zero.map .d) z.cells.toList:=by
    refine ⟨by simpa using q1,fun j hj=>?_⟩
    simp only [List.length_map] at hj
    rw [kq _ j hj]
    exact .d (q2 j hj)
   have hng:∀ l:List D,wJ.oo (l.map AV.d)=true:=fun l=>by induction l with | nil=>rfl | cons x r ih=>simpa [wJ.oo,wJ] using ih
   have X9:∀ l:List D,AV.uk (l.map AV.d)=[]:=fun l=>by induction l with | nil=>rfl | cons x r ih=>simpa [AV.uk,AV.keys] using ih
   rw [eF]
   refine Td (t:=t0) hs eF (hd d eF) (vs:=z.cells) ?_ hz (hng _) (yD d (by simp)) (by rw [X9]; simp)
   simp only [execOp,ho,Instr.alloc,zeroValue,typeInfo,Sem.run_bind,run_program,Result.andThen_ok,F.info,Sem.run_pure,F.zero,newVar,newRow,run_newObj]
   rfl
  ·cases h
 ·rename_i t0 x0
  split at h
  ·rename_i d v eF hx
   split at h
   ·rename_i cs hc
    split at h
    ·rename_i uF ds _ hp
     simp only [Option.some.injEq,Prod.mk.injEq] at h
     obtain ⟨rfl,-⟩:=h
     have ecs:=vo hp
     subst ecs
     refine QR (t:=t0) (ds:=ds) hs hd ?_ (pG hc (hρ _ _ hx)) rfl rfl rfl rfl
     simp only [execOp,ho,Instr.box,newVar,newRow,Sem.run_bind,run_newObj,Result.andThen_ok,Sem.run_pure]
     rfl
    cases hb:(wJ.oo cs&&!(AV.uk cs).contains d) with
    | false=>rw [hb] at h; cases h
    | true =>
     rw [hb] at h
     simp only [cond_true,Option.some.injEq,Prod.mk.injEq] at h
     obtain ⟨rfl,-⟩:=h
     simp only [Bool.and_eq_true,Bool.not_eq_true',List.contains_eq_mem,decide_eq_false_iff_not] at hb
     rw [eF]
     refine Td (t:=t0) hs eF (hd d eF) ?_ (pG hc (hρ _ _ hx)) hb.1 (yD d (by simp)) hb.2
     simp only [execOp,ho,Instr.box,newVar,newRow,Sem.run_bind,run_newObj,Result.andThen_ok,Sem.run_pure]
     rfl
   ·cases h
  ·cases h
 ·split at h
  ·rename_i e k ds hbc
   split at h
   ·simp only [Option.some.injEq,Prod.mk.injEq] at h
    obtain ⟨rfl,-⟩:=h
    exact KZ hT hs hd ho (aaC hρ) hbc rfl rfl rfl rfl
   ·split at h
    ·rename_i d eF _
     simp only [Option.some.injEq,Prod.mk.injEq] at h
     obtain ⟨rfl,-⟩:=h
     rw [eF]
     exact Jk hT hs eF (hd d eF) ho (aaC hρ) hbc (yD d (by simp))
    ·cases h
  ·cases h
 ·split at h
  ·rename_i av v eF hav hv
   split at h
   ·rename_i r' oh
    simp only [Option.some.injEq,Prod.mk.injEq] at h
    obtain ⟨rfl,-⟩:=h
    rw [eF]
    unfold QQ at oh
    split at oh
    ·rename_i i xs hi hc
     split at oh
     ·rename_i κ off
      split at oh
      ·rename_i cs hl
       cases hb:(Nat.beq xs.length i.size&&Nat.ble (off+i.size) cs.length&&wJ.oo xs&&xs.all QH) with
       | false=>rw [hb] at oh; cases oh
       | true =>
        rw [hb] at oh
        simp only [Bool.and_eq_true] at hb
        simp only [cond_true,Option.some.injEq] at oh
        subst oh
        exact KP hs (hT _ _ hi) ho eF (hρ _ _ hav) (hρ _ _ hv) (kr (κ,.box cs) (by simp)) hc (Nat.eq_of_beq_eq_true hb.1.1.1) (Nat.le_of_ble_eq_true hb.1.1.2) hb.1.2 hb.2 _
      ·cases oh
     ·rename_i κ k p off
      split at oh
      ·rename_i e k' n f ds hl hp
       cases hb:(Nat.beq k k'&&Nat.beq ds.length i.size&&Nat.ble (off+i.size) k&&ds.all Bu) with
       | false=>rw [hb] at oh; cases oh
       | true =>
        rw [hb] at oh
        simp only [Bool.and_eq_true] at hb
        simp only [cond_true,Option.some.injEq] at oh
        subst oh
        exact KS hs (hT _ _ hi) ho eF (hρ _ _ hav) (hρ _ _ hv) (kr (κ,.row e k n f) (by simp)) hc hp (Nat.eq_of_beq_eq_true hb.1.1.2) (Nat.le_of_ble_eq_true hb.1.2) cm hb.2 _
      ·cases oh
     ·cases oh
    ·cases oh
   ·cases h
  ·cases h
 ·rename_i xs ts
  split at h
  ·rename_i d s x t t' eF hxs hts
   split at h
   ·rename_i dv sv htt hdv hsv
    split at h
    ·rename_i r' BD
     simp only [Option.some.injEq,Prod.mk.injEq] at h
     obtain ⟨rfl,-⟩:=h
     rw [eF]
     have e1:=Nat.eq_of_beq_eq_true htt
     subst e1
     have XU:o.op=.call { callee:=.builtin .append,args:=#[s,x],argTypes:=#[t,t] }:=by
      rw [ho]
      congr 2
      ·cases xs; simpa using hxs
      ·cases ts; simpa using hts
     unfold K7 at BD
     split at BD
     ·rename_i e _ _ _ _ hl
      split at BD
      ·rename_i i hi
       split at BD
       ·rename_i m g PA Fl l4
        have src:Fl.den→(∀ p,p∈PA→A.lb p.1=some p.2)→∃ ys,Te w S i.size m g (a.eval x) ys:=by
         intro K8 ahK
         have hr:=hρ _ _ hsv
         unfold aaF at l4
         split at l4
         ·simp only [Option.some.injEq,Prod.mk.injEq] at l4
          obtain ⟨rfl,rfl,rfl,rfl⟩:=l4
          exact Tf (jd.1 hr) K8.1 K8.2
         ·simp only [Option.some.injEq,Prod.mk.injEq] at l4
          obtain ⟨rfl,rfl,rfl,rfl⟩:=l4
          have:=dg rfl hr
          exact ⟨[],⟨⟨by simp,fun i hi=>absurd hi (by omega)⟩,fun u hu=>(by cases hu),.inl ⟨this,rfl⟩⟩⟩
         ·simp only [Option.some.injEq,Prod.mk.injEq] at l4
          obtain ⟨rfl,rfl,rfl,rfl⟩:=l4
          generalize a.eval x=xv at hr
          cases hr with
          | A8 hd=>exact Tf hd K8.1 K8.2
         ·rename_i κ m0
          split at l4
          ·rename_i e2 k2 m2 g2 zM
           cases hb:Nat.beq i.size k2 with
           | false=>rw [hb] at l4; cases l4
           | true =>
            rw [hb] at l4
            have e3:=Nat.eq_of_beq_eq_true hb
            simp only [cond_true,Option.some.injEq,Prod.mk.injEq] at l4
            obtain ⟨rfl,rfl,rfl,rfl⟩:=l4
            have VS:=ahK (κ,.row e2 k2 m2 g2) (by simp)
            obtain ⟨o5,o6⟩:=Ob.db K8
            rw [← e3,← (show _=_ from o5)] at VS
            exact acy hs VS hr o6
          ·cases l4
         ·cases l4
        split at BD
        ·simp only [Option.some.injEq] at BD
         subst BD
         obtain ⟨o1,o2,o3⟩:=Ob.db cm
         obtain ⟨ys,hys⟩:=src o1 nr
         exact ID hs eF (hd d eF) (hT _ _ hl) rfl (hT _ _ hi) XU (hρ _ _ hdv) (.nil (fun _=>[])) rfl hys o2 o3 (yD d (by simp))
        ·rename_i κ n
         split at BD
         ·rename_i e' k n' f zM
          cases hb:(Nat.beq e e'&&Nat.beq k i.size&&!Nat.beq d κ) with
          | false=>rw [hb] at BD; cases BD
          | true =>
           rw [hb] at BD
           simp only [cond_true,Option.some.injEq] at BD
           subst BD
           simp only [Bool.and_eq_true] at hb
           have e4:=Nat.eq_of_beq_eq_true hb.1.1
           have e5:=Nat.eq_of_beq_eq_true hb.1.2
           obtain ⟨o1,o7⟩:=Ob.db cm
           obtain ⟨o2,o3,o4⟩:=Ob.db o7
           have o2:n=n':=o2
           subst e4; subst e5; subst o2
           obtain ⟨ys,hys⟩:=src o1 nr
           have hκ:=kr (κ,.row e i.size n f) (by simp)
           have A9:d ∉ [κ]:=fun hc=>by
            simp only [List.mem_singleton] at hc
            subst hc
            have:=hb.2
            rw [Nat.beq_refl] at this
            cases this
           exact ID hs eF (hd d eF) (hT _ _ hl) rfl (hT _ _ hi) XU (hρ _ _ hdv) (.own hκ) rfl hys o3 o4 (yD d (by simpa using A9))
         ·cases BD
        ·cases BD
       ·cases BD
      ·cases BD
     ·cases BD
    ·cases h
   ·cases h
  ·cases h
 ·rename_i cf xs _
  split at h
  ·rename_i c l hc hl
   have mb:=mJ hρ xs.toList l hl
   unfold We at h
   split at h
   ·rename_i res Zf
    split at h
    ·rename_i f cS
     split at h
     ·rename_i IG PA Fl hb
      cases hfl:fV res with
      | false=>rw [hfl] at h; cases h
      | true =>
       rw [hfl] at h
       simp only [cond_true,Option.some.injEq,Prod.mk.injEq] at h
       obtain ⟨rfl,-⟩:=h
       exact KW hs hd ho (hρ _ _ hc) mb hb nr (Ob.db cm).1 (Ob.db cm).2 hfl rfl rfl rfl rfl
     ·cases h
    ·cases h
   ·rename_i hand res back Zf
    split at h
    ·rename_i f cS
     split at h
     ·rename_i dz zM
      cases hb:(wJ.oo (l++cS)&&Ks res back&&wJ res&&(!quiet||(hand.isEmpty&&back.isEmpty))&&back.all (fun p=>!hand.contains p.1)) with
      | false=>rw [hb] at h; cases h
      | true =>
       rw [hb] at h
       simp only [cond_true,Option.some.injEq,Prod.mk.injEq] at h
       obtain ⟨rfl,-⟩:=h
       simp only [Bool.and_eq_true,Ks,List.all_eq_true,List.contains_eq_mem,decide_eq_true_eq,Bool.not_eq_true',decide_eq_false_iff_not] at hb
       obtain ⟨⟨⟨⟨h1,h2,h3⟩,h4⟩,h5⟩,h6⟩:=hb
       refine Za hs hd ho (hρ _ _ hc) mb h1 cm kr (fun k hk=>yD k ?_) h2 h3
       have aaJ:=Hi zM
       simp only [List.mem_filter,Bool.not_eq_true',List.contains_eq_mem,decide_eq_false_iff_not]
       refine ⟨hk,?_⟩
       rw [aaJ]
       obtain ⟨p,hp,rfl⟩:=List.mem_map.1 hk
       exact h6 p hp
     ·cases h
    ·cases h
   ·rename_i κ b' Zf
    split at h
    ·rename_i f cS
     split at h
     ·rename_i b zM
      cases hb:(wJ.oo (l++cS)&&!quiet) with
      | false=>rw [hb] at h; cases h
      | true =>
       rw [hb] at h
       simp only [cond_true,Option.some.injEq,Prod.mk.injEq] at h
       obtain ⟨rfl,-⟩:=h
       simp only [Bool.and_eq_true] at hb
       exact KY hs hd ho (hρ _ _ hc) mb hb.1 cm (kr (κ,b) (by simp))
     ·cases h
    ·cases h
   ·rename_i hand nw res back Zf
    split at h
    ·rename_i f cS
     split at h
     ·rename_i dz zM
      cases hb:(wJ.oo (l++cS)&&acA (l++cS) hand dz nw res back&&wJ res&&!quiet) with
      | false=>rw [hb] at h; cases h
      | true =>
       rw [hb] at h
       simp only [cond_true,Option.some.injEq,Prod.mk.injEq] at h
       obtain ⟨rfl,-⟩:=h
       simp only [Bool.and_eq_true,acA,List.all_eq_true,List.contains_eq_mem,decide_eq_true_eq,Bool.not_eq_true',decide_eq_false_iff_not,Bool.or_eq_true] at hb
       obtain ⟨⟨⟨h1,⟨⟨h2,h3⟩,h4⟩,h5⟩,h6⟩,h7⟩:=hb
       have aaJ:=Hi zM
       have box:∀ (lb:List (Nat × bQ)) κ,Kt lb κ=true→∃ cs,look lb κ=some (.box cs):=fun lb κ h=>by
        unfold Kt at h
        split at h
        ·exact ⟨_,by assumption⟩
        ·cases h
       have ptr:∀ κ x,aaG κ x=true→x=.ptr κ 0:=fun κ x h=>by
        unfold aaG at h
        split at h
        ·rw [Nat.eq_of_beq_eq_true h]
        ·cases h
       refine QJ hs hd ho (hρ _ _ hc) mb h1 cm (fun p hp=>?_) kr (fun k hk hn=>yD k ?_) h4 h5
       ·obtain ⟨⟨⟨a1,a2⟩,a3⟩,a4⟩:=h2 p hp
        exact ⟨Nat.le_of_ble_eq_true a1,ptr _ _ a2,box _ _ a3,box _ _ a4⟩
       ·simp only [List.mem_filter,Bool.not_eq_true',List.contains_eq_mem,decide_eq_false_iff_not]
        refine ⟨hk,?_⟩
        rw [aaJ]
        obtain ⟨p,hp,rfl⟩:=List.mem_map.1 hk
        exact (h3 p hp).resolve_left hn
     ·cases h
    ·cases h
   ·cases h
  ·cases h
 ·split at h
  ·rename_i d e _ _ _ _ kl n kc m eF ht hl hc
   split at h
   ·rename_i i hi
    simp only [Option.some.injEq,Prod.mk.injEq] at h
    obtain ⟨rfl,-⟩:=h
    have K8:((Ob.ze n m).and (.pr (0≤n∧n.toNat≤maxLen∧n.toNat * i.bytes≤140737488355328))).den:=cm
    obtain ⟨o1,o2,o3,o4⟩:=Ob.db K8
    have o1:n=m:=o1
    subst o1
    rw [eF]
    exact Zc hT hs eF (hd d eF) ho ht rfl hi (eT (hρ _ _ hl)) (eT (hρ _ _ hc)) o2 o3 o4 (yD d (by simp))
   ·cases h
  ·cases h
 ·split at h
  ·rename_i v Fl hv
   simp only [Option.some.injEq,Prod.mk.injEq] at h
   obtain ⟨rfl,-⟩:=h
   exact Wd hT hs hρ hd hv cm need _ gs
  ·split at h
   ·rename_i v PA Fl hv
    simp only [Option.some.injEq,Prod.mk.injEq] at h
    obtain ⟨rfl,-⟩:=h
    exact aeg hT hs hρ hd hv nr cm need gs
   ·cases h
theorem Tx {T:List (Nat × TI)} (hT:og C.P T) {o:Oper} {ρ:Operand→Option AV} (hρ:∀ x y,ρ x=some y→Rel w S μ ν y (a.eval x)) {v:AV} {ob:Ob} (h:aaH T ρ o.op=some (v,ob)) (cm:ob.den) :
  ∃ x,(execOp a.eval o).run C.P w=.ok (.value x) w∧Rel w S μ ν v x:=by
 unfold aaH at h
 split at h
 ·rename_i t ps ho
  split at h
  ·rename_i n e _ _ z _ vs hl hv
   split at h
   ·rename_i ie he
    split at h
    ·rename_i cs Fv
     simp only [Option.some.injEq,Prod.mk.injEq] at h
     obtain ⟨rfl,-⟩:=h
     obtain ⟨ti,zz,F⟩:=aH (hT t _ hl)
     have hu:=zL F.kind
     obtain ⟨te,ze,G⟩:=aH (hT e _ he)
     have jT:(sizeOf e).run C.P w=.ok ie.size w:=by simp [sizeOf,typeInfo,G.info,G.size]
     obtain ⟨q1,q2⟩:=ko (w:=w) (S:=S) F.zok
     have hz:dV w S μ ν (z.map .d) zz.cells.toList:=by
      refine ⟨by simpa using q1,fun i hi=>?_⟩
      simp only [List.length_map] at hi
      rw [kq z i hi]
      exact .d (q2 i hi)
     obtain ⟨v1,v2⟩:=zQ hρ ps.toList vs hv
     obtain ⟨KM,hf,hr⟩:=Db (fun q=>some (q * ie.size,ie.size)) vs (ps.toList.map fun p=>(p.1,a.eval p.2)) (z.map .d) cs zz.cells hz v1 v2 Fv
     refine ⟨.agg KM,?_,Da (by have:=hr.1; simpa using this) (fun i hi=>by rw [dm]; exact hr.2 i hi)⟩
     have hps:(ps.map fun (i,x)=>(i,a.eval x)).toList=ps.toList.map fun p=>(p.1,a.eval p.2):=by simp
     simp only [execOp,ho,Instr.build,Sem.run_bind,zeroValue,typeInfo,run_program,Result.andThen_ok,F.info,Sem.run_pure,F.zero,run_underlying hu,jT,hps]
     rw [hf]
     simp
    ·cases h
   ·cases h
  ·cases h
 ·rename_i t x i ho
  split at h
  ·rename_i n e _ _ _ _ κ off kk q hl hx hi
   split at h
   ·rename_i ie he
    simp only [Option.some.injEq,Prod.mk.injEq] at h
    obtain ⟨rfl,rfl⟩:=h
    have cm:0≤q∧q < n:=cm
    obtain ⟨ti,zz,F⟩:=aH (hT t _ hl)
    have hu:=zL F.kind
    obtain ⟨te,ze,G⟩:=aH (hT e _ he)
    have jT:(sizeOf e).run C.P w=.ok ie.size w:=by simp [sizeOf,typeInfo,G.info,G.size]
    have hxv:=hρ _ _ hx
    have hiv:=eT (hρ _ _ hi)
    generalize hav:a.eval x=av at hxv
    cases hxv with
    | @ptr _ _ g cap hμ =>
     refine ⟨.pointer (some ⟨g,off+q.toNat * ie.size,none⟩),?_,.ptr hμ⟩
     simp [execOp,ho,hav,hiv,Instr.indexAt,asIntOf,run_underlying hu,Instr.sureAddr,cm,jT,iO]
   ·cases h
  ·rename_i n e _ _ _ _ cs kk q hl hx hi
   split at h
   ·rename_i ie he
    simp only [Option.some.injEq,Prod.mk.injEq] at h
    obtain ⟨rfl,rfl⟩:=h
    have cm:0≤q∧q < n:=cm
    obtain ⟨ti,zz,F⟩:=aH (hT t _ hl)
    have hu:=zL F.kind
    obtain ⟨te,ze,G⟩:=aH (hT e _ he)
    have jT:(sizeOf e).run C.P w=.ok ie.size w:=by simp [sizeOf,typeInfo,G.info,G.size]
    have hxv:=hρ _ _ hx
    have hiv:=eT (hρ _ _ hi)
    generalize hav:a.eval x=av at hxv
    cases hxv with
    | @ref _ b o' gu ck hr =>
     refine ⟨.pointer (some ⟨b,o'+q.toNat * ie.size,none⟩),?_,.ref (fun j=>gu (q.toNat * ie.size+j)) (fun j hj=>?_) (fun j hj=>?_)⟩
     ·simp [execOp,ho,hav,hiv,Instr.indexAt,asIntOf,run_underlying hu,Instr.sureAddr,cm,jT,iO]
     ·simp only [List.length_drop] at hj
      have:=ck (q.toNat * ie.size+j) (by omega)
      rw [← Nat.add_assoc] at this
      exact this
     ·simp only [List.length_drop] at hj
      have:=hr (q.toNat * ie.size+j) (by omega)
      simpa [List.getD] using this
   ·cases h
  ·cases h
 ·cases h
theorem kW {T:List (Nat × TI)} (hT:og C.P T) (hs:dA C A a w S μ ν) {lb:List (Nat × bQ)} {o:Oper} {ρ:Operand→Option AV} (hρ:∀ x y,ρ x=some y→Rel w S μ ν y (a.eval x)) (hd:∀ t,o.dst=some t→t < C.nt) {quiet:Bool} {j8 uF:List Df} {r:R}
  (h:Tt C.P T lb ρ o.dst quiet j8 o.op=some (r,uF)) (nr:∀ p,p∈r.ro→A.lb p.1=some p.2) (kr:∀ p,p∈r.mem→A.lb p.1=some p.2) (cm:r.ob.den) (yD:∀ κ,κ∈(r.fU.map (·.1)).filter (fun k=>!(r.mem.map (·.1)).contains k)→km A κ) (need:List (Nat × AV)) (gs:List (Nat × Bool)) :
  o.wp C.P a w (fun a' w'=>∃ S' μ',dA C ((Tr.mk need o.dst r.v r.ro r.mem r.fU gs).apply A) a' w' S' μ' ν) (fun _ _ _=>False):=by
 unfold Tt at h
 split at h
 ·rename_i r' hm
  simp only [Option.some.injEq,Prod.mk.injEq] at h
  obtain ⟨rfl,-⟩:=h
  exact Tp hT hs hρ hd hm nr kr cm need gs
 split at h
 ·rename_i r' hm
  simp only [Option.some.injEq,Prod.mk.injEq] at h
  obtain ⟨rfl,-⟩:=h
  exact QO hT hs hρ hd hm nr kr cm yD need gs
 split at h
 ·rename_i v ob hm
  simp only [Option.some.injEq,Prod.mk.injEq] at h
  obtain ⟨rfl,-⟩:=h
  obtain ⟨x,h1,h2⟩:=Tx hT hρ hm cm
  exact mI hs hd h1 h2 rfl rfl rfl
 ·exact Tw hT hs hρ hd h nr kr cm yD need gs
theorem aaK {α:Type} (k:Nat) (x:α) (r:List (Nat × α)) (t:Nat):look ((k,x) :: r) t=if k=t then some x else look r t:=by
 simp only [look]
 cases hb:Nat.beq k t with
 | true=>simp [Nat.eq_of_beq_eq_true hb]
 | false =>
  have:¬ k=t:=fun e=>by rw [e,Nat.beq_refl] at hb; cases hb
  simp [this]
theorem dA.weaken {B:M} (h:dA C A a w S μ ν) (Tb:∀ t v,Rel w S μ ν (A.sl t) v→Rel w S μ ν (B.sl t) v) (VS:∀ κ b',B.lb κ=some b'→∃ b,A.lb κ=some b∧∀ y,iM w S μ b y→iM w S μ b' y):dA C B a w S μ ν:=by
 refine ⟨h.tmps,h.defers,fun t=>Tb t _ (h.eJ t),fun κ b hb=>?_,fun κ κ' b b' g c c' hb od hm IH=>?_,fun κ b g c hb hm=>?_,h.fA,h.fresh,h.bound,h.kept⟩
 ·obtain ⟨d,h1,h2⟩:=VS κ b hb
  exact h2 _ (h.mem κ d h1)
 ·obtain ⟨d,h1,_⟩:=VS κ b hb
  obtain ⟨d',h1',_⟩:=VS κ' b' od
  exact h.inj κ κ' d d' g c c' h1 h1' hm IH
 ·obtain ⟨d,h1,_⟩:=VS κ b hb
  exact h.own κ d g c h1 hm
theorem aaL {e k n n':Nat} {f f':Nat→List D} (hn:n=n') (hf:∀ i,i < n→zJ (f i) (f' i)) (y:Option (Option (Nat × Nat))) (h:iM w S μ (.row e k n f) y):iM w S μ (.row e k n' f') y:=by
 subst hn
 cases y with
 | none=>exact h
 | some y =>
  cases y with
  | none=>exact h
  | some gc =>
   obtain ⟨g,c⟩:=gc
   obtain ⟨cur,q1,q2,q3,q4,q5,q6⟩:=h.at
   refine eA.ok ⟨cur,q1,q2,q3,q4,q5,fun i hi=>?_⟩
   obtain ⟨z1,z2⟩:=q6 i hi
   refine ⟨(hf i hi).1 ▸ z1,fun j hj=>?_⟩
   obtain ⟨x,x1,x2⟩:=z2 j hj
   exact ⟨x,x1,(hf i hi).2 j (by omega) _ _ _ x2⟩
theorem Zg {c:rB} {r r':R} (h:Tu c r=some r') (cm:r'.ob.den):r.ob.den∧r'.ro=r.ro∧r'.mem=r.mem∧r'.fU.map (·.1)=r.fU.map (·.1) ∧
  ∀ {A:M} {dst:Option Nat} {need:List (Nat × AV)} {gs:List (Nat × Bool)} {a:Act} {w:World} {S:Nat→Prop} {μ:Mu} {ν:Nat→Bool},dA C ((Tr.mk need dst r.v r.ro r.mem r.fU gs).apply A) a w S μ ν→dA C ((Tr.mk need dst r'.v r'.ro r'.mem r'.fU gs).apply A) a w S μ ν:=by
 obtain ⟨cn,ce⟩:=c.eq
 obtain ⟨v,ro,mem,fU,ob⟩:=r
 unfold Tu at h
 split at h
 ·rename_i κ e k n f kr
  dsimp only at kr
  subst kr
  have blk:n=c.n→f=c.f→∀ {A:M} {dst:Option Nat} {need:List (Nat × AV)} {gs:List (Nat × Bool)} {a:Act} {w:World} {S:Nat→Prop} {μ:Mu} {ν:Nat→Bool} {x y:AV},(∀ v,Rel w S μ ν x v→Rel w S μ ν y v)→dA C ((Tr.mk need dst x ro mem [(κ,.row e k n f)] gs).apply A) a w S μ ν→dA C ((Tr.mk need dst y ro mem [(κ,.row e k c.n' c.f')] gs).apply A) a w S μ ν:=by
   intro hn hf A dst need gs a w S μ ν x y hxy hs
   refine hs.weaken (fun t v hv=>?_) (fun κ' b' od=>?_)
   ·simp only [Tr.apply] at hv ⊢
    split
    ·rename_i hd
     simp only [hd,if_true] at hv
     exact hxy v hv
    ·rename_i hd
     simp only [hd,if_false] at hv
     exact hv
   ·simp only [Tr.apply,aaK] at od ⊢
    by_cases hk:κ=κ'
    ·subst hk
     simp only [if_true,Option.some.injEq] at od ⊢
     subst od
     exact ⟨_,rfl,fun y=>aaL (hn.trans cn) (fun i hi=>by rw [hf]; exact ce i (by omega)) y⟩
    ·simp only [hk,if_false] at od ⊢
     exact ⟨b',od,fun _ h=>h⟩
  split at h
  ·rename_i κ' m hv
   dsimp only at hv
   subst hv
   cases hb:Nat.beq κ' κ with
   | false=>rw [hb] at h; cases h
   | true =>
    rw [hb] at h
    simp only [cond_true,Option.some.injEq] at h
    subst h
    obtain ⟨o1,o2⟩:=Ob.db cm
    obtain ⟨o3,o4⟩:=Ob.db o2
    obtain ⟨o5,o6⟩:=Ob.db o4
    have o3:m=c.n:=o3
    refine ⟨o1,rfl,rfl,rfl,fun hs=>blk o5 o6 (fun v hv=>?_) hs⟩
    rw [o3,cn] at hv
    exact hv
  ·rename_i hv
   dsimp only at hv
   subst hv
   simp only [Option.some.injEq] at h
   subst h
   obtain ⟨o1,o2⟩:=Ob.db cm
   obtain ⟨o5,o6⟩:=Ob.db o2
   exact ⟨o1,rfl,rfl,rfl,fun hs=>blk o5 o6 (fun v hv=>hv) hs⟩
  ·cases h
 ·rename_i kr
  dsimp only at kr
  subst kr
  split at h
  ·rename_i n f hv
   dsimp only at hv
   subst hv
   simp only [Option.some.injEq] at h
   subst h
   obtain ⟨o1,o2⟩:=Ob.db cm
   obtain ⟨o5,o6⟩:=Ob.db o2
   have o5:n=c.n:=o5
   have o6:f=c.f:=o6
   refine ⟨o1,rfl,rfl,rfl,fun hs=>?_⟩
   refine hs.weaken (fun t v hv=>?_) (fun κ' b' od=>⟨b',od,fun _ h=>h⟩)
   simp only [Tr.apply] at hv ⊢
   split
   ·rename_i hd
    simp only [hd,if_true] at hv
    exact .d (tU.slc (o5.trans cn) (fun i hi=>by rw [o6]; exact ce i (by omega)) _ _ _ (jd.1 hv))
   ·rename_i hd
    simp only [hd,if_false] at hv
    exact hv
  ·cases h
 ·cases h
theorem ady {n n':Nat} {f f':Nat→Value × D} (hn:n=n') (hf:∀ i,i < n→f i=f' i) (y:Option (Option (Nat × Nat))) (h:iM w S μ (.mp n f) y):iM w S μ (.mp n' f') y:=by
 subst hn
 cases y with
 | none=>exact h
 | some y =>
  cases y with
  | none=>exact h
  | some gc =>
   obtain ⟨g,c⟩:=gc
   obtain ⟨cur,q1,q2,q3,q4⟩:=h.at
   refine eA.ok ⟨cur,q1,q2,q3,fun i hi=>?_⟩
   rw [← hf i hi]
   exact q4 i hi
theorem Zh {c:FE} {r r':R} (h:Tv c r=some r') (cm:r'.ob.den):r.ob.den∧r'.ro=r.ro∧r'.mem=r.mem∧r'.fU.map (·.1)=r.fU.map (·.1) ∧
  ∀ {A:M} {dst:Option Nat} {need:List (Nat × AV)} {gs:List (Nat × Bool)} {a:Act} {w:World} {S:Nat→Prop} {μ:Mu} {ν:Nat→Bool},dA C ((Tr.mk need dst r.v r.ro r.mem r.fU gs).apply A) a w S μ ν→dA C ((Tr.mk need dst r'.v r'.ro r'.mem r'.fU gs).apply A) a w S μ ν:=by
 obtain ⟨cn,ce⟩:=c.eq
 obtain ⟨v,ro,mem,fU,ob⟩:=r
 unfold Tv at h
 split at h
 ·rename_i κ n f kr
  dsimp only at kr
  subst kr
  split at h
  ·rename_i hv
   dsimp only at hv
   subst hv
   simp only [Option.some.injEq] at h
   subst h
   obtain ⟨o1,o2⟩:=Ob.db cm
   obtain ⟨o5,o6⟩:=Ob.db o2
   have o5:n=c.n:=o5
   have o6:f=c.f:=o6
   refine ⟨o1,rfl,rfl,rfl,fun hs=>?_⟩
   refine hs.weaken (fun t v hv=>hv) (fun κ' b' od=>?_)
   simp only [Tr.apply,aaK] at od ⊢
   by_cases hk:κ=κ'
   ·subst hk
    simp only [if_true,Option.some.injEq] at od ⊢
    subst od
    exact ⟨_,rfl,fun y=>ady (o5.trans cn) (fun i hi=>by rw [o6]; exact ce i (by omega)) y⟩
   ·simp only [hk,if_false] at od ⊢
    exact ⟨b',od,fun _ h=>h⟩
  ·rename_i hv
   dsimp only at hv
   subst hv
   simp only [Option.some.injEq] at h
   subst h
   obtain ⟨o1,o2⟩:=Ob.db cm
   obtain ⟨o5,o6⟩:=Ob.db o2
   have o5:n=c.n:=o5
   have o6:f=c.f:=o6
   refine ⟨o1,rfl,rfl,rfl,fun hs=>?_⟩
   refine hs.weaken (fun t v hv=>hv) (fun κ' b' od=>?_)
   simp only [Tr.apply,aaK] at od ⊢
   by_cases hk:κ=κ'
   ·subst hk
    simp only [if_true,Option.some.injEq] at od ⊢
    subst od
    exact ⟨_,rfl,fun y=>ady (o5.trans cn) (fun i hi=>by rw [o6]; exact ce i (by omega)) y⟩
   ·simp only [hk,if_false] at od ⊢
    exact ⟨b',od,fun _ h=>h⟩
  ·cases h
 ·cases h
theorem Zi {c:Tq} {r:R} (cm:(adx c r).ob.den):r.ob.den ∧
  ∀ {A:M} {dst:Option Nat} {need:List (Nat × AV)} {gs:List (Nat × Bool)} {a:Act} {w:World} {S:Nat→Prop} {μ:Mu} {ν:Nat→Bool},dA C ((Tr.mk need dst r.v r.ro r.mem r.fU gs).apply A) a w S μ ν→dA C ((Tr.mk need dst c.y r.ro r.mem r.fU gs).apply A) a w S μ ν:=by
 obtain ⟨o1,o2⟩:=Ob.db cm
 have o2:r.v=c.x:=o2
 refine ⟨o1,fun hs=>?_⟩
 refine hs.weaken (fun t v hv=>?_) (fun κ' b' od=>⟨b',od,fun _ h=>h⟩)
 simp only [Tr.apply] at hv ⊢
 split
 ·rename_i hd
  simp only [hd,if_true] at hv
  rw [o2] at hv
  exact c.le _ _ _ _ _ hv
 ·rename_i hd
  simp only [hd,if_false] at hv
  exact hv
theorem Wg {T:List (Nat × TI)} (hT:og C.P T) (hs:dA C A a w S μ ν) {lb:List (Nat × bQ)} {o:Oper} {ρ:Operand→Option AV} (hρ:∀ x y,ρ x=some y→Rel w S μ ν y (a.eval x)) (hd:∀ t,o.dst=some t→t < C.nt) {quiet:Bool} {j8 uF:List Df} {r:R}
  (h:aaI C.P T lb ρ o.dst quiet j8 o.op=some (r,uF)) (nr:∀ p,p∈r.ro→A.lb p.1=some p.2) (kr:∀ p,p∈r.mem→A.lb p.1=some p.2) (cm:r.ob.den) (yD:∀ κ,κ∈(r.fU.map (·.1)).filter (fun k=>!(r.mem.map (·.1)).contains k)→km A κ) (need:List (Nat × AV)) (gs:List (Nat × Bool)) :
  o.wp C.P a w (fun a' w'=>∃ S' μ',dA C ((Tr.mk need o.dst r.v r.ro r.mem r.fU gs).apply A) a' w' S' μ' ν) (fun _ _ _=>False):=by
 unfold aaI at h
 split at h
 ·rename_i r0 Nz h0
  split at h
  ·rename_i c Wf _
   split at h
   ·rename_i r' hn
    simp only [Option.some.injEq,Prod.mk.injEq] at h
    obtain ⟨rfl,-⟩:=h
    obtain ⟨o1,e1,e2,e3,dE⟩:=Zg (C:=C) hn cm
    rw [e3,e2] at yD
    rw [e1] at nr
    rw [e2] at kr
    exact Oper.wp_mono (fun a' w' hh=>let ⟨S',μ',hh⟩:=hh; ⟨S',μ',dE hh⟩) (kW hT hs hρ hd h0 nr kr o1 yD need gs)
   ·simp only [Option.some.injEq,Prod.mk.injEq] at h
    obtain ⟨rfl,-⟩:=h
    exact kW hT hs hρ hd h0 nr kr cm yD need gs
  ·split at h
   ·rename_i r' hn
    simp only [Option.some.injEq,Prod.mk.injEq] at h
    obtain ⟨rfl,-⟩:=h
    obtain ⟨o1,e1,e2,e3,dE⟩:=Zh (C:=C) hn cm
    rw [e3,e2] at yD
    rw [e1] at nr
    rw [e2] at kr
    exact Oper.wp_mono (fun a' w' hh=>let ⟨S',μ',hh⟩:=hh; ⟨S',μ',dE hh⟩) (kW hT hs hρ hd h0 nr kr o1 yD need gs)
   ·simp only [Option.some.injEq,Prod.mk.injEq] at h
    obtain ⟨rfl,-⟩:=h
    exact kW hT hs hρ hd h0 nr kr cm yD need gs
  ·split at h
   ·generalize Nat.beq _ _=bb at h
    cases bb with
    | false =>
     simp only [cond_false,Option.some.injEq,Prod.mk.injEq] at h
     obtain ⟨rfl,-⟩:=h
     exact kW hT hs hρ hd h0 nr kr cm yD need gs
    | true =>
     simp only [cond_true,Option.some.injEq,Prod.mk.injEq] at h
     obtain ⟨rfl,-⟩:=h
     obtain ⟨o1,dE⟩:=Zi (C:=C) cm
     exact Oper.wp_mono (fun a' w' hh=>let ⟨S',μ',hh⟩:=hh; ⟨S',μ',dE hh⟩) (kW hT hs hρ hd h0 nr kr o1 yD need gs)
   ·simp only [Option.some.injEq,Prod.mk.injEq] at h
    obtain ⟨rfl,-⟩:=h
    exact kW hT hs hρ hd h0 nr kr cm yD need gs
  ·simp only [Option.some.injEq,Prod.mk.injEq] at h
   obtain ⟨rfl,-⟩:=h
   exact kW hT hs hρ hd h0 nr kr cm yD need gs
 ·cases h
end
def acB (q p:List (Nat × Bool)):Bool:=q.all fun y=>p.any fun z=>Nat.beq y.1 z.1&&(y.2 == z.2)

def aeh (p:List (Nat × Bool)):AV→Option AV
  | .g q a=>bif acB q p then some a else none
  | x=>some x

def Ty (need:List (Nat × AV)) (p:List (Nat × Bool)):Operand→Option AV
  | .tmp t=>(match look need t with | some x=>aeh p x | none=>none)
  | .const v=>ofConst v
  | .func f=>some (.fn f [])
  | .global g=>(match look Ea.gl g with | some cs=>some (.ref cs) | none=>none)

def aaM:AV→Option (List (Nat × Bool) × Bool)
  | .d (.v (.bool e))=>some ([],e)
  | .g q (.d (.v (.bool e)))=>some (q,e)
  | _=>none

structure St where
  sl:List (Nat × AV)
  lb:List (Nat × bQ)

def St.get (sl:List (Nat × AV)) (t:Nat):AV:=match look sl t with | some x=>x | none=>.any

def St.gb (st:St):M:={ sl:=St.get st.sl,lb:=look st.lb }

def slotsOf:List Operand→List Nat
  | []=>[]
  | .tmp t :: r=>t :: slotsOf r
  | _ :: r=>slotsOf r

def rM (sl:List (Nat × AV)):List Nat→List (Nat × AV)
  | []=>[]
  | t :: r=>(t,St.get sl t) :: rM sl r

/-- a bool on afS others ajh is ai0 -/
def Zj (gl:List (Nat × Bool)) (s:Nat) (e:Bool):List (Nat × Bool) × Ob :=
  match look gl s with
  | some e'=>(gl,.be e e')
  | none=>(gl++[(s,e)],.tt)

def QS (gl:List (Nat × Bool)):List Nat→List (Nat × Bool)
  | []=>[]
  | s :: r=>(match look gl s with | some e=>(s,e) :: QS gl r | none=>QS gl r)

def BT (gl:List (Nat × Bool)):List (Nat × Bool)→Ob→Ob
  | [],ob=>ob
  | (s,w) :: r,ob=>(match look gl s with | some e=>(BT gl r ob).imp e w | none=>BT gl r ob)

def FF (p:List (Nat × Bool)) (v:AV):AV:=match p with | []=>v | _ :: _=>.g p v

def Dg (ops:Array Oper) (j:Nat):Option Nat:=match ops[j]? with | some o=>o.dst | none=>none

/-- Pv ai1 on afS an operation ai2 -/
def pathOf (nt:Nat) (ops:Array Oper) (sl:List (Nat × AV)) (gl:List (Nat × Bool)):Option (Nat × Bool)→Option (List (Nat × Bool) × List Nat × List (Nat × Bool) × Ob)
  | none=>some ([],[],gl,.tt)
  | some (j,want)=>(match Dg ops j with
    | some s=>bif Nat.ble (s+1) nt then (match aaM (St.get sl s) with
      | some (q,e)=>(match Zj gl s e with | (Tz,ob)=>some (q++[(s,want)],[s],Tz,ob))
      | none=>none) else none
    | none=>none)

def aaN (need:List (Nat × AV)) (p:List (Nat × Bool)) (c x y:Operand):Option (Nat × Bool × Bool × Bool) :=
  match c with
  | .tmp s=>(match Ty need p c,Ty need ((s,true) :: p) x,Ty need ((s,false) :: p) y with
    | some (.d (.v (.bool e))),some (.d (.v (.bool ex))),some (.d (.v (.bool ey)))=>some (s,e,ex,ey)
    | _,_,_=>none)
  | _=>none

def Wh (P:Program) (T:List (Nat × TI)) (nt:Nat) (ops:Array Oper) (st:St) (gl:List (Nat × Bool)) (j8:List Df) (o:Oper):Option (Tr × List (Nat × Bool) × List Df × Ob) :=
  match pathOf nt ops st.sl gl o.guard,(match o.dst with | some d=>Nat.ble (d+1) nt | none=>true) with
  | some (p,ss,gl1,DJ),true =>
    (match o.op with
    | .pick c x y=>(match aaN (rM st.sl (ss++slotsOf [c,x,y])) p c x y with
      | some (s,e,ex,ey)=>(match Zj gl1 s e with
        | (gl2,Jj)=>some (⟨rM st.sl (ss++slotsOf [c,x,y]),o.dst,FF p (.d (.v (.bool (bif e then ex else ey)))),[],[],[],QS gl2 (s :: p.map (·.1))⟩,gl2,j8,DJ.and Jj))
      | none=>none)
    | op=>(match aaI P T st.lb (Ty (rM st.sl (ss++slotsOf op.operands.toList)) p) o.dst (!p.isEmpty) j8 op with
      | some (r,uF)=>some (⟨rM st.sl (ss++slotsOf op.operands.toList),o.dst,FF p r.v,r.ro,r.mem,r.fU,QS gl1 (p.map (·.1))⟩,gl1,uF,DJ.and (BT gl1 p r.ob))
      | none=>none))
  | _,_=>none

def ba {α:Type} (ks:List Nat):List (Nat × α)→List (Nat × α)
  | []=>[]
  | (k,x) :: r=>bif ks.any (fun q=>Nat.beq q k) then ba ks r else (k,x) :: ba ks r

def St.apply (st:St) (τ:Tr):St :=
  { sl:=match τ.dst with | some d=>(d,τ.v) :: ba [d] st.sl | none=>st.sl
    lb:=match τ.mem,τ.fU with | [],[]=>st.lb | m,m'=>m'++ba (m.map (·.1)) st.lb }

def TA (P:Program) (T:List (Nat × TI)) (nt:Nat) (ops:Array Oper):List Oper→St→List (Nat × Bool)→List Df→Option (List Tr × St × List (Nat × Bool) × List Df × Ob)
  | [],st,gl,j8=>some ([],st,gl,j8,.tt)
  | o :: r,st,gl,j8=>(match Wh P T nt ops st gl j8 o with
    | some (τ,Tz,uF,ob)=>(match TA P T nt ops r (st.apply τ) Tz uF with
      | some (l,st',ahL,afT,Fl)=>some (τ :: l,st',ahL,afT,ob.and Fl)
      | none=>none)
    | none=>none)

def QT (st:St) (κ:Nat):Bool:=st.sl.all (fun p=>!p.2.keys.any (fun k=>Nat.beq k κ))&&st.lb.all (fun p=>!Nat.beq p.1 κ&&!p.2.keys.any (fun k=>Nat.beq k κ))

def adz (keep:Option (List Nat)) (t:Nat):Bool:=match keep with | some l=>l.any (fun k=>Nat.beq k t) | none=>true

def aaO (draw:Bool) (ops:Array Oper) (wH:List Tr):Bool:=match draw with | true=>SS ops wH | false=>BH wH

def Bc (keep:Option (List Nat)):List (Nat × AV)→List (Nat × AV)
  | []=>[]
  | (t,x) :: r=>bif wJ x&&adz keep t then (t,x) :: Bc keep r else Bc keep r

def vf:List (Nat × AV)→Bool
  | []=>true
  | (t,_) :: r=>r.all (fun p=>!Nat.beq p.1 t)&&vf r

/-- a region: Pv state behind it,and ad7 ahv hold -/
def qo (P:Program) (T:List (Nat × TI)) (nt:Nat) (ops:Array Oper) (draw:Bool) (keep:Option (List Nat)) (st:St) (j8:List Df):Option (St × Ob) :=
  match TA P T nt ops ops.toList st [] j8 with
  | some (wH,st',_,[],ob)=>bif aaO draw ops wH&&wH.all (fun τ=>τ.created.all (QT st))&&vf st'.sl then some (⟨Bc keep st'.sl,st'.lb⟩,ob) else none
  | _=>none

/-! afv -/

theorem cw {α:Type} (k:Nat) (x:α) (r:List (Nat × α)) (t:Nat):look ((k,x) :: r) t=if k=t then some x else look r t:=by
  simp only [look]
  cases hb:Nat.beq k t with
  | true=>simp [Nat.eq_of_beq_eq_true hb]
  | false =>
    have:¬ k=t:=fun e=>by rw [e,Nat.beq_refl] at hb; cases hb
    simp [this]

theorem wU {α:Type} (l r:List (Nat × α)) (t:Nat):look (l++r) t=match look l t with | some x=>some x | none=>look r t:=by
  induction l with
  | nil=>rfl
  | cons p l ih =>
    obtain ⟨k,x⟩:=p
    simp only [List.cons_append,cw]
    split
    · rfl
    · exact ih

theorem mM {α:Type} (ks:List Nat) (l:List (Nat × α)) (t:Nat):look (ba ks l) t=if t∈ks then none else look l t:=by
  induction l with
  | nil=>simp [ba,look]
  | cons p l ih =>
    obtain ⟨k,x⟩:=p
    simp only [ba]
    cases hb:ks.any (fun q=>Nat.beq q k) with
    | true =>
      simp only [cond_true]
      rw [ih,cw]
      have hk:k∈ks:=by
        obtain ⟨q,hq,he⟩:=List.any_eq_true.1 hb
        rw [← Nat.eq_of_beq_eq_true he]
        exact hq
      by_cases c:k=t
      · subst c; simp [hk]
      · simp [c]
    | false =>
      simp only [cond_false,cw]
      have hk:k ∉ ks:=fun hc=>by
        have:ks.any (fun q=>Nat.beq q k)=true:=List.any_eq_true.2 ⟨k,hc,Nat.beq_refl k⟩
        rw [this] at hb
        cases hb
      by_cases c:k=t
      · subst c; simp [hk]
      · simp only [c,if_false]
        exact ih

theorem Ku (d:Nat) (v:AV) (sl:List (Nat × AV)) (t:Nat):St.get ((d,v) :: ba [d] sl) t=if d=t then v else St.get sl t:=by
  unfold St.get
  rw [cw]
  by_cases c:d=t
  · simp [c]
  · simp only [c,if_false]
    rw [mM]
    have:t ∉ [d]:=by simp; exact fun e=>c e.symm
    simp [this]

theorem St.Zk (st:St) (τ:Tr):(st.apply τ).gb=τ.apply st.gb:=by
  unfold St.apply St.gb Tr.apply
  have e1:(St.get (match τ.dst with | some d=>(d,τ.v) :: ba [d] st.sl | none=>st.sl))=fun t=>if τ.dst=some t then τ.v else St.get st.sl t:=by
    funext t
    cases hd:τ.dst with
    | none=>simp
    | some d =>
      simp only [Option.some.injEq]
      exact Ku d τ.v st.sl t
  have e2:look (match τ.mem,τ.fU with | [],[]=>st.lb | m,m'=>m'++ba (m.map (·.1)) st.lb)=fun k=>match look τ.fU k with | some b=>some b | none=>if k∈τ.mem.map (·.1) then none else look st.lb k:=by
    funext k
    split
    · rename_i h1 h2
      simp [h1,h2,look]
    · rw [wU,mM]
      cases look τ.fU k <;> simp
  show M.mk (St.get _) (look _)=_
  rw [e1,e2]
  rfl

/-! Pv blocks YV an operation names are ai3 YV it has looked up -/

theorem II {lb:List (Nat × bQ)} {x:AV} {cs:List AV} {ro:List (Nat × bQ)} {ob:Ob} (h:ql lb x=some (cs,ro,ob)):∀ p,p∈ro→look lb p.1=some p.2:=by
  unfold ql at h
  split at h
  · split at h
    · rename_i hl
      simp only [Option.some.injEq,Prod.mk.injEq] at h
      obtain ⟨-,rfl,-⟩:=h
      intro p hp
      simp only [List.mem_singleton] at hp
      subst hp
      exact hl
    · cases h
  · rename_i key k i off
    split at h
    · rename_i e k' n f hl
      cases hb:Nat.beq k k' with
      | false=>rw [hb] at h; cases h
      | true =>
        rw [hb] at h
        simp only [cond_true,Option.some.injEq,Prod.mk.injEq] at h
        obtain ⟨-,rfl,-⟩:=h
        intro p hp
        simp only [List.mem_singleton] at hp
        subst hp
        exact hl
    · cases h
  · simp only [Option.some.injEq,Prod.mk.injEq] at h
    obtain ⟨-,rfl,-⟩:=h
    intro p hp
    cases hp
  · cases h

theorem bW {lb ro:List (Nat × bQ)} (h:ro=[]):∀ p,p∈ro→look lb p.1=some p.2:=fun p hp=>by subst h; cases hp

theorem aei {T:List (Nat × TI)} {lb:List (Nat × bQ)} {ρ:Operand→Option AV} {o:Op} {v:AV} {ro:List (Nat × bQ)} {ob:Ob} (h:evV T lb ρ o=some (v,ro,ob)):∀ p,p∈ro→look lb p.1=some p.2:=by
  have Wi:∀ {x:AV},ok x=some (v,ro,ob)→ro=[]:=fun h=>by simp only [ok,Option.some.injEq,Prod.mk.injEq] at h; exact h.2.1.symm
  unfold evV at h
  split at h
  · split at h
    · exact bW (Wi h)
    · cases h
  · split at h
    · exact bW (Wi h)
    · cases h
  · split at h
    · split at h
      · rename_i hc
        split at h
        · simp only [Option.some.injEq,Prod.mk.injEq] at h
          obtain ⟨-,rfl,-⟩:=h
          exact II hc
        · cases h
      · cases h
    · cases h
  · split at h
    · unfold Km at h
      split at h
      · split at h <;> first | exact bW (Wi h) | cases h
      · cases h
    · cases h
  · split at h
    · unfold QG at h
      split at h
      · split at h
        · split at h
          · split at h
            · exact bW (Wi h)
            · cases h
          · cases h
        · cases h
      · cases h
    · cases h
  · split at h
    · unfold wS at h
      split at h
      · split at h
        · split at h
          · rename_i ie _ n _ m f _ _ _
            generalize hb:Nat.beq _ _=bb at h
            cases bb with
            | false=>cases h
            | true =>
              simp only [cond_true,Option.some.injEq,Prod.mk.injEq] at h
              exact bW h.2.1.symm
          · simp only [Option.some.injEq,Prod.mk.injEq] at h
            exact bW h.2.1.symm
          · cases h
        · cases h
      · cases h
    · cases h
  · split at h
    · unfold Kn at h
      split at h
      · simp only [Option.some.injEq,Prod.mk.injEq] at h
        exact bW h.2.1.symm
      · cases h
    · cases h
  · split at h
    · unfold XX at h
      split at h
      · split at h
        · simp only [Option.some.injEq,Prod.mk.injEq] at h
          exact bW h.2.1.symm
        · simp only [Option.some.injEq,Prod.mk.injEq] at h
          exact bW h.2.1.symm
        · cases h
      · split at h
        · simp only [Option.some.injEq,Prod.mk.injEq] at h
          exact bW h.2.1.symm
        · cases h
      · split at h
        · exact bW (Wi h)
        · cases h
      · cases h
    · cases h
  · split at h
    · unfold acx at h
      split at h <;> first | exact bW (Wi h) | cases h
    · cases h
  · split at h
    · unfold V4 at h
      split at h
      · exact bW (Wi h)
      · cases h
    · cases h
  · split at h
    · unfold Dc at h
      split at h
      · split at h
        · exact bW (Wi h)
        · cases h
      · cases h
    · cases h
  · unfold Ko at h
    split at h
    · split at h
      · split at h
        · exact bW (Wi h)
        · cases h
      · cases h
    · cases h
  · split at h
    · exact bW (Wi h)
    · cases h
  · split at h
    · unfold Kq at h
      split at h
      · unfold zO at h
        split at h <;> first | exact bW (Wi h) | (simp only [Option.some.injEq,Prod.mk.injEq] at h; exact bW h.2.1.symm) | cases h
      · split at h
        · unfold Dd at h
          split at h <;> first | (simp only [Option.some.injEq,Prod.mk.injEq] at h; exact bW h.2.1.symm) | cases h
        · cases h
      · split at h
        · unfold zP at h
          split at h
          · generalize (_&&_&&_:Bool)=bb at h
            cases bb with
            | false=>cases h
            | true=>exact bW (Wi h)
          · cases h
        · cases h
      · cases h
    · cases h
  · split at h
    · unfold XY at h
      split at h <;> first | exact bW (Wi h) | cases h
    · cases h
  · split at h
    · unfold Hd at h
      split at h
      · split at h
        · exact bW (Wi h)
        · cases h
      · cases h
    · cases h
  · split at h
    · unfold Hd at h
      split at h
      · split at h
        · exact bW (Wi h)
        · cases h
      · cases h
    · cases h
  · cases h

theorem Ya {lb:List (Nat × bQ)} {x:AV} {y:D} {ro:List (Nat × bQ)} {ob:Ob} (h:QI lb x=some (y,ro,ob)):∀ p,p∈ro→look lb p.1=some p.2:=by
  unfold QI at h
  split at h
  · simp only [Option.some.injEq,Prod.mk.injEq] at h
    exact bW h.2.1.symm
  · simp only [Option.some.injEq,Prod.mk.injEq] at h
    exact bW h.2.1.symm
  · split at h
    · rename_i hl
      simp only [Option.some.injEq,Prod.mk.injEq] at h
      obtain ⟨-,rfl,-⟩:=h
      intro p hp
      simp only [List.mem_singleton] at hp
      subst hp
      exact hl
    · cases h
  · cases h

theorem K9 {lb:List (Nat × bQ)}:∀ {xs:List AV} {ys:List D} {ro:List (Nat × bQ)} {ob:Ob},Ec lb xs=some (ys,ro,ob)→∀ p,p∈ro→look lb p.1=some p.2
  | [],ys,ro,ob,h=>by simp only [Ec,Option.some.injEq,Prod.mk.injEq] at h; exact bW h.2.1.symm
  | x :: r,ys,ro,ob,h=>by
    simp only [Ec] at h
    split at h
    · rename_i h1 h2
      simp only [Option.some.injEq,Prod.mk.injEq] at h
      obtain ⟨-,rfl,-⟩:=h
      intro p hp
      rcases List.mem_append.1 hp with hp | hp
      · exact Ya h1 p hp
      · exact K9 h2 p hp
    · cases h

theorem TB {lb:List (Nat × bQ)} {x y:AV} {ro:List (Nat × bQ)} {ob:Ob} (h:BP lb x=some (y,ro,ob)):∀ p,p∈ro→look lb p.1=some p.2:=by
  unfold BP at h
  split at h
  · simp only [Option.some.injEq,Prod.mk.injEq] at h
    exact bW h.2.1.symm
  · split at h
    · rename_i hl
      split at h
      · rename_i hb
        simp only [Option.some.injEq,Prod.mk.injEq] at h
        obtain ⟨-,rfl,-⟩:=h
        intro p hp
        rcases List.mem_cons.1 hp with rfl | hp
        · exact hl
        · exact K9 hb p hp
      · cases h
    · cases h
  · split at h
    · rename_i hb
      simp only [Option.some.injEq,Prod.mk.injEq] at h
      obtain ⟨-,rfl,-⟩:=h
      exact K9 hb
    · cases h
  · split at h
    · rename_i hl
      simp only [Option.some.injEq,Prod.mk.injEq] at h
      obtain ⟨-,rfl,-⟩:=h
      intro p hp
      simp only [List.mem_singleton] at hp
      subst hp
      exact hl
    · simp only [Option.some.injEq,Prod.mk.injEq] at h
      exact bW h.2.1.symm
    · cases h
  · simp only [Option.some.injEq,Prod.mk.injEq] at h
    exact bW h.2.1.symm
  · split at h
    · rename_i hb
      simp only [Option.some.injEq,Prod.mk.injEq] at h
      obtain ⟨-,rfl,-⟩:=h
      exact Ya hb
    · cases h

theorem PD {lb:List (Nat × bQ)}:∀ {xs ys:List AV} {ro:List (Nat × bQ)} {ob:Ob},zS lb xs=some (ys,ro,ob)→∀ p,p∈ro→look lb p.1=some p.2
  | [],ys,ro,ob,h=>by simp only [zS,Option.some.injEq,Prod.mk.injEq] at h; exact bW h.2.1.symm
  | x :: r,ys,ro,ob,h=>by
    simp only [zS] at h
    split at h
    · rename_i h1 h2
      simp only [Option.some.injEq,Prod.mk.injEq] at h
      obtain ⟨-,rfl,-⟩:=h
      intro p hp
      rcases List.mem_append.1 hp with hp | hp
      · exact TB h1 p hp
      · exact PD h2 p hp
    · cases h

theorem acC {lb:List (Nat × bQ)} {x y:AV} {ro:List (Nat × bQ)} {ob:Ob} (h:Bv lb x=some (y,ro,ob)):∀ p,p∈ro→look lb p.1=some p.2:=by
  unfold Bv at h
  split at h
  · split at h
    · rename_i hb
      simp only [Option.some.injEq,Prod.mk.injEq] at h
      obtain ⟨-,rfl,-⟩:=h
      exact PD hb
    · cases h
  · exact TB h

theorem La {lb:List (Nat × bQ)}:∀ {xs ys:List AV} {ro:List (Nat × bQ)} {ob:Ob},yK lb xs=some (ys,ro,ob)→∀ p,p∈ro→look lb p.1=some p.2
  | [],ys,ro,ob,h=>by simp only [yK,Option.some.injEq,Prod.mk.injEq] at h; exact bW h.2.1.symm
  | x :: r,ys,ro,ob,h=>by
    simp only [yK] at h
    split at h
    · rename_i h1 h2
      simp only [Option.some.injEq,Prod.mk.injEq] at h
      obtain ⟨-,rfl,-⟩:=h
      intro p hp
      rcases List.mem_append.1 hp with hp | hp
      · exact acC h1 p hp
      · exact La h2 p hp
    · cases h

theorem Ey {lb:List (Nat × bQ)}:∀ {ks:List Nat} {l:List (Nat × bQ)},looks lb ks=some l→∀ p,p∈l→look lb p.1=some p.2
  | [],l,h=>by simp only [looks,Option.some.injEq] at h; exact bW h.symm
  | k :: r,l,h=>by
    simp only [looks] at h
    split at h
    · rename_i h1 h2
      simp only [Option.some.injEq] at h
      subst h
      intro p hp
      rcases List.mem_cons.1 hp with rfl | hp
      · exact h1
      · exact Ey h2 p hp
    · cases h

theorem TC {P:Program} {T:List (Nat × TI)} {lb:List (Nat × bQ)} {ρ:Operand→Option AV} {dst:Option Nat} {quiet:Bool} {j8 uF:List Df} {op:Op} {r:R} (h:Ts P T lb ρ dst quiet j8 op=some (r,uF)) :
    (∀ p,p∈r.ro→look lb p.1=some p.2)∧(∀ p,p∈r.mem→look lb p.1=some p.2)∧(quiet=true→r.mem=[]∧r.fU=[]):=by
  have one:∀ {κ:Nat} {b:bQ},look lb κ=some b→∀ p,p∈[(κ,b)]→look lb p.1=some p.2:=fun hl p hp=>by
    simp only [List.mem_singleton] at hp
    subst hp
    exact hl
  unfold Ts at h
  split at h
  · split at h
    · simp only [Option.some.injEq,Prod.mk.injEq] at h
      obtain ⟨rfl,-⟩:=h
      exact ⟨bW rfl,bW rfl,fun hq=>(by cases hq)⟩
    · cases h
  · split at h
    · split at h
      · split at h
        · simp only [Option.some.injEq,Prod.mk.injEq] at h
          obtain ⟨rfl,-⟩:=h
          exact ⟨bW rfl,bW rfl,fun hq=>(by cases hq)⟩
        generalize (wJ.oo _&&_)=bb at h
        cases bb with
        | false=>cases h
        | true =>
          simp only [cond_true,Option.some.injEq,Prod.mk.injEq] at h
          obtain ⟨rfl,-⟩:=h
          exact ⟨bW rfl,bW rfl,fun hq=>(by cases hq)⟩
      · cases h
    · cases h
  · split at h
    · split at h
      · simp only [Option.some.injEq,Prod.mk.injEq] at h
        obtain ⟨rfl,-⟩:=h
        exact ⟨bW rfl,bW rfl,fun _=>⟨rfl,rfl⟩⟩
      · split at h
        · simp only [Option.some.injEq,Prod.mk.injEq] at h
          obtain ⟨rfl,-⟩:=h
          exact ⟨bW rfl,bW rfl,fun hq=>(by cases hq)⟩
        · cases h
    · cases h
  · split at h
    · split at h
      · rename_i r' oh
        simp only [Option.some.injEq,Prod.mk.injEq] at h
        obtain ⟨rfl,-⟩:=h
        refine ⟨?_,?_,fun hq=>(by cases hq)⟩
        all_goals
          unfold QQ at oh
          split at oh
          · rename_i i xs hi hc
            split at oh
            · rename_i κ off
              split at oh
              · rename_i cs hl
                generalize (Nat.beq _ _&&_&&_&&_)=bb at oh
                cases bb with
                | false=>cases oh
                | true =>
                  simp only [cond_true,Option.some.injEq] at oh
                  subst oh
                  first | exact one hl | exact bW rfl
              · cases oh
            · split at oh
              · rename_i e k' n f ds hl hp
                generalize hb:(Nat.beq _ k'&&_&&_&&_)=bb at oh
                cases bb with
                | false=>cases oh
                | true =>
                  simp only [Bool.and_eq_true] at hb
                  have ek:=Nat.eq_of_beq_eq_true hb.1.1.1
                  subst ek
                  simp only [cond_true,Option.some.injEq] at oh
                  subst oh
                  first | exact one hl | exact bW rfl
              · cases oh
            · cases oh
          · cases oh
      · cases h
    · cases h
  · split at h
    · split at h
      · split at h
        · rename_i r' BD
          simp only [Option.some.injEq,Prod.mk.injEq] at h
          obtain ⟨rfl,-⟩:=h
          have main:(∀ p,p∈r'.ro→look lb p.1=some p.2)∧(∀ p,p∈r'.mem→look lb p.1=some p.2):=by
            unfold K7 at BD
            split at BD
            · split at BD
              · rename_i i hi
                split at BD
                · rename_i m g ro ob l4
                  have nr:∀ p,p∈ro→look lb p.1=some p.2:=by
                    unfold aaF at l4
                    split at l4
                    · simp only [Option.some.injEq,Prod.mk.injEq] at l4
                      exact bW l4.2.2.1.symm
                    · simp only [Option.some.injEq,Prod.mk.injEq] at l4
                      exact bW l4.2.2.1.symm
                    · simp only [Option.some.injEq,Prod.mk.injEq] at l4
                      exact bW l4.2.2.1.symm
                    · split at l4
                      · rename_i hl
                        generalize hb:Nat.beq _ _=bb at l4
                        cases bb with
                        | false=>cases l4
                        | true =>
                          simp only [cond_true,Option.some.injEq,Prod.mk.injEq] at l4
                          obtain ⟨-,-,rfl,-⟩:=l4
                          exact one hl
                      · cases l4
                    · cases l4
                  split at BD
                  · simp only [Option.some.injEq] at BD
                    subst BD
                    exact ⟨nr,bW rfl⟩
                  · split at BD
                    · rename_i hl
                      generalize (Nat.beq _ _&&_&&_)=bb at BD
                      cases bb with
                      | false=>cases BD
                      | true =>
                        simp only [cond_true,Option.some.injEq] at BD
                        subst BD
                        exact ⟨nr,one hl⟩
                    · cases BD
                  · cases BD
                · cases BD
              · cases BD
            · cases BD
          exact ⟨main.1,main.2,fun hq=>(by cases hq)⟩
        · cases h
      · cases h
    · cases h
  · split at h
    · unfold We at h
      split at h
      · split at h
        · split at h
          · rename_i hb
            generalize fV _=bb at h
            cases bb with
            | false=>cases h
            | true =>
              simp only [cond_true,Option.some.injEq,Prod.mk.injEq] at h
              obtain ⟨rfl,-⟩:=h
              exact ⟨La hb,bW rfl,fun _=>⟨rfl,rfl⟩⟩
          · cases h
        · cases h
      · rename_i hand res back Zf
        split at h
        · split at h
          · rename_i dz zM
            generalize hb:(wJ.oo _&&Ks res back&&wJ res&&(!quiet||(hand.isEmpty&&back.isEmpty))&&back.all (fun p=>!hand.contains p.1))=bb at h
            cases bb with
            | false=>cases h
            | true =>
              simp only [cond_true,Option.some.injEq,Prod.mk.injEq] at h
              obtain ⟨rfl,-⟩:=h
              simp only [Bool.and_eq_true,Bool.or_eq_true,Bool.not_eq_true',List.isEmpty_iff] at hb
              refine ⟨bW rfl,Ey zM,fun hq=>?_⟩
              rcases hb.1.2 with h1 | ⟨h1,h2⟩
              · rw [hq] at h1; cases h1
              · subst h1; subst h2
                simp only [looks,Option.some.injEq] at zM
                exact ⟨zM.symm,rfl⟩
          · cases h
        · cases h
      · rename_i κ b' Zf
        split at h
        · split at h
          · rename_i b zM
            generalize hb:(wJ.oo _&&!quiet)=bb at h
            cases bb with
            | false=>cases h
            | true =>
              simp only [cond_true,Option.some.injEq,Prod.mk.injEq] at h
              obtain ⟨rfl,-⟩:=h
              simp only [Bool.and_eq_true,Bool.not_eq_true'] at hb
              refine ⟨bW rfl,fun p hp=>?_,fun hq=>?_⟩
              · have:p=(κ,b):=by simpa using hp
                subst this
                exact zM
              · rw [hq] at hb; cases hb.2
          · cases h
        · cases h
      · rename_i hand nw res back Zf
        split at h
        · split at h
          · rename_i dz zM
            generalize hb:(wJ.oo _&&acA _ hand dz nw res back&&wJ res&&!quiet)=bb at h
            cases bb with
            | false=>cases h
            | true =>
              simp only [cond_true,Option.some.injEq,Prod.mk.injEq] at h
              obtain ⟨rfl,-⟩:=h
              simp only [Bool.and_eq_true,Bool.not_eq_true'] at hb
              exact ⟨bW rfl,Ey zM,fun hq=>by rw [hq] at hb; cases hb.2⟩
          · cases h
        · cases h
      · cases h
    · cases h
  · split at h
    · split at h
      · simp only [Option.some.injEq,Prod.mk.injEq] at h
        obtain ⟨rfl,-⟩:=h
        exact ⟨bW rfl,bW rfl,fun hq=>(by cases hq)⟩
      · cases h
    · cases h
  · split at h
    · simp only [Option.some.injEq,Prod.mk.injEq] at h
      obtain ⟨rfl,-⟩:=h
      exact ⟨bW rfl,bW rfl,fun _=>⟨rfl,rfl⟩⟩
    · split at h
      · rename_i hv
        simp only [Option.some.injEq,Prod.mk.injEq] at h
        obtain ⟨rfl,-⟩:=h
        exact ⟨aei hv,bW rfl,fun _=>⟨rfl,rfl⟩⟩
      · cases h

theorem TE {P:Program} {T:List (Nat × TI)} {lb:List (Nat × bQ)} {ρ:Operand→Option AV} {dst:Option Nat} {quiet:Bool} {j8 uF:List Df} {op:Op} {r:R} (h:Tt P T lb ρ dst quiet j8 op=some (r,uF)) :
    (∀ p,p∈r.ro→look lb p.1=some p.2)∧(∀ p,p∈r.mem→look lb p.1=some p.2)∧(quiet=true→r.mem=[]∧r.fU=[]):=by
  unfold Tt at h
  split at h
  · rename_i hm
    simp only [Option.some.injEq,Prod.mk.injEq] at h
    obtain ⟨rfl,-⟩:=h
    exact ⟨(K6 hm).1,(K6 hm).2.1,(K6 hm).2.2.1⟩
  split at h
  · rename_i hm
    simp only [Option.some.injEq,Prod.mk.injEq] at h
    obtain ⟨rfl,-⟩:=h
    exact Ze hm
  split at h
  · simp only [Option.some.injEq,Prod.mk.injEq] at h
    obtain ⟨rfl,-⟩:=h
    exact ⟨bW rfl,bW rfl,fun _=>⟨rfl,rfl⟩⟩
  · exact TC h

theorem Wj {c:rB} {r r':R} (h:Tu c r=some r'):r'.ro=r.ro∧r'.mem=r.mem∧(r.fU=[]→r'.fU=[]):=by
  unfold Tu at h
  split at h
  · rename_i hm
    have nn:∀ {x:List (Nat × bQ)},r.fU=[]→x=[]:=fun e=>by rw [hm] at e; cases e
    split at h
    · generalize Nat.beq _ _=bb at h
      cases bb with
      | false=>cases h
      | true =>
        simp only [cond_true,Option.some.injEq] at h
        subst h
        exact ⟨rfl,rfl,nn⟩
    · simp only [Option.some.injEq] at h
      subst h
      exact ⟨rfl,rfl,nn⟩
    · cases h
  · split at h
    · simp only [Option.some.injEq] at h
      subst h
      exact ⟨rfl,rfl,fun _=>rfl⟩
    · cases h
  · cases h

theorem Wk {c:FE} {r r':R} (h:Tv c r=some r'):r'.ro=r.ro∧r'.mem=r.mem∧(r.fU=[]→r'.fU=[]):=by
  unfold Tv at h
  split at h
  · rename_i hm
    split at h
    · simp only [Option.some.injEq] at h
      subst h
      exact ⟨rfl,rfl,fun e=>by rw [hm] at e; cases e⟩
    · simp only [Option.some.injEq] at h
      subst h
      exact ⟨rfl,rfl,fun e=>by rw [hm] at e; cases e⟩
    · cases h
  · cases h

theorem Wl {P:Program} {T:List (Nat × TI)} {lb:List (Nat × bQ)} {ρ:Operand→Option AV} {dst:Option Nat} {quiet:Bool} {j8 uF:List Df} {op:Op} {r:R} (h:aaI P T lb ρ dst quiet j8 op=some (r,uF)) :
    (∀ p,p∈r.ro→look lb p.1=some p.2)∧(∀ p,p∈r.mem→look lb p.1=some p.2)∧(quiet=true→r.mem=[]∧r.fU=[]):=by
  unfold aaI at h
  split at h
  · rename_i r0 Nz h0
    obtain ⟨q1,q2,q3⟩:=TE h0
    split at h
    · split at h
      · rename_i r' hn
        simp only [Option.some.injEq,Prod.mk.injEq] at h
        obtain ⟨rfl,-⟩:=h
        obtain ⟨e1,e2,e3⟩:=Wj hn
        rw [e1,e2]
        exact ⟨q1,q2,fun hq=>⟨(q3 hq).1,e3 (q3 hq).2⟩⟩
      · simp only [Option.some.injEq,Prod.mk.injEq] at h
        obtain ⟨rfl,-⟩:=h
        exact ⟨q1,q2,q3⟩
    · split at h
      · rename_i r' hn
        simp only [Option.some.injEq,Prod.mk.injEq] at h
        obtain ⟨rfl,-⟩:=h
        obtain ⟨e1,e2,e3⟩:=Wk hn
        rw [e1,e2]
        exact ⟨q1,q2,fun hq=>⟨(q3 hq).1,e3 (q3 hq).2⟩⟩
      · simp only [Option.some.injEq,Prod.mk.injEq] at h
        obtain ⟨rfl,-⟩:=h
        exact ⟨q1,q2,q3⟩
    · split at h
      · generalize Nat.beq _ _=bb at h
        cases bb with
        | false =>
          simp only [cond_false,Option.some.injEq,Prod.mk.injEq] at h
          obtain ⟨rfl,-⟩:=h
          exact ⟨q1,q2,q3⟩
        | true =>
          simp only [cond_true,Option.some.injEq,Prod.mk.injEq] at h
          obtain ⟨rfl,-⟩:=h
          exact ⟨q1,q2,q3⟩
      · simp only [Option.some.injEq,Prod.mk.injEq] at h
        obtain ⟨rfl,-⟩:=h
        exact ⟨q1,q2,q3⟩
    · simp only [Option.some.injEq,Prod.mk.injEq] at h
      obtain ⟨rfl,-⟩:=h
      exact ⟨q1,q2,q3⟩
  · cases h

def vt (ν:Nat→Bool) (p:List (Nat × Bool)):Prop:=∀ y,y∈p→ν y.1=y.2

theorem Wm {ν:Nat→Bool} {q p:List (Nat × Bool)} (h:acB q p=true) (hp:vt ν p):vt ν q:=by
  intro y hy
  simp only [acB,List.all_eq_true,List.any_eq_true,Bool.and_eq_true,beq_iff_eq] at h
  obtain ⟨z,hz,h1,h2⟩:=h y hy
  have:=hp z hz
  rw [Nat.eq_of_beq_eq_true h1,h2]
  exact this

section
variable {C : Cx} {A : M} {a : Act} {w : World} {S : Nat → Prop} {μ : Mu} {ν : Nat → Bool}

theorem FG (hgl:jU w S) {need:List (Nat × AV)} {p:List (Nat × Bool)} (Lb:∀ q,q∈need→Rel w S μ ν q.2 (a.tmps.getD q.1 undef)) (hp:vt ν p) (x:Operand) (y:AV) (h:Ty need p x=some y):Rel w S μ ν y (a.eval x):=by
  cases x with
  | tmp t =>
    simp only [Ty] at h
    cases hl:look need t with
    | none=>rw [hl] at h; cases h
    | some z =>
      rw [hl] at h
      have hr:=Lb (t,z) (jt hl)
      show Rel w S μ ν y (a.tmps.getD t undef)
      simp only at h hr
      cases z with
      | g q b =>
        simp only [aeh] at h
        cases hs:acB q p with
        | false=>rw [hs] at h; cases h
        | true =>
          rw [hs] at h
          simp only [cond_true,Option.some.injEq] at h
          subst h
          cases hr with
          | g h1 _=>exact h1 (Wm hs hp)
      | _=>simp only [aeh,Option.some.injEq] at h; subst h; exact hr
  | const v=>exact SV h
  | func f =>
    simp only [Ty,Option.some.injEq] at h
    subst h
    exact .fn rfl (fun i hi=>absurd hi (by simp))
  | global g =>
    simp only [Ty] at h
    cases hl:look (Ea.gl) g with
    | none=>rw [hl] at h; cases h
    | some cs =>
      rw [hl] at h
      simp only [Option.some.injEq] at h
      subst h
      obtain ⟨gu,h1,h2⟩:=hgl (g,cs) (jt hl)
      exact .ref gu h1 h2

theorem Lc {sl:List (Nat × AV)}:∀ {ts:List Nat} {q:Nat × AV},q∈rM sl ts→q.2=St.get sl q.1∧q.1∈ts
  | t :: r,q,h=>by
    rcases List.mem_cons.1 h with rfl | h'
    · exact ⟨rfl,List.mem_cons_self⟩
    · obtain ⟨h1,h2⟩:=Lc h'
      exact ⟨h1,List.mem_cons_of_mem _ h2⟩

theorem Hj {sl:List (Nat × AV)}:∀ {ts:List Nat} {s:Nat},s∈ts→(s,St.get sl s)∈rM sl ts
  | t :: r,s,h=>by
    rcases List.mem_cons.1 h with rfl | h'
    · exact List.mem_cons_self
    · exact List.mem_cons_of_mem _ (Hj h')

theorem FH {gl:List (Nat × Bool)}:∀ {ss:List Nat} {q:Nat × Bool},q∈QS gl ss→look gl q.1=some q.2
  | s :: r,q,h=>by
    simp only [QS] at h
    cases hl:look gl s with
    | none=>rw [hl] at h; exact FH h
    | some e =>
      rw [hl] at h
      rcases List.mem_cons.1 h with rfl | h'
      · exact hl
      · exact FH h'

theorem BU {gl:List (Nat × Bool)} {ob:Ob}:∀ {p:List (Nat × Bool)},(BT gl p ob).den→(∀ s e,s∈p.map (·.1)→look gl s=some e→ν s=e)→vt ν p→ob.den
  | [],h,_,_=>h
  | (s,w) :: r,h,hg,hp=>by
    simp only [BT] at h
    have hr:∀ s e,s∈r.map (·.1)→look gl s=some e→ν s=e:=fun s e hs=>hg s e (by simp only [List.map_cons,List.mem_cons]; exact .inr hs)
    have hp':vt ν r:=fun y hy=>hp y (List.mem_cons_of_mem _ hy)
    cases hl:look gl s with
    | none=>rw [hl] at h; exact BU h hr hp'
    | some e =>
      rw [hl] at h
      exact BU (Ob.acw h (by rw [← hg s e (by simp) hl]; exact hp (s,w) List.mem_cons_self)) hr hp'

theorem PE {gl Tz:List (Nat × Bool)} {s:Nat} {e:Bool} {ob:Ob} (h:Zj gl s e=(Tz,ob)) (cm:ob.den):look Tz s=some e∧∀ t x,look gl t=some x→look Tz t=some x:=by
  unfold Zj at h
  cases hl:look gl s with
  | some e' =>
    rw [hl] at h
    simp only [Prod.mk.injEq] at h
    obtain ⟨rfl,rfl⟩:=h
    simp only [Ob.den] at cm
    exact ⟨by rw [hl,cm],fun t x h=>h⟩
  | none =>
    rw [hl] at h
    simp only [Prod.mk.injEq] at h
    obtain ⟨rfl,rfl⟩:=h
    refine ⟨by rw [wU,hl]; simp [look],fun t x ht=>by rw [wU,ht]⟩

theorem TF {ops:Array Oper} {j s:Nat} (hj:Dg ops j=some s) (gJ:s < a.tmps.size):yielded ops a.tmps j=match a.tmps.getD s undef with | .bool b=>some b | _=>none:=by
  unfold Dg at hj
  cases ho:ops[j]? with
  | none=>rw [ho] at hj; cases hj
  | some o =>
    rw [ho] at hj
    simp only at hj
    unfold yielded
    rw [ho]
    simp only [Option.bind_some,hj,Array.getElem?_eq_getElem gJ]
    have e:a.tmps.getD s undef=a.tmps[s]:=by simp [Array.getD,gJ]
    rw [e]
    cases a.tmps[s] <;> rfl


theorem TG {p:List (Nat × Bool)} {v:AV} {x:Value} (hp:vt ν p) (h:Rel w S μ ν v x):Rel w S μ ν (FF p v) x:=by
  cases p with
  | nil=>exact h
  | cons y r=>exact .g (fun _=>h) (fun hn=>absurd hp hn)

/-- Pv same aej,with acD name for its result -/
theorem dA.rename {τ τ':Tr} {a':Act} {w':World} {S':Nat→Prop} {μ':Mu} (h:dA C (τ.apply A) a' w' S' μ' ν) (hd:τ'.dst=τ.dst) (hm:τ'.mem=τ.mem) (IH:τ'.fU=τ.fU) (hv:∀ x,Rel w' S' μ' ν τ.v x→Rel w' S' μ' ν τ'.v x):dA C (τ'.apply A) a' w' S' μ' ν:=by
  have e:(τ'.apply A).lb=(τ.apply A).lb:=by simp only [Tr.apply,hm,IH]
  refine ⟨h.tmps,h.defers,fun t=>?_,by rw [e]; exact h.mem,by rw [e]; exact h.inj,by rw [e]; exact h.own,h.fA,h.fresh,h.bound,h.kept⟩
  have h0:=h.eJ t
  simp only [Tr.apply,hd] at h0 ⊢
  split
  · rename_i c
    simp only [c,if_true] at h0
    exact hv _ h0
  · rename_i c
    simp only [c,if_false] at h0
    exact h0

theorem QU {T:List (Nat × TI)} (hT:og C.P T) {ops:Array Oper} {st:St} {gl Tz:List (Nat × Bool)} {j8 uF:List Df} {o:Oper} {τ:Tr} {ob:Ob}
    (h:Wh C.P T C.nt ops st gl j8 o=some (τ,Tz,uF,ob)) (cm:ob.den) (hν:∀ s e,look Tz s=some e→ν s=e) :
    Kl C ν ops o τ∧(∀ p,p∈τ.gs→ν p.1=p.2)∧En τ st.gb∧∀ t x,look gl t=some x→look Tz t=some x:=by
  unfold Wh at h
  split at h
  case h_2=>cases h
  rename_i p ss gl1 DJ vu eF
  have hd:∀ t,o.dst=some t→t < C.nt:=fun t ht=>by
    rw [ht] at eF
    simp only at eF
    exact Nat.lt_of_succ_le (Nat.le_of_ble_eq_true eF)
  -- Pv path
  have path:DJ.den→(∀ s e,look gl1 s=some e→ν s=e)→(∀ t x,look gl t=some x→look gl1 t=some x) ∧
      ∀ (A:M) (a:Act) (w:World) (S:Nat→Prop) (μ:Mu),dA C A a w S μ ν→(∀ s,s∈ss→A.sl s=St.get st.sl s)→(Region.wanted o (yielded ops a.tmps)=true→vt ν p)∧(Region.wanted o (yielded ops a.tmps)=false→p≠[]∧¬ vt ν p):=by
    intro BV hν1
    unfold pathOf at vu
    split at vu
    · rename_i hg
      simp only [Option.some.injEq,Prod.mk.injEq] at vu
      obtain ⟨rfl,rfl,rfl,rfl⟩:=vu
      refine ⟨fun _ _ h=>h,fun A a w S μ hs _=>⟨fun _ y hy=>(by cases hy),fun hw=>?_⟩⟩
      simp [Region.wanted,hg] at hw
    · rename_i j want hg
      split at vu
      · rename_i s Y0
        cases hnt:Nat.ble (s+1) C.nt with
        | false=>rw [hnt] at vu; cases vu
        | true =>
        rw [hnt] at vu
        simp only [cond_true] at vu
        split at vu
        · rename_i q e hbo
          generalize Wn:Zj gl s e=rg at vu
          obtain ⟨gl2,Jj⟩:=rg
          simp only [Option.some.injEq,Prod.mk.injEq] at vu
          obtain ⟨rfl,rfl,rfl,rfl⟩:=vu
          obtain ⟨g1,g2⟩:=PE Wn BV
          refine ⟨g2,fun A a w S μ hs hss=>?_⟩
          have hνs:=hν1 s e g1
          have hsA:=hss s (by simp)
          have hr:=hs.eJ s
          rw [hsA] at hr
          have gJ:s < a.tmps.size:=by rw [hs.tmps]; exact Nat.lt_of_succ_le (Nat.le_of_ble_eq_true hnt)
          have hy:=TF (a:=a) Y0 gJ
          have afU:Region.wanted o (yielded ops a.tmps)=((match a.tmps.getD s undef with | .bool b=>some b | _=>none) == some want):=by
            unfold Region.wanted
            rw [hg]
            simp only [hy]
          rw [afU]
          unfold aaM at hbo
          split at hbo
          · rename_i Wc
            simp only [Option.some.injEq,Prod.mk.injEq] at hbo
            obtain ⟨rfl,rfl⟩:=hbo
            rw [Wc] at hr
            have:=oj hr
            rw [this]
            refine ⟨fun hw y hy=>?_,fun hw=>⟨by simp,fun hh=>?_⟩⟩
            · simp only [List.nil_append,List.mem_singleton] at hy
              subst hy
              simp only [beq_iff_eq,Option.some.injEq] at hw
              rw [hνs,hw]
            · have:=hh (s,want) (by simp)
              rw [hνs] at this
              simp [this] at hw
          · rename_i Wc
            simp only [Option.some.injEq,Prod.mk.injEq] at hbo
            obtain ⟨rfl,rfl⟩:=hbo
            rw [Wc] at hr
            generalize a.tmps.getD s undef=xv at hr ⊢
            cases hr with
            | g h1 h0 =>
              rename_i q0 e0
              by_cases hq:vt ν q0
              · have:=oj (h1 hq)
                rw [this]
                refine ⟨fun hw y hy=>?_,fun hw=>⟨by simp,fun hh=>?_⟩⟩
                · rcases List.mem_append.1 hy with hy | hy
                  · exact hq y hy
                  · simp only [List.mem_singleton] at hy
                    subst hy
                    simp only [beq_iff_eq,Option.some.injEq] at hw
                    rw [hνs,hw]
                · have:=hh (s,want) (by simp)
                  rw [hνs] at this
                  simp [this] at hw
              · have:=h0 hq
                rw [this]
                refine ⟨fun hw=>?_,fun _=>⟨by simp,fun hh=>hq (fun y hy=>hh y (List.mem_append.2 (.inl hy)))⟩⟩
                simp [undef] at hw
          · cases hbo
        · cases vu
      · cases vu
  have enN:∀ (ts:List Nat) (τ:Tr),τ.need=rM st.sl ts→(∀ p,p∈τ.ro→st.gb.lb p.1=some p.2)→(∀ p,p∈τ.mem→st.gb.lb p.1=some p.2)→En τ st.gb:=fun ts τ hn h1 h2 =>
    ⟨fun q hq=>by rw [hn] at hq; exact (Lc hq).1.symm,h1,h2⟩
  split at h
  · -- pick
    rename_i c x y DF
    split at h
    · rename_i s e ex ey FI
      generalize Wn:Zj gl1 s e=rg at h
      obtain ⟨gl2,Jj⟩:=rg
      simp only [Option.some.injEq,Prod.mk.injEq] at h
      obtain ⟨rfl,rfl,rfl,rfl⟩:=h
      obtain ⟨BV,DK⟩:=Ob.db cm
      obtain ⟨r1,r2⟩:=PE Wn DK
      obtain ⟨aaP,aek⟩:=path BV (fun s' e' hl=>hν s' e' (r2 s' e' hl))
      refine ⟨?_,fun q hq=>hν _ _ (FH hq),enN _ _ rfl (fun p hp=>by cases hp) (fun p hp=>by cases hp),fun t x h=>r2 t x (aaP t x h)⟩
      intro A a w S μ hs hen _ _
      have hA:∀ t,t∈ss++slotsOf [c,x,y]→A.sl t=St.get st.sl t:=fun t ht=>hen.need (t,St.get st.sl t) (Hj ht)
      obtain ⟨p1,p0⟩:=aek A a w S μ hs (fun s' BI=>hA s' (List.mem_append.2 (.inl BI)))
      have Lb:∀ q,q∈rM st.sl (ss++slotsOf [c,x,y])→Rel w S μ ν q.2 (a.tmps.getD q.1 undef):=fun q hq=>by
        have:=hs.eJ q.1
        rw [hen.need q hq] at this
        exact this
      split
      · rename_i hw
        have hp:=p1 hw
        have hνs:ν s=e:=hν s e r1
        unfold aaN at FI
        cases c with
        | tmp s' =>
          simp only at FI
          split at FI
          · rename_i e' ex' ey' h1 h2 h3
            simp only [Option.some.injEq,Prod.mk.injEq] at FI
            obtain ⟨rfl,rfl,rfl,rfl⟩:=FI
            have hc:=oj (FG hs.BG Lb hp _ _ h1)
            refine mI (x:=.bool (bif e' then ex' else ey')) hs hd ?_ (TG hp (g7 rfl)) rfl rfl rfl
            simp only [execOp,DF,hc,asBool,Sem.run_bind,Sem.run_pure,Result.andThen_ok]
            cases e' with
            | true =>
              have hpx:vt ν ((s',true) :: p):=fun y hy=>by
                rcases List.mem_cons.1 hy with rfl | hy
                · exact hνs
                · exact hp y hy
              have hx:=oj (FG hs.BG Lb hpx _ _ h2)
              simp [hx]
            | false =>
              have hpy:vt ν ((s',false) :: p):=fun y hy=>by
                rcases List.mem_cons.1 hy with rfl | hy
                · exact hνs
                · exact hp y hy
              have hx:=oj (FG hs.BG Lb hpy _ _ h3)
              simp [hx]
          · cases FI
        | const=>cases FI
        | global=>cases FI
        | func=>cases FI
      · rename_i hw
        obtain ⟨A9,hnp⟩:=p0 (by simpa using hw)
        refine ⟨S,μ,?_⟩
        have hr:Rel w S μ ν (FF p (.d (.v (.bool (bif e then ex else ey))))) undef:=by
          cases p with
          | nil=>exact absurd rfl A9
          | cons y r=>exact .g (fun hh=>absurd hh hnp) (fun _=>rfl)
        have h5:=hs.put (dst:=o.dst) hd hr
        have e0:(Tr.mk (rM st.sl (ss++slotsOf [c,x,y])) o.dst (FF p (.d (.v (.bool (bif e then ex else ey))))) [] [] [] (QS gl2 (s :: p.map (·.1)))).apply A=A.yE o.dst (FF p (.d (.v (.bool (bif e then ex else ey))))):=by
          unfold Tr.apply M.yE M.put
          cases hdd:o.dst with
          | none=>simp [look]
          | some d =>
            simp only [look,List.map_nil,List.not_mem_nil,if_false,Option.some.injEq]
            congr 1
            funext t
            by_cases cc:d=t
            · simp [cc]
            · have:¬ t=d:=fun e=>cc e.symm
              simp [cc,this]
        rw [e0]
        exact h5
    · cases h
  · rename_i op0 hnp
    split at h
    · rename_i r Nz hev
      simp only [Option.some.injEq,Prod.mk.injEq] at h
      obtain ⟨rfl,rfl,rfl,rfl⟩:=h
      obtain ⟨BV,DK⟩:=Ob.db cm
      obtain ⟨aaP,aek⟩:=path BV hν
      have aaQ:(∀ p,p∈r.ro→look st.lb p.1=some p.2)∧(∀ p,p∈r.mem→look st.lb p.1=some p.2)∧(p≠[]→r.mem=[]∧r.fU=[]):=by
        obtain ⟨q1,q2,q3⟩:=Wl hev
        exact ⟨q1,q2,fun A9=>q3 (by cases p with | nil=>exact absurd rfl A9 | cons _ _=>rfl)⟩
      refine ⟨?_,fun q hq=>hν _ _ (FH hq),enN _ _ rfl aaQ.1 aaQ.2.1,aaP⟩
      intro A a w S μ hs hen yD _
      have hA:∀ t,t∈ss++slotsOf o.op.operands.toList→A.sl t=St.get st.sl t:=fun t ht=>hen.need (t,St.get st.sl t) (Hj ht)
      obtain ⟨p1,p0⟩:=aek A a w S μ hs (fun s' BI=>hA s' (List.mem_append.2 (.inl BI)))
      have Lb:∀ q,q∈rM st.sl (ss++slotsOf o.op.operands.toList)→Rel w S μ ν q.2 (a.tmps.getD q.1 undef):=fun q hq=>by
        have:=hs.eJ q.1
        rw [hen.need q hq] at this
        exact this
      split
      · rename_i hw
        have hp:=p1 hw
        have ahM:r.ob.den:=BU DK (fun s e _ hl=>hν s e hl) hp
        have:=Wg hT hs (fun x y hxy=>FG hs.BG Lb hp x y hxy) hd hev hen.ro hen.mem ahM (fun κ hκ=>yD κ hκ) (rM st.sl (ss++slotsOf o.op.operands.toList)) (QS gl1 (p.map (·.1)))
        refine Oper.wp_mono (fun a' w' hh=>?_) this
        obtain ⟨S',μ',dE⟩:=hh
        exact ⟨S',μ',dE.rename rfl rfl rfl (fun x hx=>TG hp hx)⟩
      · rename_i hw
        obtain ⟨A9,ahN⟩:=p0 (by simpa using hw)
        obtain ⟨hm1,hm2⟩:=aaQ.2.2 A9
        refine ⟨S,μ,?_⟩
        have hr:Rel w S μ ν (FF p r.v) undef:=by
          cases p with
          | nil=>exact absurd rfl A9
          | cons y r=>exact .g (fun hh=>absurd hh ahN) (fun _=>rfl)
        have h5:=hs.put (dst:=o.dst) hd hr
        have e0:(Tr.mk (rM st.sl (ss++slotsOf o.op.operands.toList)) o.dst (FF p r.v) r.ro r.mem r.fU (QS gl1 (p.map (·.1)))).apply A=A.yE o.dst (FF p r.v):=by
          unfold Tr.apply M.yE M.put
          simp only [hm1,hm2]
          cases hdd:o.dst with
          | none=>simp [look]
          | some d =>
            simp only [look,List.map_nil,List.not_mem_nil,if_false,Option.some.injEq]
            congr 1
            funext t
            by_cases cc:d=t
            · simp [cc]
            · have:¬ t=d:=fun e=>cc e.symm
              simp [cc,this]
        rw [e0]
        exact h5
    · cases h

end

end Go.Av
