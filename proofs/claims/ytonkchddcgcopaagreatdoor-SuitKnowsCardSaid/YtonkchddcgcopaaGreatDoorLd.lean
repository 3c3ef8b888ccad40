/- Weakening of states: keys renamed, data said otherwise, nil taken for an empty row; own blocks that come back. -/
import Derived.Test.YtonkchddcgcopaaGreatDoorLb
import Derived.RangeFuncKeeps
import Derived.Lib.SliceRun
import Derived.ProofKit
import Derived.Maps.RangeRun
import Derived.Sort.OwnSortedInts
set_option linter.unusedSimpArgs false
set_option linter.unusedVariables false
set_option linter.unusedSectionVars false
set_option maxHeartbeats 1000000
namespace Go.Av
open Go
variable [E5]
abbrev Ren:=List (Nat × Option Nat)
def yO (ρ:Ren) (μ:Mu):Mu:=fun k=>match look ρ k with | some (some o)=>μ o | some none=>some none | none=>none
def tK (ρ:Ren) (κ' κ:Nat):Bool:=match look ρ κ' with | some (some o)=>Nat.beq o κ | _=>false
def TP (ρ:Ren) (κ':Nat):Bool:=match look ρ κ' with | some none=>true | _=>false
theorem BN {ρ:Ren} {κ' κ:Nat} (h:tK ρ κ' κ=true) (μ:Mu):yO ρ μ κ'=μ κ:=by
 unfold tK at h
 unfold yO
 split at h
 ·rename_i o hl
  rw [hl]
  simp only [Nat.eq_of_beq_eq_true h]
 ·cases h
theorem aaF {ρ:Ren} {κ':Nat} (h:TP ρ κ'=true) (μ:Mu):yO ρ μ κ'=some none:=by
 unfold TP at h
 unfold yO
 split at h
 ·rename_i hl; rw [hl]
 ·cases h
mutual
def tL (ρ:Ren):AV→AV→Option Prop
 | _,.any=>some True
 | .d x,.d y=>some (ue x y)
 | .own κ n,.own κ' n'=>bif tK ρ κ' κ then some (n=n') else none
 | .d (.v (.slice none 0 0)),.own κ' n'=>bif TP ρ κ' then some (n'=0) else none
 | .ptr κ o,.ptr κ' o'=>bif tK ρ κ' κ&&Nat.beq o o' then some True else none
 | .ref cs,.ref C6=>some (cs=C6)
 | .fn f l,.fn f' l'=>bif Nat.beq f f' then yP ρ l l' else none
 | .fD l,.fD l'=>yP ρ l l'
 | .ag l,.ag l'=>yP ρ l l'
 | .vr κ,.vr κ'=>bif tK ρ κ' κ then some True else none
 | .CS n f,.CS n' f'=>some (n=n'∧f=f')
 | .Br n f,.Br n' f'=>some (n=n'∧f=f')
 | .Br n f,.d (.sl n' f')=>some (n=n'∧f=f')
 | .zO κ k i o,.zO κ' k' i' o'=>bif tK ρ κ' κ&&Nat.beq k k'&&Nat.beq o o' then some (i=i') else none
 | _,_=>none
def yP (ρ:Ren):List AV→List AV→Option Prop
 | [],[]=>some True
 | x :: r,y :: s=>(match tL ρ x y,yP ρ r s with | some a,some b=>some (a∧b) | _,_=>none)
 | _,_=>none
end
def pw (ρ:Ren):bP→bP→Option Prop
 | .box cs,.box C6=>yP ρ cs C6
 | .row e k n f,.row e' k' n' f'=>bif Nat.beq e e'&&Nat.beq k k' then some (n=n'∧∀ i,i < n→f i=f' i) else none
 | .mp n f,.mp n' f'=>some (n=n'∧f=f')
 | .it mk n s,.it mk' n' s'=>bif tK ρ mk' mk then some (n=n'∧s=s') else none
 | .mx,.mx=>some True
 | _,_=>none
def Lt (ρ:Ren) (sl:List (Nat × AV)):List (Nat × AV)→Option Prop
 | []=>some True
 | (t,x) :: r=>(match tL ρ (St.get sl t) x,Lt ρ sl r with | some a,some b=>some (a∧b) | _,_=>none)
def Jh (ρ:Ren) (lb:List (Nat × bP)):List (Nat × bP)→Option Prop
 | []=>some True
 | (κ,b) :: r=>(match look ρ κ,Jh ρ lb r with
  | some (some o),some p=>(match look lb o with | some c=>(match pw ρ c b with | some q=>some (q∧p) | none=>none) | none=>none)
  | some none,some p=>(match b with | .row _ _ n _=>some (n=0∧p) | _=>none)
  | _,_=>none)
def Fp:Ren→Bool
 | []=>true
 | (_,some o) :: r=>r.all (fun p=>match p.2 with | some q=>!Nat.beq q o | none=>true)&&Fp r
 | (_,none) :: r=>Fp r
section
variable {w : World} {S : Nat → Prop} {μ : Mu} {ν : Nat → Bool} {ρ : Ren}
theorem qO {α:Type} {b:Bool} {x y:α} (h:(bif b then some x else none)=some y):b=true∧x=y:=by
 cases b with
 | true=>exact ⟨rfl,Option.some.inj h⟩
 | false=>cases h
mutual
theorem yQ:∀ (x y:AV) (ob:Prop),tL ρ x y=some ob→ob→∀ v,Rel w S μ ν x v→Rel w S (yO ρ μ) ν y v
 | x,y,ob,h,cD,v,hr=>by
  unfold tL at h
  split at h
  ·exact .any v
  ·simp only [Option.some.injEq] at h
   subst h
   exact .d (cD _ _ _ (jX.1 hr))
  ·obtain ⟨h1,rfl⟩:=qO h
   subst cD
   have hk:=BN h1 μ
   cases hr with
   | dt hμ=>exact .dt (by rw [hk]; exact hμ)
   | own hμ=>exact .own (by rw [hk]; exact hμ)
  ·obtain ⟨h1,rfl⟩:=qO h
   have:=dc rfl hr
   rw [this,cD]
   exact .dt (aaF h1 μ)
  ·obtain ⟨h1,-⟩:=qO h
   simp only [Bool.and_eq_true] at h1
   have e:=Nat.eq_of_beq_eq_true h1.2
   subst e
   cases hr with
   | ptr hμ=>exact .ptr (by rw [BN h1.1 μ]; exact hμ)
  ·simp only [Option.some.injEq] at h
   subst h
   subst cD
   cases hr with
   | ref ef hc h=>exact .ref ef hc h
  ·rename_i f l f' l'
   cases hb:Nat.beq f f' with
   | false=>rw [hb] at h; cases h
   | true =>
    rw [hb] at h
    have e:=Nat.eq_of_beq_eq_true hb
    subst e
    simp only [cond_true] at h
    cases hr with
    | fn hl hh =>
     obtain ⟨q1,q2⟩:=vx l l' ob h cD
     exact .fn (by omega) (fun i hi=>q2 i hi _ (hh i (by omega)))
  ·rename_i l l'
   cases hr with
   | fD hl hh =>
    obtain ⟨q1,q2⟩:=vx l l' ob h cD
    exact .fD (by omega) (fun i hi=>q2 i hi _ (hh i (by omega)))
  ·rename_i l l'
   cases hr with
   | ag hl hh =>
    obtain ⟨q1,q2⟩:=vx l l' ob h cD
    exact .ag (by omega) (fun i hi=>q2 i hi _ (hh i (by omega)))
  ·obtain ⟨h1,-⟩:=qO h
   cases hr with
   | vr hμ=>exact .vr (by rw [BN h1 μ]; exact hμ)
  ·simp only [Option.some.injEq] at h
   subst h
   obtain ⟨rfl,rfl⟩:=cD
   cases hr with
   | CS hd=>exact .CS hd
  ·simp only [Option.some.injEq] at h
   subst h
   obtain ⟨rfl,rfl⟩:=cD
   cases hr with
   | Br hd=>exact .Br hd
  ·simp only [Option.some.injEq] at h
   subst h
   obtain ⟨rfl,rfl⟩:=cD
   cases hr with
   | Br hd=>exact .d hd
  ·obtain ⟨h1,rfl⟩:=qO h
   subst cD
   simp only [Bool.and_eq_true] at h1
   have e1:=Nat.eq_of_beq_eq_true h1.1.2
   have e2:=Nat.eq_of_beq_eq_true h1.2
   subst e1; subst e2
   cases hr with
   | zO hμ=>exact .zO (by rw [BN h1.1.1 μ]; exact hμ)
  ·cases h
theorem vx:∀ (l l':List AV) (ob:Prop),yP ρ l l'=some ob→ob→l.length=l'.length∧∀ i,i < l'.length→∀ v,Rel w S μ ν (l.getD i default) v→Rel w S (yO ρ μ) ν (l'.getD i default) v
 | [],[],_,_,_=>⟨rfl,fun i hi=>absurd hi (by simp)⟩
 | x :: r,y :: s,ob,h,cD=>by
  simp only [yP] at h
  cases h1:tL ρ x y with
  | none=>rw [h1] at h; cases h
  | some a =>
   cases h2:yP ρ r s with
   | none=>rw [h1,h2] at h; cases h
   | some b =>
    rw [h1,h2] at h
    simp only [Option.some.injEq] at h
    subst h
    obtain ⟨q1,q2⟩:=vx r s b h2 cD.2
    refine ⟨by simp [q1],fun i hi=>?_⟩
    cases i with
    | zero=>simpa using yQ x y a h1 cD.1
    | succ i=>simpa using q2 i (by simpa using hi)
 | [],_ :: _,_,h,_=>by simp [yP] at h
 | _ :: _,[],_,h,_=>by simp [yP] at h
end
theorem acj {b b':bP} {ob:Prop} (h:pw ρ b b'=some ob) (cD:ob) {g c:Nat} (hb:eH w S μ b g c):eH w S (yO ρ μ) b' g c:=by
 cases b with
 | box cs =>
  cases b' with
  | row=>simp [pw] at h
  | mp=>simp [pw] at h
  | it=>simp [pw] at h
  | mx=>simp [pw] at h
  | box C6 =>
   simp only [pw] at h
   obtain ⟨cur,e,h1,h2,h3,h4⟩:=hb
   have hlen:=(vx (w:=w) (S:=S) (μ:=μ) (ν:=fun _=>false) cs C6 ob h cD).1
   refine ⟨cur,e,h1,h2,by omega,fun j hj=>?_⟩
   obtain ⟨x,hx,hr⟩:=h4 j (by omega)
   exact ⟨x,hx,fun ν=>(vx (w:=w) (S:=S) (μ:=μ) (ν:=ν) cs C6 ob h cD).2 j hj x (hr ν)⟩
 | row e k n f =>
  cases b' with
  | box=>simp [pw] at h
  | mp=>simp [pw] at h
  | it=>simp [pw] at h
  | mx=>simp [pw] at h
  | row e' k' n' f' =>
   simp only [pw] at h
   obtain ⟨h1,rfl⟩:=qO h
   simp only [Bool.and_eq_true] at h1
   have e1:=Nat.eq_of_beq_eq_true h1.1
   have e2:=Nat.eq_of_beq_eq_true h1.2
   subst e1; subst e2
   obtain ⟨rfl,hf⟩:=cD
   obtain ⟨cur,q1,q2,q3,q4,q5,q6⟩:=hb
   refine ⟨cur,q1,q2,q3,q4,q5,fun i hi=>?_⟩
   rw [← hf i hi]
   exact q6 i hi
 | mp n f =>
  cases b' with
  | box=>simp [pw] at h
  | row=>simp [pw] at h
  | it=>simp [pw] at h
  | mx=>simp [pw] at h
  | mp n' f' =>
   simp only [pw,Option.some.injEq] at h
   subst h
   obtain ⟨rfl,rfl⟩:=cD
   exact hb
 | it mk n s =>
  cases b' with
  | box=>simp [pw] at h
  | row=>simp [pw] at h
  | mp=>simp [pw] at h
  | mx=>simp [pw] at h
  | it mk' n' s' =>
   simp only [pw] at h
   obtain ⟨h1,rfl⟩:=qO h
   obtain ⟨rfl,rfl⟩:=cD
   obtain ⟨mg,cc,q0,q1⟩:=hb
   exact ⟨mg,cc,by rw [BN h1 μ]; exact q0,q1⟩
 | mx =>
  cases b' with
  | mx=>exact hb
  | _=>simp [pw] at h
theorem ack {b b':bP} {ob:Prop} (h:pw ρ b b'=some ob) (cD:ob) {y:Option (Option (Nat × Nat))} (hb:jr w S μ b y):jr w S (yO ρ μ) b' y:=by
 cases y with
 | none=>cases b <;> exact hb.elim
 | some y =>
  cases y with
  | none =>
   cases b with
   | box=>exact hb.elim
   | mp=>exact hb.elim
   | it=>exact hb.elim
   | mx=>exact hb.elim
   | row e k n f =>
    cases b' with
    | box=>simp [pw] at h
    | mp=>simp [pw] at h
    | it=>simp [pw] at h
    | mx=>simp [pw] at h
    | row e' k' n' f' =>
     simp only [pw] at h
     obtain ⟨_,rfl⟩:=qO h
     have:n=0:=hb
     show n'=0
     rw [← cD.1,this]
  | some gc=>obtain ⟨g,c⟩:=gc; exact (acj h cD hb.at).ok
theorem C7 {lb:List (Nat × bP)}:∀ {lb':List (Nat × bP)} {ob:Prop},Jh ρ lb lb'=some ob→ob→∀ κ b,look lb' κ=some b →
  (∃ o c q,look ρ κ=some (some o)∧look lb o=some c∧pw ρ c b=some q∧q)∨(look ρ κ=some none∧∃ e k f,b=.row e k 0 f)
 | [],_,_,_,κ,b,hl=>by simp [look] at hl
 | (κ0,b0) :: r,ob,h,cD,κ,b,hl=>by
  simp only [Jh] at h
  split at h
  ·rename_i o p hρ hr
   split at h
   ·rename_i c hc
    split at h
    ·rename_i q hq
     simp only [Option.some.injEq] at h
     subst h
     rw [ca] at hl
     split at hl
     ·rename_i e
      subst e
      simp only [Option.some.injEq] at hl
      subst hl
      exact .inl ⟨o,c,q,hρ,hc,hq,cD.1⟩
     ·exact C7 hr cD.2 κ b hl
    ·cases h
   ·cases h
  ·rename_i p hρ hr
   split at h
   ·rename_i e k n f
    simp only [Option.some.injEq] at h
    subst h
    rw [ca] at hl
    split at hl
    ·rename_i e'
     subst e'
     simp only [Option.some.injEq] at hl
     subst hl
     rw [cD.1]
     exact .inr ⟨hρ,e,k,f,rfl⟩
    ·exact C7 hr cD.2 κ b hl
   ·cases h
  ·cases h
theorem G0:∀ {ρ:Ren},Fp ρ=true→∀ κ κ' o,look ρ κ=some (some o)→look ρ κ'=some (some o)→κ=κ'
 | [],_,κ,κ',o,h,_=>by simp [look] at h
 | (k0,some o0) :: r,hi,κ,κ',o,h,h'=>by
  simp only [Fp,Bool.and_eq_true,List.all_eq_true] at hi
  rw [ca] at h h'
  have no:∀ κ1,look r κ1=some (some o0)→False:=fun κ1 hk=>by
   have:=hi.1 (κ1,some o0) (kg hk)
   simp [Nat.beq_refl] at this
  split at h
  ·rename_i e1
   simp only [Option.some.injEq] at h
   split at h'
   ·rename_i e2; rw [← e1,← e2]
   ·rw [← h] at h'; exact (no κ' h').elim
  ·split at h'
   ·rename_i e2
    simp only [Option.some.injEq] at h'
    rw [← h'] at h
    exact (no κ h).elim
   ·exact G0 hi.2 κ κ' o h h'
 | (k0,none) :: r,hi,κ,κ',o,h,h'=>by
  simp only [Fp] at hi
  rw [ca] at h h'
  split at h
  ·cases h
  ·split at h'
   ·cases h'
   ·exact G0 hi κ κ' o h h'
theorem PU {sl:List (Nat × AV)}:∀ {sl':List (Nat × AV)} {ob:Prop},Lt ρ sl sl'=some ob→ob→∀ t x,look sl' t=some x→∃ q,tL ρ (St.get sl t) x=some q∧q
 | [],_,_,_,t,x,hl=>by simp [look] at hl
 | (t0,x0) :: r,ob,h,cD,t,x,hl=>by
  simp only [Lt] at h
  split at h
  ·rename_i a b h1 h2
   simp only [Option.some.injEq] at h
   subst h
   rw [ca] at hl
   split at hl
   ·rename_i e
    subst e
    simp only [Option.some.injEq] at hl
    subst hl
    exact ⟨a,h1,cD.1⟩
   ·exact PU h2 cD.2 t x hl
  ·cases h
end
theorem Y6 {ρ:Ren} {μ:Mu} {κ g c:Nat} (h:yO ρ μ κ=some (some (g,c))):∃ o,look ρ κ=some (some o)∧μ o=some (some (g,c)):=by
 unfold yO at h
 split at h
 ·rename_i o hl; exact ⟨o,hl,h⟩
 ·cases h
 ·cases h
theorem dG.le {C:Cx} {st st':St} {a:Act} {w:World} {S:Nat→Prop} {μ:Mu} {ν:Nat→Bool} (hs:dG C st.gL a w S μ ν) {ρ:Ren} {Dv Jc:Prop} (hi:Fp ρ=true) (h1:Lt ρ st.sl st'.sl=some Dv) (BM:Dv) (h2:Jh ρ st.lb st'.lb=some Jc) (Dw:Jc):dG C st'.gL a w S (yO ρ μ) ν:=by
 have old:∀ κ b,look st'.lb κ=some b→∀ g c,yO ρ μ κ=some (some (g,c))→∃ o d,look ρ κ=some (some o)∧look st.lb o=some d∧μ o=some (some (g,c)):=by
  intro κ b hb g c hm
  obtain ⟨o,ho,hμ⟩:=Y6 hm
  rcases C7 h2 Dw κ b hb with ⟨o',d,q,q1,q2,_⟩ | ⟨q1,_⟩
  ·rw [ho] at q1
   simp only [Option.some.injEq] at q1
   subst q1
   exact ⟨o,d,ho,q2,hμ⟩
  ·rw [ho] at q1; cases q1
 refine ⟨hs.tmps,hs.defers,fun t=>?_,fun κ b hb=>?_,fun κ κ' b b' g c c' hb pn hm Bt=>?_,fun κ b g c hb hm=>?_,hs.fU,hs.fresh,hs.bound,hs.kept⟩
 ·simp only [St.gL,St.get]
  cases hl:look st'.sl t with
  | none=>exact .any _
  | some x =>
   obtain ⟨q,q1,q2⟩:=PU h1 BM t x hl
   exact yQ _ x q q1 q2 _ (hs.fa t)
 ·rcases C7 h2 Dw κ b hb with ⟨o,d,q,q1,q2,q3,q4⟩ | ⟨q1,e,k,f,rfl⟩
  ·have hm:yO ρ μ κ=μ o:=by simp [yO,q1]
   rw [hm]
   exact ack q3 q4 (hs.mem o d q2)
  ·have hm:yO ρ μ κ=some none:=by simp [yO,q1]
   rw [hm]
   rfl
 ·obtain ⟨o,d,x1,x2,x3⟩:=old κ b hb g c hm
  obtain ⟨o',d',y1,y2,y3⟩:=old κ' b' pn g c' Bt
  have:=hs.inj o o' d d' g c c' x2 y2 x3 y3
  subst this
  exact G0 hi κ κ' o x1 y1
 ·obtain ⟨o,d,x1,x2,x3⟩:=old κ b hb g c hm
  exact hs.own o d g c x2 x3
theorem NV.of {st st':St} (ρ:Ren) {Dv Jc:Prop} (hi:Fp ρ=true) (h1:Lt ρ st.sl st'.sl=some Dv) (BM:Dv) (h2:Jh ρ st.lb st'.lb=some Jc) (Dw:Jc):NV st st':=by
 rintro C a w ⟨S,μ,dy⟩
 exact ⟨S,yO ρ μ,fun ν=>(dy ν).le hi h1 BM h2 Dw⟩
theorem TQ {ρ:Ren} {sl:List (Nat × AV)}:∀ {sl':List (Nat × AV)} {ob:Prop},Lt ρ sl sl'=some ob→ob→∀ p,p∈sl'→∃ q,tL ρ (St.get sl p.1) p.2=some q∧q
 | [],_,_,_,p,hp=>by cases hp
 | (t0,x0) :: r,ob,h,cD,p,hp=>by
  simp only [Lt] at h
  split at h
  ·rename_i a b h1 h2
   simp only [Option.some.injEq] at h
   subst h
   rcases List.mem_cons.1 hp with rfl | hp
   ·exact ⟨a,h1,cD.1⟩
   ·exact TQ h2 cD.2 p hp
  ·cases h
section
variable {g : Goal} {k : List Item} {st : St}
theorem aaG {C:Cx} {a:Act} {w:World} (hs:kW C st a w) (hT:pk C.P g.T) (ρ:Ren) {l:List AV} {ro:List (Nat × bP)} {ob:Ob} {Dv Jc:Prop} (h:xj g.T st g.fn.results.toList=some (l,ro,ob)) (cD:ob.den) (hi:Fp ρ=true) (h1:tL ρ (tI l) g.res=some Dv) (BM:Dv) (h2:Jh ρ st.lb g.c6=some Jc) (Dw:Jc) :
  ∃ v,(results g.fn a.tmps).run C.P w=.ok v w∧Q5 C g.res g.c6 (.returned v) w:=by
 obtain ⟨S,μ,dy⟩:=hs
 have h0:=dy fun _=>false
 obtain ⟨vs,q1,_⟩:=sJ hT h0 h cD
 refine ⟨_,xk q1,_,S,yO ρ μ,rfl,?_⟩
 have hle:=h0.le (st':=⟨[],g.c6⟩) hi (by rfl) trivial h2 Dw
 refine ⟨fun ν=>?_,hle.mem,hle.inj,fun κ b g c h1 h2=>(hle.own κ b g c h1 h2).imp id .inl,h0.fU,fun b hb=>(h0.fresh b hb).imp id (Or.imp id .inl),h0.bound,h0.kept.Bv fun _ h=>.inl h⟩
 obtain ⟨vs',p1,p2⟩:=sJ hT (dy ν) h cD
 have:vs'=vs:=by rw [q1] at p1; cases p1; rfl
 subst this
 exact yQ _ _ Dv h1 BM _ (GZ p2)
theorem G.ahi (hg:g.Nrm) (hT:pk g.P g.T) (hf:g.P.funcs[g.f]? = some g.fn) (ρ:Ren) {l:List AV} {ro:List (Nat × bP)} {ob:Ob} {Dv Jc:Prop} (h:xj g.T st g.fn.results.toList=some (l,ro,ob)) (cD:ob.den) (hi:Fp ρ=true) (h1:tL ρ (tI l) g.res=some Dv) (BM:Dv) (h2:Jh ρ st.lb g.c6=some Jc) (Dw:Jc):G g [] st∧∀ k,G g (.code .ret :: k) st :=
 G.out hg hf (fun C a w c1 hs=>aaG (g:=g) hs (by rw [c1]; exact hT) ρ h cD hi h1 BM h2 Dw)
theorem Y7 {jY:List (Nat × Nat)} (hn:g.TN jY) {C:Cx} {a:Act} {w:World} (hk:g.kept a.tmps) (hs:kW C st a w) (hT:pk C.P g.T) (ρ:Ren) {l:List AV} {ro:List (Nat × bP)} {ob:Ob} {Dv Jc ob3:Prop} (h:xj g.T st g.fn.results.toList=some (l,ro,ob)) (cD:ob.den) (hi:Fp ρ=true) (h1:tL ρ (tI l) g.res=some Dv) (BM:Dv) (h2:Jh ρ st.lb g.c6=some Jc) (Dw:Jc) (h3:Lt ρ st.sl (jY.map fun p=>(p.1,.ptr p.2 0))=some ob3) (ad4:ob3) :
  ∃ v,(results g.fn a.tmps).run C.P w=.ok v w∧TM C g.res g.c6 jY g.tm (.returned v) w:=by
 obtain ⟨S,μ,dy⟩:=hs
 have h0:=dy fun _=>false
 obtain ⟨vs,q1,_⟩:=sJ hT h0 h cD
 refine ⟨_,xk q1,_,S,yO ρ μ,rfl,?_,fun p hp ν=>?_⟩
 ·have hle:=h0.le (st':=⟨[],g.c6⟩) hi (by rfl) trivial h2 Dw
  refine ⟨fun ν=>?_,hle.mem,hle.inj,fun κ b g c h1 h2=>(hle.own κ b g c h1 h2).imp id .inl,h0.fU,fun b hb=>(h0.fresh b hb).imp id (Or.imp id .inl),h0.bound,h0.kept.Bv fun _ h=>.inl h⟩
  obtain ⟨vs',p1,p2⟩:=sJ hT (dy ν) h cD
  have:vs'=vs:=by rw [q1] at p1; cases p1; rfl
  subst this
  exact yQ _ _ Dv h1 BM _ (GZ p2)
 ·obtain ⟨q,e1,e2⟩:=TQ h3 ad4 (p.1,.ptr p.2 0) (List.mem_map.2 ⟨p,hp,rfl⟩)
  rw [← hk p.1 (hn.pr p hp)]
  exact yQ _ _ q e1 e2 _ ((dy ν).fa p.1)
theorem G.Y8 {jY:List (Nat × Nat)} (hg:g.TN jY) (hT:pk g.P g.T) (hf:g.P.funcs[g.f]? = some g.fn) (ρ:Ren) {l:List AV} {ro:List (Nat × bP)} {ob:Ob} {Dv Jc ob3:Prop} (h:xj g.T st g.fn.results.toList=some (l,ro,ob)) (cD:ob.den) (hi:Fp ρ=true) (h1:tL ρ (tI l) g.res=some Dv) (BM:Dv) (h2:Jh ρ st.lb g.c6=some Jc) (Dw:Jc) (h3:Lt ρ st.sl (jY.map fun p=>(p.1,.ptr p.2 0))=some ob3) (ad4:ob3):G g [] st∧∀ k,G g (.code .ret :: k) st :=
 G.ahh hg hf (fun C a w c1 hk hs=>Y7 (g:=g) hg hk hs (by rw [c1]; exact hT) ρ h cD hi h1 BM h2 Dw h3 ad4)
end
def Y9 (P:Program) (gf:FuncId) (cY:List AV) (ys:List (List AV)):Prop :=
 ga P gf=true∧∀ (w0:World) (S:Nat→Prop) (μ:Mu) (CZ:Array Value) (l:Nat) (J:Nat→(Nat→Prop)→World→Prop) (Jx:(Nat→Prop)→World→Prop) (F0:Nat→Prop),
  (∀ b,S b→b < w0.heap.size)→kO w0 S→(∀ ν,eo w0 S μ ν cY CZ.toList)→(∀ b,S b→¬ F0 b)→(∀ b,F0 b→b < w0.heap.size) →
  (∀ i F W W',J i F W→Kept W W' (fun b=>w0.heap.size≤b∧¬ F b∧¬ S b)→J i F W')→(∀ F W W',Jx F W→Kept W W' (fun b=>w0.heap.size≤b∧¬ F b∧¬ S b)→Jx F W') →
  (∀ i F W (vs:Array Value),i < ys.length→J i F W→(∀ ν,eo W (fun _=>False) (fun _=>none) ν (ys.getD i []) vs.toList)→YieldAt Fence.wide 0 P l vs W fun e W'=>∃ F',(∀ b,F' b→F b∨W.heap.size≤b)∧(∀ b,F' b→b < W'.heap.size)∧Kept W W' F∧((e=.returned (.bool true)∧J (i+1) F' W')∨(e=.returned (.bool false)∧Jx F' W'))) →
  J 0 F0 w0→Calls P gf (#[.func (.yield l) #[] #[]]++CZ) w0 fun e w'=>(∃ v,e=.returned v)∧((∃ F,J ys.length F w')∨∃ F,Jx F w')
structure Core (A:M) (tm:Array Value) (w:World) (S:Nat→Prop) (μ:Mu) (ν:Nat→Bool):Prop where
 fa:∀ t,Rel w S μ ν (A.sl t) (tm.getD t undef)
 mem:∀ κ b,A.lb κ=some b→jr w S μ b (μ κ)
 inj:∀ κ κ' b b' g c c',A.lb κ=some b→A.lb κ'=some b'→μ κ=some (some (g,c))→μ κ'=some (some (g,c'))→κ=κ'
 bound:∀ b,S b→b < w.heap.size
def ug (A:M) (μ:Mu) (q:Nat):Prop:=∃ κ b c,A.lb κ=some b∧μ κ=some (some (q,c))
theorem dG.core {C:Cx} {A:M} {a:Act} {w:World} {S:Nat→Prop} {μ:Mu} {ν:Nat→Bool} (h:dG C A a w S μ ν):Core A a.tmps w S μ ν:=⟨h.fa,h.mem,h.inj,h.bound⟩
theorem dG.TS {C:Cx} {A:M} {a:Act} {w:World} {S:Nat→Prop} {μ:Mu} {ν:Nat→Bool} (h:dG C A a w S μ ν) {q:Nat} (hq:ug A μ q):C.w0.heap.size≤q∨C.T0 q:=by
 obtain ⟨κ,b,c,h1,h2⟩:=hq
 exact h.own κ b q c h1 h2
theorem Core.tM {A:M} {tm:Array Value} {w:World} {S:Nat→Prop} {μ:Mu} {ν:Nat→Bool} (h:Core A tm w S μ ν) {q:Nat} (hq:ug A μ q):∃ b c,eH w S μ b q c:=by
 obtain ⟨κ,b,c,h1,h2⟩:=hq
 have:=h.mem κ b h1
 rw [h2] at this
 exact ⟨b,c,this.at⟩
theorem eH.KB {w:World} {S:Nat→Prop} {μ:Mu} {b:bP} {g cap:Nat} {o:Loop} (h:eH w S μ b g cap):w.heap[g]?≠some (.loop o):=by
 cases b with
 | box cs=>obtain ⟨cur,e,hg,_⟩:=h; rw [hg]; simp
 | row e k n f=>obtain ⟨cur,hg,_⟩:=h; rw [hg]; simp
 | mp n f=>obtain ⟨cur,hg,_⟩:=h; rw [hg]; simp
 | it mk n seen=>obtain ⟨mg,c,_,hg,_⟩:=h; rw [hg]; simp
 | mx=>obtain ⟨m,cur,hg,_⟩:=h; rw [hg]; simp
theorem Core.keep {A:M} {tm tm':Array Value} {w w':World} {S:Nat→Prop} {μ:Mu} {ν:Nat→Bool} (h:Core A tm w S μ ν) (ht:∀ t,A.sl t=.any∨tm'.getD t undef=tm.getD t undef) (hS:∀ b,S b→w'.heap[b]? = w.heap[b]?) (hO:∀ q,ug A μ q→w'.heap[q]? = w.heap[q]?) (kN:w.heap.size≤w'.heap.size):Core A tm' w' S μ ν:=by
 refine ⟨fun t=>?_,fun κ b hb=>?_,h.inj,fun b hb=>Nat.lt_of_lt_of_le (h.bound b hb) kN⟩
 ·rcases ht t with e | e
  ·rw [e]; exact .any _
  ·rw [e]; exact (h.fa t).mono (fun _ x=>x) hS (fun _ _ e=>e)
 ·have hm:=h.mem κ b hb
  refine hm.mono (fun _ x=>x) hS (fun _ _ e=>e) (fun g c e=>?_)
  rw [e] at hm
  exact ⟨hO g ⟨κ,b,c,hb,e⟩,hm.at.not⟩
def Cx.at (P:Program) (nt:Nat) (w:World) (S:Nat→Prop) (A:M) (μ:Mu) (hg:kO w S) (hm:∀ κ b,A.lb κ=some b→jr w S μ b (μ κ)) (hb:∀ b,S b→b < w.heap.size) (dl:List Deferred) (dok:∀ d,d∈dl→∃ q,d = { target:=.collected q,args:=#[] }∧w.heap[q]? = some (.deferred (some []))∧¬ S q) (dnd:dl.Nodup):Cx :=
 ⟨P,w,S,ug A μ,nt,hg,fun b hs ⟨κ,bk,c,h1,h2⟩=>by
  have:=hm κ bk h1
  rw [h2] at this
  exact this.at.not hs,hb,dl,fun d hd=>by
  obtain ⟨q,e,h1,h2⟩:=dok d hd
  refine ⟨q,e,h1,fun ⟨κ,bk,c,q1,q2⟩=>?_,h2⟩
  have:=hm κ bk q1
  rw [q2] at this
  exact this.at.tJ h1,dnd⟩
theorem Core.sim {P:Program} {nt:Nat} {A:M} {a:Act} {w:World} {S:Nat→Prop} {μ:Mu} {ν:Nat→Bool} (h:Core A a.tmps w S μ ν) (hn:a.tmps.size=nt) (hg:kO w S) (hm hb dl dok dnd) (hd:a.defers=dl):dG (Cx.at P nt w S A μ hg hm hb dl dok dnd) A a w S μ ν :=
 ⟨hn,hd,h.fa,h.mem,h.inj,fun κ b g c h1 h2=>.inr ⟨κ,b,c,h1,h2⟩,fun _ x=>x,fun _ x=>.inl x,h.bound,Kept.refl _ _⟩
def rA {σ β Y:Type} (f:σ→Y→β ⊕ σ):List Y→σ→β ⊕ σ
 | [],s=>.inr s
 | y :: r,s=>match f s y with
  | .inl b=>.inl b
  | .inr s'=>rA f r s'
theorem PV {σ β Y:Type} {f:σ→Y→β ⊕ σ}:∀ {l:List Y} {i:Nat} {s s1:σ} (h:i < l.length),rA f (l.take i) s=.inr s1→rA f (l.take (i+1)) s=f s1 l[i]∧(∀ b,f s1 l[i]=.inl b→rA f l s=.inl b)
 | [],i,s,s1,h,_=>absurd h (by simp)
 | y :: r,0,s,s1,_,e=>by
  simp only [List.take_zero,rA,Sum.inr.injEq] at e
  subst e
  refine ⟨?_,fun b hb=>?_⟩
  ·simp only [List.take_succ_cons,List.take_zero,rA,List.getElem_cons_zero]
   cases f s y <;> rfl
  ·simp only [List.getElem_cons_zero] at hb
   simp only [rA,hb]
 | y :: r,i+1,s,s1,h,e=>by
  simp only [List.take_succ_cons,rA] at e ⊢
  cases hf:f s y with
  | inl b=>rw [hf] at e; cases e
  | inr s' =>
   rw [hf] at e
   simp only at e ⊢
   have:=PV (l:=r) (by simpa using h) e
   simpa using this
theorem Lu {σ β Y:Type} {f:σ→Y→β ⊕ σ} {I:Nat→σ→Prop} {B:β→Prop}:∀ (l:List Y) (k:Nat),(∀ i s y,I (k+i) s→l[i]? = some y→match f s y with | .inl b=>B b | .inr s'=>I (k+i+1) s')→∀ s,I k s→match rA f l s with | .inl b=>B b | .inr s'=>I (k+l.length) s'
 | [],k,_,s,h=>h
 | y :: r,k,hf,s,h=>by
  have h1:=hf 0 s y h (by simp)
  simp only [rA]
  cases e:f s y with
  | inl b=>rw [e] at h1; exact h1
  | inr s' =>
   rw [e] at h1
   have:=Lu (I:=I) (B:=B) r (k+1) (fun i s y hs hy=>by
    have:=hf (i+1) s y (by rw [show k+(i+1)=k+1+i by omega]; exact hs) (by simpa using hy)
    rw [show k+(i+1)+1=k+1+i+1 by omega] at this
    exact this) s' h1
   rw [show k+(y :: r).length=k+1+r.length by simp; omega]
   exact this
structure Reb (C C':Cx):Prop where
 sub:∀ b,C.S0 b→C'.S0 b
 new:∀ b,C'.S0 b→C.S0 b∨C.w0.heap.size≤b∨C.T0 b
 kept:Kept C.w0 C'.w0 C.T0
 tk:∀ q,C'.TD q→C.TD q∨C.w0.heap.size≤q
theorem Q5.reb {C C':Cx} (h:Reb C C') {res:AV} {c6:List (Nat × bP)} {e:Ending} {w:World} (hp:Q5 C' res c6 e w):Q5 C res c6 e w:=by
 obtain ⟨v,S',μ',rfl,B⟩:=hp
 refine ⟨v,S',μ',rfl,B.res,B.mem,B.inj,fun κ b g c h1 h2=>?_,fun b hb=>B.sub b (h.sub b hb),fun b hb=>?_,B.bound,(h.kept.Bv fun _ x=>.inl x).trans B.kept fun b hb ht=>?_⟩
 ·rcases B.own κ b g c h1 h2 with q | q
  ·exact .inl (Nat.le_trans h.kept.size q)
  ·exact (h.tk g q).symm
 ·rcases B.new b hb with q | q | q
  ·exact (h.new b q).imp id (Or.imp id .inl)
  ·exact .inr (.inl (Nat.le_trans h.kept.size q))
  ·exact .inr ((h.tk b q).symm)
 ·exact (h.tk b ht).resolve_right (by omega)
theorem ZN.reb {P:Program} {f:FuncId} {res:AV} {c6:List (Nat × bP)} {C C':Cx} {b:Frame} {cs:List Frame} {m:Machine} (h:Reb C C') (hz:ZN P f res c6 C' b cs m):ZN P f res c6 C b cs m :=
 let ⟨e,w',fr,q1,q2⟩:=hz
 ⟨e,w',fr,q1.reb h,q2⟩
def AZ:List Nat→List AV→List (Nat × AV)
 | p :: ps,x :: xs=>(p,x) :: AZ ps xs
 | _,_=>[]
def We (nt:Nat) (prl:List Nat):List Nat→Bool
 | []=>true
 | p :: ps=>Nat.ble (p+1) nt&&!prl.any (fun q=>Nat.beq q p)&&!ps.any (fun q=>Nat.beq q p)&&We nt prl ps
theorem any_beq {l:List Nat} {p:Nat} (h:(!l.any fun q=>Nat.beq q p)=true):p ∉ l:=fun hp=>by
 have:(l.any fun q=>Nat.beq q p)=true:=List.any_eq_true.2 ⟨p,hp,Nat.beq_refl p⟩
 rw [this] at h
 cases h
theorem PW {w:World} {S:Nat→Prop} {μ:Mu} {ν:Nat→Bool} {nt:Nat} {prl:List Nat}:∀ (ps:List Nat) (xs:List AV) (vs:List Value) (t:Array Value),We nt prl ps=true→ps.length=xs.length→t.size=nt→eo w S μ ν xs vs →
  ((ps.zip vs).foldl (fun t (p:Nat × Value)=>t.setIfInBounds p.1 p.2) t).size=nt∧(∀ u,u ∉ ps→((ps.zip vs).foldl (fun t (p:Nat × Value)=>t.setIfInBounds p.1 p.2) t).getD u undef=t.getD u undef) ∧
   ∀ u x,look (AZ ps xs) u=some x→Rel w S μ ν x (((ps.zip vs).foldl (fun t (p:Nat × Value)=>t.setIfInBounds p.1 p.2) t).getD u undef)
 | [],xs,vs,t,_,_,ht,_=>⟨by simpa using ht,fun u _=>by simp,fun u x h=>by simp [AZ,look] at h⟩
 | p :: ps,[],vs,t,_,h,_,_=>absurd h (by simp)
 | p :: ps,x :: xs,[],t,_,_,_,hr=>absurd hr.1 (by simp)
 | p :: ps,x :: xs,v :: vs,t,hp,hl,ht,hr=>by
  simp only [We,Bool.and_eq_true] at hp
  obtain ⟨⟨⟨h1,h2⟩,h3⟩,h4⟩:=hp
  have h1:=Nat.le_of_ble_eq_true h1
  have h3:=any_beq h3
  have hr':eo w S μ ν xs vs:=⟨by simpa using hr.1,fun i hi=>by simpa using hr.2 (i+1) (by simpa using hi)⟩
  obtain ⟨q1,q2,q3⟩:=PW ps xs vs (t.setIfInBounds p v) h4 (by simpa using hl) (by simpa using ht) hr'
  simp only [List.zip_cons_cons,List.foldl_cons]
  refine ⟨q1,fun u hu=>?_,fun u y hy=>?_⟩
  ·rw [q2 u (fun h=>hu (by simp [h]))]
   exact dw _ _ _ _ (fun e=>hu (by simp [e]))
  ·simp only [AZ,ca] at hy
   split at hy
   ·rename_i e
    subst e
    simp only [Option.some.injEq] at hy
    subst hy
    rw [q2 p h3,iX _ _ _ (by omega)]
    simpa using hr.2 0 (by simp)
   ·exact q3 u y hy
structure IC (w:World) (S El S1:Nat→Prop) (A:M) (μ1:Mu) (r:Loop) (F:Nat→Prop) (W:World):Prop where
 Bw:kO W S1
 sub:∀ b,S b→S1 b
 new:∀ b,S1 b→S b∨w.heap.size≤b∨El b
 own:∀ q,ug A μ1 q→El q∨w.heap.size≤q
 kept:Kept w W El
 dD:W.heap[w.heap.size]? = some (.deferred (some []))
 dl:W.heap[w.heap.size+1]? = some (.loop r)
 nD:¬ S1 w.heap.size
 nl:¬ S1 (w.heap.size+1)
 F:∀ q,F q↔(ug A μ1 q∨(S1 q∧¬ S q)∨q=w.heap.size+1∨q=w.heap.size)
theorem IC.keep {w:World} {S El S1:Nat→Prop} {A:M} {μ1:Mu} {r:Loop} {F:Nat→Prop} {W W':World} {n:Nat} {tm:Array Value} (h:IC w S El S1 A μ1 r F W) (hc:∀ ν,Core A tm W S1 μ1 ν) (hn:w.heap.size+2≤n) (hk:Kept W W' (fun b=>n≤b∧¬ F b∧¬ S b)) :
  IC w S El S1 A μ1 r F W'∧∀ ν,Core A tm W' S1 μ1 ν:=by
 have hc0:=hc fun _=>false
 have hS:∀ b,S1 b→W'.heap[b]? = W.heap[b]?:=fun b hb=>hk.block b (hc0.bound b hb) (fun ⟨_,h2,h3⟩=>h2 ((h.F b).2 (.inr (.inl ⟨hb,h3⟩))))
 have hO:∀ q,ug A μ1 q→W'.heap[q]? = W.heap[q]?:=fun q hq=>hk.block q (by obtain ⟨_,_,hb⟩:=hc0.tM hq; exact hb.lt) (fun ⟨_,h2,_⟩=>h2 ((h.F q).2 (.inl hq)))
 have lt:∀ {q o},W.heap[q]? = some o→q < W.heap.size:=fun e=>(Array.getElem?_eq_some_iff.1 e).1
 exact ⟨⟨h.Bw.mono (fun _ x=>x) hS,h.sub,h.new,h.own,h.kept.trans hk (fun b hb ⟨h1,_⟩=>by omega),(hk.block _ (lt h.dD) (fun ⟨h1,_⟩=>by omega)).trans h.dD,(hk.block _ (lt h.dl) (fun ⟨h1,_⟩=>by omega)).trans h.dl,h.nD,h.nl,h.F⟩,
  fun ν=>(hc ν).keep (fun t=>.inr rfl) hS hO hk.size⟩
def Goal.round (g:Goal) (prl:List Nat) (tm:Array Value) (Z:Cx→Frame→List Frame→Machine→Prop) (zs:∀ C b cs m m',Steps g.P m m'→Z C b cs m'→Z C b cs m):Goal:={ g with md:=1,pr:=prl,tm:=tm,Z:=Z,zs:=zs }
theorem Lv {w:World} {q:Nat} {o:Obj}:Kept w (w.putObj q o) (fun b=>b=q):=⟨rfl,rfl,rfl,by simp [World.putObj],fun b _ hb=>World.putObj_heap_other hb⟩
section
open Go Go.RowKit
theorem G.rf {g:Goal} {k:List Item} {st:St} (hn:g.Nrm) (hz:∀ {C C' b cs m},Reb C C'→g.Z C' b cs m→g.Z C b cs m) {t:Nat} {ps:Array Tmp} {Q6 body:Code} {gf:FuncId} {cY:List AV}
    {Y σ β:Type} (ys:List Y) (enc:Y→List AV) (step:σ→Y→β ⊕ σ) (s0:σ) (I:Nat→σ→Prop) (PX:List (Nat × AV)) (Js:σ→St) (Jb:β→St) (id:Nat) (stA:σ→Y→St)
    (VG:∀ s,(Js s).sl=PX) (hbl:∀ b,(Jb b).sl=PX) (h0:NV st (Js s0)) (hf:St.get PX t=.fn gf cY) (afz:wX.pF cY=true) (hit:Y9 g.P gf cY (ys.map enc))
    (hps:We g.nt (PX.map (·.1)) ps.toList=true) (hpl:∀ y,y∈ys→ps.toList.length=(enc y).length) (hI0:I 0 s0) (hI:∀ i s y,I i s→ys[i]? = some y→match step s y with | .inl _=>True | .inr s'=>I (i+1) s')
    (ahj:∀ s y tm Z zs,y∈ys→G (g.round (PX.map (·.1)) tm Z zs) [.beginRound,.code body] (stA s y)→G (g.round (PX.map (·.1)) tm Z zs) [.code Q6,.beginRound,.code body] ⟨AZ ps.toList (enc y)++PX,(Js s).lb⟩)
    (afA:∀ i s y tm Z zs,I i s→ys[i]? = some y→(match step s y with | .inr s'=>G (g.round (PX.map (·.1)) tm Z zs) [] (Js s') | .inl b=>∀ k',exitTo id k'=none→G (g.round (PX.map (·.1)) tm Z zs) (.code (.exit id) :: k') (Jb b))→G (g.round (PX.map (·.1)) tm Z zs) [.code body] (stA s y))
    (hk:match rA step ys s0 with | .inr s=>G g k (Js s) | .inl b=>G g (.code (.exit id) :: k) (Jb b)):G g (.code (.rangeFunc (.tmp t) ps Q6 body) :: k) st:=by
  intro C c1 c2 a w VK hs b cs XM GK Z0
  have hrd:b.roundOf=none:=Z0.2 (by rw [hn.md]; decide)
  obtain ⟨S,μ,dy⟩:=h0 C a w hs
  have G1:=dy fun _=>false
  have hnt:a.tmps.size=g.nt:=G1.tmps.trans c2
  have hv:=G1.fa t
  simp only [St.gL,VG s0,hf] at hv
  obtain ⟨CZ,hfv,hrc⟩:∃ CZ:Array Value,a.tmps.getD t undef=.func (.func gf) #[] CZ∧∀ ν,eo w S μ ν cY CZ.toList:=by
    generalize a.tmps.getD t undef=fv at hv
    cases hv with
    | @fn _ _ CZ hl hh=>exact ⟨CZ,rfl,fun ν=>eo.nu ⟨by simpa using hl,fun i hi=>by rw [← cZ]; exact hh i hi⟩ afz⟩
  obtain ⟨Dx,Q7⟩:∃ Dx:LoopState→Option Code→Loop,Dx=fun s pe=>{ state:=s,pending:=pe,fn:=b.fn,tmps:=a.tmps,params:=ps,assign:=Q6,body:=body,defers:=w.heap.size }:=⟨_,rfl⟩
  obtain ⟨W1,hW1⟩:∃ W1,(w.alloc (.deferred (some []))).alloc (.loop (Dx .ready none))=W1:=⟨_,rfl⟩
  have aiJ:W1.heap.size=w.heap.size+2:=by rw [← hW1]; simp
  have aaH:Kept w W1 (fun _=>False):=by
    rw [← hW1]
    exact (qD w _ _).trans (qD _ _ _) (fun _ _ x=>x)
  have hD1:W1.heap[w.heap.size]? = some (.deferred (some [])):=by
    rw [← hW1]; exact (Below.heap_alloc _ _ _ (by simp)).trans (World.alloc_heap_new w _)
  have hL1:W1.heap[w.heap.size+1]? = some (.loop (Dx .ready none)):=by
    rw [← hW1]; have:=World.alloc_heap_new (w.alloc (.deferred (some []))) (.loop (Dx .ready none)); rwa [World.size_alloc] at this
  let El:Nat→Prop:=ug (Js s0).gL μ
  let J:Nat→(Nat→Prop)→World→Prop:=fun i F W=>∃ s S1 μ1,rA step (ys.take i) s0=.inr s∧I i s∧(∀ ν,Core (Js s).gL a.tmps W S1 μ1 ν)∧IC w S El S1 (Js s).gL μ1 (Dx .ready none) F W
  let Jx:(Nat→Prop)→World→Prop:=fun F W=>∃ bb S1 μ1,rA step ys s0=.inl bb∧(∀ ν,Core (Jb bb).gL a.tmps W S1 μ1 ν)∧IC w S El S1 (Jb bb).gL μ1 (Dx .done (some (.exit id))) F W
  have hS1:∀ b,S b→W1.heap[b]? = w.heap[b]?:=fun b hb=>aaH.block b (G1.bound b hb) (fun x=>x)
  let F0:Nat→Prop:=fun q=>ug (Js s0).gL μ q∨(S q∧¬ S q)∨q=w.heap.size+1∨q=w.heap.size
  have ad5:∀ ν,Core (Js s0).gL a.tmps W1 S μ ν:=fun ν=>(dy ν).core.keep (fun _=>.inr rfl) hS1 (fun q hq=>aaH.block q (by obtain ⟨_,_,hb⟩:=(dy ν).core.tM hq; exact hb.lt) (fun x=>x)) aaH.size
  have adq:IC w S El S (Js s0).gL μ (Dx .ready none) F0 W1:=⟨G1.Bw.mono (fun _ x=>x) hS1,fun _ x=>x,fun _ x=>.inl x,fun _ x=>.inl x,aaH.Bv (fun _ x=>x.elim),hD1,hL1,fun h=>by have:=G1.bound _ h; omega,fun h=>by have:=G1.bound _ h; omega,fun q=>Iff.rfl⟩
  -- ONE aiu
  have ad6:∀ i F W (vs:Array Value),i < (ys.map enc).length→J i F W→(∀ ν,eo W (fun _=>False) (fun _=>none) ν ((ys.map enc).getD i []) vs.toList)→YieldAt Fence.wide 0 g.P (w.heap.size+1) vs W fun e W'=>∃ F',(∀ b,F' b→F b∨W.heap.size≤b)∧(∀ b,F' b→b < W'.heap.size)∧Kept W W' F∧((e=.returned (.bool true)∧J (i+1) F' W')∨(e=.returned (.bool false)∧Jx F' W')):=by
    rintro i F W vs hi ⟨s,S1,μ1,iI,hIs,vQ,hinv⟩ hvs
    have gQ:i < ys.length:=by simpa using hi
    obtain ⟨y,hy⟩:∃ y,ys[i]=y:=⟨_,rfl⟩
    have hym:y∈ys:=hy ▸ List.getElem_mem gQ
    have hyi:ys[i]? = some y:=by rw [List.getElem?_eq_getElem gQ,hy]
    have hgy:(ys.map enc).getD i []=enc y:=by simp [List.getD,gQ,hy]
    rw [hgy] at hvs
    obtain ⟨ht1,ht2⟩:=PV gQ iI
    rw [hy] at ht1 ht2
    have hlen:ps.toList.length=(enc y).length:=hpl y hym
    have hvl:vs.size=ps.size:=by have:=(hvs fun _=>false).1; simp at this hlen; omega
    have XA:=run_yield (P:=g.P) (args:=vs) hinv.dl (by rw [Q7]; exact hvl)
    rw [Q7] at XA
    refine ⟨_,_,_,_,XA,trivial,fun c C6 _=>?_⟩
    let br:Frame:={ (default:Frame) with fn:=b.fn,kind:=.normal,roundOf:=some (w.heap.size+1) }
    have yD:∀ tm,Frame.round (w.heap.size+1) b.fn tm Q6 body .normal=br.atR { tmps:=tm,defers:=[] } [.code Q6,.beginRound,.code body]:=fun tm=>by simp [Frame.round,Frame.atR,br]
    -- it is ahk to aiK back with a bool
    suffices afB:∃ v w',(∃ F',(∀ b,F' b→F b∨W.heap.size≤b)∧(∀ b,F' b→b < w'.heap.size)∧Kept W w' F∧((v=.bool true∧J (i+1) F' w')∨(v=.bool false∧Jx F' w')))∧Steps g.P (lone (br.atR { tmps:=(ps.zip vs).foldl (fun t (p,v)=>t.setIfInBounds p v) a.tmps,defers:=[] } [.code Q6,.beginRound,.code body]) (c :: C6) W) (lone (c.finish v) C6 w') by
      obtain ⟨v,w',⟨F',q1,q1b,q2,q3⟩,lX⟩:=afB
      refine ⟨.returned v,w',⟨F',q1,q1b,q2,?_⟩,?_⟩
      · rcases q3 with ⟨rfl,q⟩ | ⟨rfl,q⟩
        · exact .inl ⟨rfl,q⟩
        · exact .inr ⟨rfl,q⟩
      · rw [yD]
        exact stepsIn_wide.2 lX
    have SJ:=fun ν=>PW (w:=W) (S:=fun _=>False) (μ:=fun _=>none) (ν:=ν) ps.toList (enc y) vs.toList a.tmps hps hlen hnt (hvs ν)
    have htm:(ps.zip vs).foldl (fun t (p,v)=>t.setIfInBounds p v) a.tmps=(ps.toList.zip vs.toList).foldl (fun t (p:Nat × Value)=>t.setIfInBounds p.1 p.2) a.tmps:=by
      rw [← Array.foldl_toList,Array.toList_zip]
    rw [htm]
    generalize hTM:(ps.toList.zip vs.toList).foldl (fun t (p:Nat × Value)=>t.setIfInBounds p.1 p.2) a.tmps=tm at SJ ⊢
    have afC:∀ (L:List Nat) (u:Nat),We g.nt (PX.map (·.1)) L=true→u∈PX.map (·.1)→u ∉ L:=by
      intro L
      induction L with
      | nil=>intro u _ _ h; cases h
      | cons p L ih =>
        intro u h hu hm
        simp only [We,Bool.and_eq_true] at h
        rcases List.mem_cons.1 hm with rfl | hm
        · exact any_beq h.1.1.2 hu
        · exact ih u h.2 hu hm
    have hpr:∀ u,u∈PX.map (·.1)→tm.getD u undef=a.tmps.getD u undef:=fun u hu=>(SJ fun _=>false).2.1 u (afC _ u hps hu)
    -- I8 state behind I8 parameters
    have ad7:∀ ν,Core (St.gL ⟨AZ ps.toList (enc y)++PX,(Js s).lb⟩) tm W S1 μ1 ν:=fun ν=>by
      refine ⟨fun u=>?_,(vQ ν).mem,(vQ ν).inj,(vQ ν).bound⟩
      simp only [St.gL,St.get,xg]
      cases h1:look (AZ ps.toList (enc y)) u with
      | some x=>exact ((SJ ν).2.2 u x h1).mono (fun _ x=>x.elim) (fun _ x=>x.elim) (fun _ _ e=>by cases e)
      | none =>
        simp only
        cases h2:look PX u with
        | none=>exact .any _
        | some x =>
          have:=(vQ ν).fa u
          simp only [St.gL,VG,St.get,h2] at this
          rw [hpr u (sE h2)]
          exact this
    have Q8:=vQ fun _=>false
    have nlS:∀ {q:Nat} {r:Loop},W.heap[q]? = some (.loop r)→¬ ug (Js s).gL μ1 q:=fun e h=>by obtain ⟨_,_,hb⟩:=Q8.tM h; exact hb.KB e
    have ndS:∀ {q:Nat} {r:Option (List Deferred)},W.heap[q]? = some (.deferred r)→¬ ug (Js s).gL μ1 q:=fun e h=>by obtain ⟨_,_,hb⟩:=Q8.tM h; exact hb.tJ e
    have hlW:w.heap.size+1 < W.heap.size:=(Array.getElem?_eq_some_iff.1 hinv.dl).1
    let C1:Cx:=Cx.at g.P g.nt W S1 (St.gL ⟨AZ ps.toList (enc y)++PX,(Js s).lb⟩) μ1 hinv.Bw Q8.mem Q8.bound [] (fun d h=>by cases h) List.nodup_nil
    have aaI:kW C1 ⟨AZ ps.toList (enc y)++PX,(Js s).lb⟩ { tmps:=tm,defers:=[] } W:=⟨S1,μ1,fun ν=>(ad7 ν).sim (SJ fun _=>false).1 _ _ _ _ _ _ rfl⟩
    let Rr:Value→World→Prop:=fun v w'=>∃ F',(∀ b,F' b→F b∨W.heap.size≤b)∧(∀ b,F' b→b < w'.heap.size)∧Kept W w' F∧((v=.bool true∧J (i+1) F' w')∨(v=.bool false∧Jx F' w'))
    let Z1:Cx→Frame→Cx→List Frame→Machine→Prop:=fun CC bb C' N6 m=>C'=CC→N6=c :: C6→bb=br→∃ v w',Rr v w'∧Steps g.P m (lone (c.finish v) C6 w')
    have zsc:∀ CC:Cx,∀ C' bb N6 m m',Steps g.P m m'→Z1 CC bb C' N6 m'→Z1 CC bb C' N6 m:=fun CC C' bb N6 m m' lX hz e1 e2 e3=>by
      obtain ⟨v,w',q1,q2⟩:=hz e1 e2 e3
      exact ⟨v,w',q1,lX.trans q2⟩
    have afD:∀ gg:Goal,gg.md=1→(br.roundOf=none↔gg.md≠1):=fun gg h=>⟨fun e=>by simp [br] at e,fun e=>absurd h e⟩
    refine ahj s y a.tmps (fun C' bb N6 m=>Z1 C1 bb C' N6 m) (fun C' bb N6 m m'=>zsc C1 C' bb N6 m m') hym ?_ C1 rfl rfl _ W (fun u hu=>hpr u hu) aaI br (c :: C6) XM rfl (afD _ rfl) rfl rfl rfl
    intro C' e1 e2 a1 W' hk1 hs1 bb N6 _ _ _ hCC Fb hbb
    subst hCC; subst Fb; subst hbb
    obtain ⟨S2,μ2,TU⟩:=hs1
    have h2:=TU fun _=>false
    have hkW:Kept W W' (ug (Js s).gL μ1):=h2.kept
    have KV:W'.heap[w.heap.size+1]? = some (.loop (Dx .ready none)):=(hkW.block _ hlW (nlS hinv.dl)).trans hinv.dl
    have hD':W'.heap[w.heap.size]? = some (.deferred (some [])):=(hkW.block _ (by omega) (ndS hinv.dD)).trans hinv.dD
    have ahl:=run_beginRound (P:=g.P) KV (by rw [Q7])
    have acm:Steps g.P (lone (br.atR a1 [.beginRound,.code body]) (c :: C6) W') (lone (br.atR a1 [.code body]) (c :: C6) (W'.putObj (w.heap.size+1) (.loop { Dx .ready none with state:=.busy }))):=.one (stepR_beginRound rfl ahl)
    obtain ⟨W2,Z2⟩:∃ W2,W'.putObj (w.heap.size+1) (.loop { Dx .ready none with state:=.busy })=W2:=⟨_,rfl⟩
    rw [Z2] at acm
    have XJ:Kept W' W2 (fun q=>q=w.heap.size+1):=Z2 ▸ Lv
    have hl2:W2.heap[w.heap.size+1]? = some (.loop { Dx .ready none with state:=.busy }):=by rw [← Z2]; exact World.putObj_heap_same (Array.getElem?_eq_some_iff.1 KV).1
    have ad8:∀ q,S2 q→S1 q∨W.heap.size≤q∨ug (Js s).gL μ1 q:=h2.fresh
    have nl2:¬ S2 (w.heap.size+1):=fun h=>by
      rcases ad8 _ h with q | q | q
      · exact hinv.nl q
      · omega
      · exact nlS hinv.dl q
    have nD2:¬ S2 w.heap.size:=fun h=>by
      rcases ad8 _ h with q | q | q
      · exact hinv.nD q
      · omega
      · exact ndS hinv.dD q
    have ad9:∀ q,ug (stA s y).gL μ2 q→W.heap.size≤q∨ug (Js s).gL μ1 q:=fun q hq=>h2.TS hq
    have hS2:∀ q,S2 q→W2.heap[q]? = W'.heap[q]?:=fun q hq=>XJ.block q (h2.bound q hq) (fun e=>nl2 (e ▸ hq))
    have nO2:¬ ug (stA s y).gL μ2 (w.heap.size+1):=fun h=>by obtain ⟨_,_,hb⟩:=h2.core.tM h; exact hb.KB KV
    have ahm:¬ ug (stA s y).gL μ2 w.heap.size:=fun h=>by obtain ⟨_,_,hb⟩:=h2.core.tM h; exact hb.tJ hD'
    have Wf:∀ ν,Core (stA s y).gL a1.tmps W2 S2 μ2 ν:=fun ν=>(TU ν).core.keep (fun _=>.inr rfl) hS2 (fun q hq=>XJ.block q (by obtain ⟨_,_,hb⟩:=(TU ν).core.tM hq; exact hb.lt) (fun e=>nO2 (e ▸ hq))) XJ.size
    have aea:kO W2 S2:=h2.Bw.mono (fun _ x=>x) hS2
    let C2:Cx:=Cx.at g.P g.nt W2 S2 (stA s y).gL μ2 aea (Wf fun _=>false).mem (Wf fun _=>false).bound [] (fun d h=>by cases h) List.nodup_nil
    have TV:kW C2 (stA s y) a1 W2:=⟨S2,μ2,fun ν=>(Wf ν).sim h2.tmps _ _ _ _ _ _ h2.defers⟩
    suffices ahn:Z1 C2 br C2 (c :: C6) (lone (br.atR a1 [.code body]) (c :: C6) W2) by
      obtain ⟨v,w',q1,q2⟩:=ahn rfl rfl rfl
      exact ⟨v,w',q1,acm.trans q2⟩
    -- how a round ends
    have acn:∀ (TW:St) (jump:Option Code) (a3:Act) (W3:World) (S3:Nat→Prop) (μ3:Mu),TW.sl=PX→(∀ u,u∈PX.map (·.1)→a3.tmps.getD u undef=a.tmps.getD u undef)→(∀ ν,dG C2 TW.gL a3 W3 S3 μ3 ν) →
        ∃ W4 F',(Instr.endRound (w.heap.size+1) jump).run g.P W3=.ok (.bool jump.isNone) W4∧(∀ b,F' b→F b∨W.heap.size≤b)∧(∀ b,F' b→b < W4.heap.size)∧Kept W W4 F∧(∀ ν,Core TW.gL a.tmps W4 S3 μ3 ν)∧IC w S El S3 TW.gL μ3 (Dx (if jump.isNone then .ready else .done) jump) F' W4:=by
      intro TW jump a3 W3 S3 μ3 hE aho TV
      have h3:=TV fun _=>false
      have aeb:Kept W2 W3 (ug (stA s y).gL μ2):=h3.kept
      have hl3:W3.heap[w.heap.size+1]? = some (.loop { Dx .ready none with state:=.busy }):=(aeb.block _ (Array.getElem?_eq_some_iff.1 hl2).1 nO2).trans hl2
      have hD2:W2.heap[w.heap.size]? = some (.deferred (some [])):=(XJ.block _ (by have:=hkW.size; omega) (by omega)).trans hD'
      have hD3:W3.heap[w.heap.size]? = some (.deferred (some [])):=(aeb.block _ (Array.getElem?_eq_some_iff.1 hD2).1 ahm).trans hD2
      have her:=run_endRound (P:=g.P) jump hl3
      obtain ⟨W4,hW4⟩:∃ W4,W3.putObj (w.heap.size+1) (.loop { ({ Dx .ready none with state:=.busy }:Loop) with state:=if jump.isNone then .ready else .done,pending:=jump })=W4:=⟨_,rfl⟩
      rw [hW4] at her
      have Za:Kept W3 W4 (fun q=>q=w.heap.size+1):=hW4 ▸ Lv
      have afE:W.heap.size≤W2.heap.size:=Nat.le_trans hkW.size XJ.size
      have aco:∀ q,S3 q→S1 q∨W.heap.size≤q∨ug (Js s).gL μ1 q:=fun q hq=>by
        rcases h3.fresh q hq with h | h | h
        · exact ad8 q h
        · exact .inr (.inl (Nat.le_trans afE h))
        · exact .inr (ad9 q h)
      have afF:∀ q,ug TW.gL μ3 q→W.heap.size≤q∨ug (Js s).gL μ1 q:=fun q hq=>by
        rcases h3.TS hq with h | h
        · exact .inl (Nat.le_trans afE h)
        · exact ad9 q h
      have nl3:¬ S3 (w.heap.size+1):=fun h=>by
        rcases aco _ h with q | q | q
        · exact hinv.nl q
        · omega
        · exact nlS hinv.dl q
      have nD3:¬ S3 w.heap.size:=fun h=>by
        rcases aco _ h with q | q | q
        · exact hinv.nD q
        · omega
        · exact ndS hinv.dD q
      have nO3:¬ ug TW.gL μ3 (w.heap.size+1):=fun h=>by obtain ⟨_,_,hb⟩:=h3.core.tM h; exact hb.KB hl3
      have hS4:∀ q,S3 q→W4.heap[q]? = W3.heap[q]?:=fun q hq=>Za.block q (h3.bound q hq) (fun e=>nl3 (e ▸ hq))
      have hwW:w.heap.size≤W.heap.size:=hinv.kept.size
      have hKF:Kept W W4 F:=by
        refine ((((hkW.Bv (fun q hq=>(hinv.F q).2 (.inl hq))).trans XJ (T':=fun q=>q=w.heap.size+1) (fun q _ e=>(hinv.F q).2 (.inr (.inr (.inl e))))).trans aeb (fun q hq h=>?_)).trans Za (fun q _ e=>(hinv.F q).2 (.inr (.inr (.inl e)))))
        rcases ad9 q h with h | h
        · omega
        · exact (hinv.F q).2 (.inl h)
      refine ⟨W4,fun q=>ug TW.gL μ3 q∨(S3 q∧¬ S q)∨q=w.heap.size+1∨q=w.heap.size,her,fun q hq=>?_,fun q hq=>?_,hKF,fun ν=>?_,?_⟩
      · rcases hq with h | ⟨h,uJ⟩ | h | h
        · exact (afF q h).symm.imp (fun h=>(hinv.F q).2 (.inl h)) (fun x=>x)
        · rcases aco q h with h | h | h
          · exact .inl ((hinv.F q).2 (.inr (.inl ⟨h,uJ⟩)))
          · exact .inr h
          · exact .inl ((hinv.F q).2 (.inl h))
        · exact .inl ((hinv.F q).2 (.inr (.inr (.inl h))))
        · exact .inl ((hinv.F q).2 (.inr (.inr (.inr h))))
      · have aiL:=Za.size
        have h3l:=(Array.getElem?_eq_some_iff.1 hl3).1
        rcases hq with h | ⟨h,_⟩ | h | h
        · obtain ⟨_,_,hb⟩:=h3.core.tM h
          have:=hb.lt
          omega
        · have:=h3.bound q h
          omega
        · omega
        · omega
      · refine (TV ν).core.keep (fun u=>?_) hS4 (fun q hq=>Za.block q (by obtain ⟨_,_,hb⟩:=(TV ν).core.tM hq; exact hb.lt) (fun e=>nO3 (e ▸ hq))) Za.size
        simp only [St.gL,hE,St.get]
        cases xP:look PX u with
        | none=>exact .inl rfl
        | some x=>exact .inr (aho u (sE xP)).symm
      · refine ⟨h3.Bw.mono (fun _ x=>x) hS4,fun q hq=>h3.fU q (h2.fU q (hinv.sub q hq)),fun q hq=>?_,fun q hq=>?_,?_,(Za.block _ (Array.getElem?_eq_some_iff.1 hD3).1 (by omega)).trans hD3,?_,nD3,nl3,fun q=>Iff.rfl⟩
        · rcases aco q hq with h | h | h
          · exact hinv.new q h
          · exact .inr (.inl (Nat.le_trans hwW h))
          · exact .inr (hinv.own q h).symm
        · rcases afF q hq with h | h
          · exact .inr (Nat.le_trans hwW h)
          · exact hinv.own q h
        · refine hinv.kept.trans hKF (fun q hq h=>?_)
          rcases (hinv.F q).1 h with h | ⟨h,uJ⟩ | h | h
          · exact (hinv.own q h).resolve_right (by omega)
          · rcases hinv.new q h with h | h | h
            · exact absurd h uJ
            · omega
            · exact h
          · omega
          · omega
        · rw [← hW4]
          have:=World.putObj_heap_same (o:=.loop { ({ Dx .ready none with state:=.busy }:Loop) with state:=if jump.isNone then .ready else .done,pending:=jump }) (Array.getElem?_eq_some_iff.1 hl3).1
          rw [this,Q7]
    refine afA i s y a.tmps (fun C' bb N6 m=>Z1 C2 bb C' N6 m) (fun C' bb N6 m m'=>zsc C2 C' bb N6 m m') hIs hyi ?_ C2 rfl rfl a1 W2 hk1 TV br (c :: C6) XM rfl (afD _ rfl)
    cases lX:step s y with
    | inr s' =>
      simp only
      intro C' e1 e2 a3 W3 hk3 hs3 bb N6 _ _ _ hCC Fb hbb
      subst hCC; subst Fb; subst hbb
      obtain ⟨S3,μ3,Wg⟩:=hs3
      obtain ⟨W4,F',q1,q2,q2b,q3,q4,q5⟩:=acn (Js s') none a3 W3 S3 μ3 (VG s') (fun u hu=>hk3 u hu) Wg
      have ahp:I (i+1) s':=by have:=hI i s y hIs hyi; rw [lX] at this; exact this
      exact ⟨.bool true,W4,⟨F',q2,q2b,q3,.inl ⟨rfl,s',S3,μ3,by rw [ht1,lX],ahp,q4,q5⟩⟩,.one (stepR_round_end rfl rfl q1)⟩
    | inl bv =>
      simp only
      intro k' hx C' e1 e2 a3 W3 hk3 hs3 bb N6 _ _ _ hCC Fb hbb
      subst hCC; subst Fb; subst hbb
      obtain ⟨S3,μ3,Wg⟩:=hs3
      obtain ⟨W4,F',q1,q2,q2b,q3,q4,q5⟩:=acn (Jb bv) (some (.exit id)) a3 W3 S3 μ3 (hbl bv) (fun u hu=>hk3 u hu) Wg
      exact ⟨.bool false,W4,⟨F',q2,q2b,q3,.inr ⟨rfl,bv,S3,μ3,ht2 bv lX,q4,q5⟩⟩,.one (stepR_round_exit rfl rfl hx q1)⟩
  -- THE aiM
  have afG:=hit.2 W1 S μ CZ (w.heap.size+1) J Jx F0 (fun b hb=>Nat.lt_of_lt_of_le (G1.bound b hb) aaH.size) adq.Bw (fun ν=>⟨(hrc ν).1,fun i hi=>((hrc ν).2 i hi).mono (fun _ x=>x) hS1 (fun _ _ e=>e)⟩)
    (fun q hq h=>by
      rcases h with h | ⟨_,h⟩ | h | h
      · obtain ⟨_,_,hb⟩:=G1.core.tM h
        exact hb.not hq
      · exact h hq
      · have:=G1.bound q hq; omega
      · have:=G1.bound q hq; omega)
    (fun q h=>by
      rcases h with h | ⟨h,h'⟩ | h | h
      · obtain ⟨_,_,hb⟩:=G1.core.tM h
        have:=hb.lt
        omega
      · exact absurd h h'
      · omega
      · omega)
    (fun i F W W' hJ wW=>by
      obtain ⟨s,S1,μ1,q1,q2,q3,q4⟩:=hJ
      obtain ⟨r1,r2⟩:=q4.keep q3 (n:=W1.heap.size) (by omega) wW
      exact ⟨s,S1,μ1,q1,q2,r2,r1⟩)
    (fun F W W' hJ wW=>by
      obtain ⟨s,S1,μ1,q1,q3,q4⟩:=hJ
      obtain ⟨r1,r2⟩:=q4.keep q3 (n:=W1.heap.size) (by omega) wW
      exact ⟨s,S1,μ1,q1,r2,r1⟩)
    ad6 ⟨s0,S,μ,by simp [rA],hI0,ad5,adq⟩
  let fr1:Frame:=b.atR { a with defers:=[{ target:=.collected w.heap.size,args:=#[] }]++a.defers } (.inRangeFunc (w.heap.size+1) :: k)
  obtain ⟨e,w',fr,⟨⟨v,rfl⟩,hJJ⟩,aec,aiN,aed⟩:=afG (fr1 :: cs)
  have hen:(Instr.enterLoop b.fn a.tmps ps Q6 body b.roundOf).run g.P w=.ok (w.heap.size+1,[{ target:=.collected w.heap.size,args:=#[] }]) W1:=by
    rw [hrd,← hW1,Q7]; exact run_enterLoop_outer _ _ _ _ _
  have aam:(resolve a.eval (rangeCall (.tmp t) (w.heap.size+1)) 0).run g.P W1=.ok { target:=.fn (.func gf) CZ,args:=#[.func (.yield (w.heap.size+1)) #[] #[]] } W1:=by
    have:a.eval (.tmp t)=.func (.func gf) #[] CZ:=hfv
    simp only [resolve,this]
    simp [go_sem]
  have afH:(invoke (.fn (.func gf) CZ) #[.func (.yield (w.heap.size+1)) #[] #[]]).run g.P W1=.ok (.enter gf (#[.func (.yield (w.heap.size+1)) #[] #[]]++CZ)) W1:=by
    have eg:=fun args=>Fi (w:=W1) hit.1 args
    simp [invoke,go_sem,eg]
  have ahq:Steps g.P (lone (b.atR a (.code (.rangeFunc (.tmp t) ps Q6 body) :: k)) cs w) (lone (Frame.enter g.P gf (#[.func (.yield (w.heap.size+1)) #[] #[]]++CZ) .normal) (fr1 :: cs) W1):=.one (stepR_rangeFunc hen aam afH)
  have acm:Steps g.P (lone (b.atR a (.code (.rangeFunc (.tmp t) ps Q6 body) :: k)) cs w) (lone (b.atR { a with defers:=[{ target:=.collected w.heap.size,args:=#[] }]++a.defers } (.endRangeFunc (w.heap.size+1) :: k)) cs w'):=by
    refine ahq.trans (Steps.trans aec (.one ?_))
    rw [← finish_atR_inRangeFunc (w.heap.size+1) v]
    exact step_leave_returned aed
  -- YD comes then
  have aaJ:∀ (TW:St) (S1:Nat→Prop) (μ1:Mu) (r:Loop) (F:Nat→Prop) (k':List Item),(∀ ν,Core TW.gL a.tmps w' S1 μ1 ν)→IC w S El S1 TW.gL μ1 r F w'→r.state≠.busy→(r.pending.map Item.code).toList++k=k'→G g k' TW→g.Z C b cs (lone (b.atR a (.code (.rangeFunc (.tmp t) ps Q6 body) :: k)) cs w):=by
    intro TW S1 μ1 r F k' vQ hinv afI wW hG
    have hel:=run_endLoop (P:=g.P) hinv.dl afI
    have aee:=Steps.trans acm (.one (stepR_endRangeFunc hel))
    rw [wW] at aee
    obtain ⟨W5,hW5⟩:∃ W5,w'.putObj (w.heap.size+1) (.loop { r with state:=.exhausted })=W5:=⟨_,rfl⟩
    rw [hW5] at aee
    have XJ:Kept w' W5 (fun q=>q=w.heap.size+1):=hW5 ▸ Lv
    have hc0:=vQ fun _=>false
    have nO:¬ ug TW.gL μ1 (w.heap.size+1):=fun h=>by obtain ⟨_,_,hb⟩:=hc0.tM h; exact hb.KB hinv.dl
    have hS5:∀ q,S1 q→W5.heap[q]? = w'.heap[q]?:=fun q hq=>XJ.block q (hc0.bound q hq) (fun e=>hinv.nl (e ▸ hq))
    have Wh:∀ ν,Core TW.gL a.tmps W5 S1 μ1 ν:=fun ν=>(vQ ν).keep (fun _=>.inr rfl) hS5 (fun q hq=>XJ.block q (by obtain ⟨_,_,hb⟩:=(vQ ν).tM hq; exact hb.lt) (fun e=>nO (e ▸ hq))) XJ.size
    have hk5:Kept w W5 El:=hinv.kept.trans XJ (fun q hq e=>by omega)
    have ahr:w.heap.size < w'.heap.size:=(Array.getElem?_eq_some_iff.1 hinv.dD).1
    have ahs:∀ d,d∈[({ target:=.collected w.heap.size,args:=#[] }:Deferred)]++a.defers→∃ q,d = { target:=.collected q,args:=#[] }∧W5.heap[q]? = some (.deferred (some []))∧¬ S1 q:=by
      intro d hd
      rcases List.mem_append.1 hd with hd | hd
      · simp only [List.mem_singleton] at hd
        exact ⟨w.heap.size,hd,(XJ.block _ ahr (by omega)).trans hinv.dD,hinv.nD⟩
      · rw [G1.defers] at hd
        obtain ⟨q,e,q1,q2⟩:=G1.Y4 d hd
        have hq:=(Array.getElem?_eq_some_iff.1 q1).1
        have nq:¬ El q:=fun h=>by obtain ⟨_,_,hb⟩:=G1.core.tM h; exact hb.tJ q1
        refine ⟨q,e,(hk5.block q hq nq).trans q1,fun h=>?_⟩
        rcases hinv.new q h with h | h | h
        · exact q2 h
        · omega
        · exact nq h
    have aht:([({ target:=.collected w.heap.size,args:=#[] }:Deferred)]++a.defers).Nodup:=by
      refine List.nodup_cons.2 ⟨fun hd=>?_,by rw [G1.defers]; exact C.dnd⟩
      rw [G1.defers] at hd
      obtain ⟨q,e,q1,q2⟩:=G1.Y4 _ hd
      cases e
      have:=(Array.getElem?_eq_some_iff.1 q1).1
      omega
    let C5:Cx:=Cx.at g.P g.nt W5 S1 TW.gL μ1 (hinv.Bw.mono (fun _ x=>x) hS5) (Wh fun _=>false).mem (Wh fun _=>false).bound _ ahs aht
    have afJ:kW C5 TW { a with defers:=[{ target:=.collected w.heap.size,args:=#[] }]++a.defers } W5:=⟨S1,μ1,fun ν=>Core.sim (a:={ a with defers:=[{ target:=.collected w.heap.size,args:=#[] }]++a.defers }) (Wh ν) hnt _ _ _ _ _ _ rfl⟩
    have aef:∀ q,El q→C.w0.heap.size≤q∨C.T0 q:=fun q hq=>G1.TS hq
    have hw0:C.w0.heap.size≤w.heap.size:=G1.kept.size
    refine g.zs C b cs _ _ aee (hz (C':=C5) ⟨fun q hq=>hinv.sub q (G1.fU q hq),fun q hq=>?_,G1.kept.trans hk5 (fun q hq h=>(aef q h).resolve_left (by omega)),fun q hq=>?_⟩ (hG C5 rfl rfl { a with defers:=[{ target:=.collected w.heap.size,args:=#[] }]++a.defers } W5 VK afJ b cs XM GK Z0))
    · rcases hinv.new q hq with h | h | h
      · exact G1.fresh q h
      · exact .inr (.inl (Nat.le_trans hw0 h))
      · exact .inr (aef q h)
    · rcases hq with h | h
      · rcases hinv.own q h with h | h
        · exact ((aef q h).imp (fun x=>x) .inl).symm
        · exact .inr (Nat.le_trans hw0 h)
      · rcases List.mem_append.1 h with h | h
        · simp only [List.mem_singleton,Deferred.mk.injEq,Target.collected.injEq,and_true] at h
          subst h
          exact .inr hw0
        · rw [G1.defers] at h
          exact .inl (.inr h)
  rcases hJJ with ⟨F,s,S1,μ1,q1,q2,q3,q4⟩ | ⟨F,bv,S1,μ1,q1,q3,q4⟩
  · have q1:rA step ys s0=.inr s:=by
      have e:ys.take (ys.map enc).length=ys:=by simp
      rw [e] at q1; exact q1
    rw [q1] at hk
    exact aaJ (Js s) S1 μ1 _ F k q3 q4 (by rw [Q7]; simp) (by rw [Q7]; rfl) hk
  · rw [q1] at hk
    exact aaJ (Jb bv) S1 μ1 _ F _ q3 q4 (by rw [Q7]; simp) (by rw [Q7]; rfl) hk

end
def aaK (ops:Array Oper):Option (Nat × Nat × Nat × Nat × Nat × Nat) :=
 match ops.toList with
 | [o1,o2,o3,o4]=>(match o1.op,o1.dst,o1.guard,o2.op,o2.dst,o2.guard with
  | .move (.tmp ts),some d1,none,.move (.tmp ti),some d2,none=>(match o3.op,o3.dst,o3.guard,o4.op,o4.dst,o4.guard with
   | .slice ty (.tmp a) (some (.tmp b)) none none,some d3,none,.call { callee:=.builtin .clear,args:=xs,argTypes:=tys,.. },none,none=>(match xs.toList,tys.toList with
    | [.tmp c],[ty']=>bif Nat.beq a d1&&Nat.beq b d2&&Nat.beq c d3&&Nat.beq ty ty'&&!Nat.beq d1 d2&&!Nat.beq ti d1 then some (ts,ti,ty,d1,d2,d3) else none
    | _,_=>none)
   | _,_,_,_,_,_=>none)
  | _,_,_,_,_,_=>none)
 | _=>none
def xQ (x:Nat) (f:Nat→List D) (z:List D):Nat→List D:=fun q=>if q < x then f q else z
section
variable {C : Cx} {A : M} {a : Act} {w : World} {S : Nat → Prop} {μ : Mu} {ν : Nat → Bool}
theorem N7 {P:Program} {t e ty:TypeId} {j:TypeInfo} {z:Value} {i:TI} (F:Xw P e i j z) (Ff:i.zero.all Bb=true) (hu:P.underlying t=some (.slice e)) {g off m c:Nat} {cur:Array Value} {e':TypeId} (hm:0 < m)
  (hg:w.heap[g]? = some (.cells cur e' (0,0))) (hle:off+m * i.size≤cur.size) :
  (Builtin.clear_ #[t] ty #[.slice (some ⟨g,off,none⟩) m c]).run P w=.ok (.tuple #[]) (w.setRow g (cur.toList.take off++(Builtin.zeroCells z.cells m).toList++cur.toList.drop (off+m * i.size)).toArray):=by
 obtain ⟨q1,q2⟩:=ln (w:=w) (S:=fun _=>False) F.zok
 have hzl:z.cells.size=i.size:=by have:=q1; simp only [Array.length_toList] at this; rw [this,F.Ec]
 have hlen:(Builtin.zeroCells z.cells m).toList.length=m * i.size:=by simp [Builtin.zeroCells,hzl]
 have lX:=run_storeCells_at P g off e' (Builtin.zeroCells z.cells m).toList 0 cur w hg (by rw [hlen]; omega) (fun v hv=>by
  simp only [Builtin.zeroCells,hzl] at hv
  obtain ⟨q,hq,rfl⟩:∃ q,q < m * i.size∧z.cells[q % i.size]! = v:=by simpa using hv
  have N3:0 < i.size:=by
   rcases Nat.eq_zero_or_pos i.size with h0 | h0
   ·rw [h0] at hq; simp at hq
   ·exact h0
  have gI:q % i.size < i.size:=Nat.mod_lt _ N3
  have h2:=q2 (q % i.size) (by rw [F.Ec]; exact gI)
  have NY:q % i.size < z.cells.size:=by omega
  rw [getElem!_pos z.cells _ NY]
  have e1:z.cells.toList.getD (q % i.size) undef=z.cells[q % i.size]:=by simp [List.getD,NY]
  rw [e1] at h2
  simp only [List.all_eq_true] at Ff
  exact Fe (Ff _ (by simp [List.getD,F.Ec,gI])) h2)
 simp only [Nat.add_zero,hlen] at lX
 obtain ⟨m',rfl⟩:∃ m',m=m'+1:=⟨m - 1,by omega⟩
 simp only [Builtin.clear_,List.getElem?_toArray,List.getElem?_cons_zero,Sem.run_bind,run_underlying hu,Result.andThen_ok,zeroValue,typeInfo,run_program,F.info,Sem.run_pure,F.zero,lX]
theorem Lw {P:Program} {t e ty:TypeId} (hu:P.underlying t=some (.slice e)) (ad:Option Addr) (c:Nat):(Builtin.clear_ #[t] ty #[.slice ad 0 c]).run P w=.ok (.tuple #[]) w:=by
 cases ad <;> simp [Builtin.clear_,run_underlying hu]
theorem TX {o:Oper} (h:o.guard=none) (y):Region.wanted o y=true:=by simp [Region.wanted,h]
theorem dG.ahu {st:St} (dy:∀ ν,dG C st.gL a w S μ ν) {d1 d2 d3:Nat} (v1 v2 v3:Value) :
  ∀ ν,dG C (St.gL ⟨aY [d1,d2,d3] st.sl,st.lb⟩) (((a.put (some d1) v1).put (some d2) v2).put (some d3) v3) w S μ ν:=fun ν=>by
 have h:=dy ν
 refine ⟨by simp [Act.put,h.tmps],h.defers,fun u=>?_,h.mem,h.inj,h.own,h.fU,h.fresh,h.bound,h.kept⟩
 simp only [St.gL,St.get,nI]
 by_cases hn:u∈[d1,d2,d3]
 ·rw [if_pos hn]
  exact .any _
 ·rw [if_neg hn]
  simp only [List.mem_cons,List.not_mem_nil,or_false,not_or] at hn
  simp only [Act.put]
  rw [dw _ _ _ _ hn.2.2,dw _ _ _ _ hn.2.1,dw _ _ _ _ hn.1]
  have:=h.fa u
  simp only [St.gL,St.get] at this
  exact this
end
theorem KC {P:Program} {ops:Array Oper} {Q:Exit→Act→World→Prop} {i:Nat} {rest:List Nat} {a:Act} {w w':World} {o:Oper} {v:Value} (ho:ops[i]? = some o) (hg:o.guard=none) (iI:(execOp a.eval o).run P w=.ok (.value v) w') (h:wpOps P ops Q rest (a.put o.dst v) w'):wpOps P ops Q (i :: rest) a w:=by
 simp only [wpOps,ho,TX hg,if_true]
 left
 unfold Oper.wp
 rw [iI]
 exact h
section
variable {g : Goal}
theorem G.PY (hT:pk g.P g.T) (hm:g.P.follows .mixedOrders=true) {K:List Item} {st:St} {id:Nat} {ops:Array Oper} {ts ti ty d1 d2 d3 κ e k n:Nat} {f:Nat→List D} {x:Int} {it i:TI} (Wc:Jg g.md g.pr ops=true) (rB:aaK ops=some (ts,ti,ty,d1,d2,d3)) (Z3:d1 < g.nt) (hd2:d2 < g.nt) (hd3:d3 < g.nt)
  (hs:St.get st.sl ts=.own κ n) (hi:St.get st.sl ti=.d (.v (.int .i64 x))) (hl:look st.lb κ=some (.row e k n f)) (ht:look g.T ty=some it) (hk:it.kind=.slice e) (he:look g.T e=some i) (wW:k=i.size) (Ff:i.zero.all Bb=true)
  (h0:0≤x) (h1:x≤n) (hg:G g K ⟨aY [d1,d2,d3] st.sl,(κ,.row e k n (xQ x.toNat f i.zero)) :: aY [κ] st.lb⟩):G g (.code (.region id ops false) :: K) st:=by
 intro C c1 c2 a w VK hsb
 suffices hw:wpOps C.P ops (fun e' a' w'=>e'=.normal∧kW C ⟨aY [d1,d2,d3] st.sl,(κ,.row e k n (xQ x.toNat f i.zero)) :: aY [κ] st.lb⟩ a' w') (List.range ops.size) a w by
  rw [c1] at hw
  exact G.ops hm Wc VK (.inl ⟨rfl,hw⟩) (fun a' w' gZ yJ=>hg C c1 c2 a' w' gZ yJ)
 obtain ⟨S,μ,dy⟩:=hsb
 have hz:=dy fun _=>false
 rw [← c2] at Z3 hd2 hd3
 rw [← c1] at hT
 subst wW
 unfold aaK at rB
 split at rB
 ·rename_i o1 o2 o3 o4 hol
  split at rB
  ·rename_i XN Z4 ti' d2' q1 q2 q3 q4 q5 q6
   split at rB
   ·rename_i tyq a' b' d3' xs tys r1 r2 r3 r4 r5 r6
    split at rB
    ·rename_i c' ty2 hx Q9
     rw [Bool.cond_eq_ite] at rB
     split at rB
     ·rename_i hbb
      simp only [Bool.and_eq_true,Bool.not_eq_true'] at hbb
      obtain ⟨⟨⟨⟨⟨b1,b2⟩,b3⟩,b4⟩,b5⟩,b6⟩:=hbb
      have b1:=Nat.eq_of_beq_eq_true b1
      have b2:=Nat.eq_of_beq_eq_true b2
      have b3:=Nat.eq_of_beq_eq_true b3
      have b4:=Nat.eq_of_beq_eq_true b4
      subst b1; subst b2; subst b3; subst b4
      simp only [Option.some.injEq,Prod.mk.injEq] at rB
      obtain ⟨rfl,rfl,rfl,rfl,rfl,rfl⟩:=rB
      have n5:a'≠b':=fun e=>by rw [e,Nat.beq_refl] at b5; cases b5
      have n6:ti'≠a':=fun e=>by rw [e,Nat.beq_refl] at b6; cases b6
      have rB:ops = #[o1,o2,o3,o4]:=by cases ops; simpa using hol
      have hxs:xs = #[.tmp c']:=by cases xs; simpa using hx
      have ahv:tys = #[tyq]:=by cases tys; simpa using Q9
      subst rB; subst hxs; subst ahv
      show wpOps C.P #[o1,o2,o3,o4] _ [0,1,2,3] a w
      have kN:∀ (a:Act) (d:Option Nat) (x:Value),(a.put d x).tmps.size=a.tmps.size:=fun a d x=>by cases d <;> simp [Act.put]
      have Zb:∀ (a:Act) (d:Nat) (x:Value),a.tmps.size=C.nt→d < C.nt→(a.put (some d) x).eval (.tmp d)=x:=fun a d x h1 h2=>by
       show (a.tmps.setIfInBounds d x).getD d undef=x
       exact iX _ _ _ (by rw [h1]; exact h2)
      have afK:∀ (a:Act) (d u:Nat) (x:Value),u≠d→(a.put (some d) x).eval (.tmp u)=a.eval (.tmp u):=fun a d u x h=>by
       show (a.tmps.setIfInBounds d x).getD u undef=a.tmps.getD u undef
       exact dw _ _ _ _ h
      have tsz:=hz.tmps
      have hsv:=hz.fa XN
      simp only [St.gL,hs] at hsv
      have hsv:Rel w S μ (fun _=>false) (.own κ n) (a.eval (.tmp XN)):=hsv
      have ZZ:=hz.fa ti'
      simp only [St.gL,hi] at ZZ
      have ZZ:a.eval (.tmp ti')=.int .i64 x:=fk ZZ
      obtain ⟨tj,z,F⟩:=aG (hT _ _ ht)
      have wW:=F.kind
      rw [hk] at wW
      have hu:=fA wW
      obtain ⟨ej,ez,E⟩:=aG (hT _ _ he)
      refine KC (o:=o1) rfl q3 (v:=a.eval (.tmp XN)) (w':=w) (by simp [execOp,q1]) ?_
      rw [q2]
      refine KC (o:=o2) rfl q6 (v:=.int .i64 x) (w':=w) (by simp [execOp,q4,afK _ _ _ _ n6,ZZ]) ?_
      rw [q5]
      have ea:((a.put (some a') (a.eval (.tmp XN))).put (some b') (.int .i64 x)).eval (.tmp a')=a.eval (.tmp XN):=by rw [afK _ _ _ _ n5,Zb _ _ _ tsz Z3]
      have eb:((a.put (some a') (a.eval (.tmp XN))).put (some b') (.int .i64 x)).eval (.tmp b')=.int .i64 x:=Zb _ _ _ (by rw [kN]; exact tsz) hd2
      have lu:=hz.mem κ _ hl
      have lX:(St.gL ⟨st.sl,(κ,.row e i.size n (xQ x.toNat f i.zero)) :: aY [κ] st.lb⟩)=st.gL.set κ (some (.row e i.size n (xQ x.toNat f i.zero))):=by
       unfold St.gL M.set
       congr 1
       funext q
       rw [ca,nI]
       by_cases hq:κ=q
       ·subst hq; simp
       ·have:q ∉ [κ]:=by simp; exact fun e=>hq e.symm
        have QS:¬ q=κ:=fun e=>hq e.symm
        simp [hq,QS]
      have fin:∀ (v3:Value) (w':World),(∀ ν,dG C (st.gL.set κ (some (.row e i.size n (xQ x.toNat f i.zero)))) a w' S μ ν)→kW C ⟨aY [a',b',c'] st.sl,(κ,.row e i.size n (xQ x.toNat f i.zero)) :: aY [κ] st.lb⟩ (((a.put (some a') (a.eval (.tmp XN))).put (some b') (.int .i64 x)).put (some c') v3) w':=fun v3 w' h =>
       ⟨S,μ,dG.ahu (st:=⟨st.sl,(κ,.row e i.size n (xQ x.toNat f i.zero)) :: aY [κ] st.lb⟩) (fun ν=>by rw [lX]; exact h ν) _ _ v3⟩
      have same:x.toNat=n→∀ ν,dG C (st.gL.set κ (some (.row e i.size n (xQ x.toNat f i.zero)))) a w S μ ν:=fun hxn ν=>by
       refine (dy ν).weaken (fun t v hv=>hv) (fun κ' b' pn=>?_)
       simp only [M.set] at pn
       by_cases hq:κ'=κ
       ·simp only [hq,if_true,Option.some.injEq] at pn
        subst pn
        refine ⟨.row e i.size n f,by rw [hq]; exact hl,fun y hy=>?_⟩
        cases y with
        | none=>exact hy
        | some y =>
         cases y with
         | none=>exact hy
         | some gc =>
          obtain ⟨gg,cap⟩:=gc
          obtain ⟨cur,y1,y2,y3,y4,y5,y6⟩:=hy.at
          refine eH.ok (b:=.row e i.size n _) ⟨cur,y1,y2,y3,y4,y5,fun q QS=>?_⟩
          have:xQ x.toNat f i.zero q=f q:=by simp only [xQ]; rw [if_pos (by omega)]
          rw [this]
          exact y6 q QS
       ·simp only [hq,if_false] at pn
        exact ⟨b',pn,fun _ hy=>hy⟩
      have Ja:∀ w,(sizeOf e).run C.P w=.ok i.size w:=fun w=>by simp [sizeOf,typeInfo,E.info,E.size]
      have VG:∀ (ad:Option Addr) (m cap:Nat),x≤m→m≤cap→(Instr.sliceAt tyq (.slice ad m cap) (some (.int .i64 x)) none none).run C.P w=.ok (.slice (if cap=x.toNat then ad else ad.map (·.add (x.toNat * i.size))) (m - x.toNat) (cap - x.toNat)) w:=fun ad m cap KD hx2=>by
       have q1:∀ (k:IntKind) (i:Int) (y:Nat) (c:BoundsCode),0≤i→i≤y→(Instr.sliceBound (.int k i) y c).run C.P w=.ok i.toNat w:=fun k i y c h0 h1=>run_sliceBound w k i y c h0 h1
       simp (disch:=omega) [Instr.sliceAt,run_underlying hu,Instr.slice,Instr.sliceBounds,q1,Ja]
      have afL:∀ v,(Instr.sliceAt tyq (a.eval (.tmp XN)) (some (.int .i64 x)) none none).run C.P w=.ok v w→(execOp ((a.put (some a') (a.eval (.tmp XN))).put (some b') (.int .i64 x)).eval o3).run C.P w=.ok (.value v) w:=fun v hv=>by
       simp only [execOp,r1,ea,eb,Option.map_some,Option.map_none,Sem.run_bind,hv,Result.andThen_ok,Sem.run_pure]
      have ec:∀ v3,(((a.put (some a') (a.eval (.tmp XN))).put (some b') (.int .i64 x)).put (some c') v3).eval (.tmp c')=v3:=fun v3=>Zb _ _ _ (by rw [kN,kN]; exact tsz) hd3
      have afM:∀ v3 w',(Builtin.clear_ #[tyq] o4.type #[v3]).run C.P w=.ok (.tuple #[]) w'→(execOp (((a.put (some a') (a.eval (.tmp XN))).put (some b') (.int .i64 x)).put (some c') v3).eval o4).run C.P w=.ok (.value (.tuple #[])) w':=fun v3 w' hv=>by
       simp [execOp,r4,resolve,invoke,ec,builtin,hv]
      have done:∀ v3 w',(Instr.sliceAt tyq (a.eval (.tmp XN)) (some (.int .i64 x)) none none).run C.P w=.ok v3 w→(Builtin.clear_ #[tyq] o4.type #[v3]).run C.P w=.ok (.tuple #[]) w'→(∀ ν,dG C (st.gL.set κ (some (.row e i.size n (xQ x.toNat f i.zero)))) a w' S μ ν) →
        wpOps C.P #[o1,o2,o3,o4] (fun e' aa w'=>e'=.normal∧kW C ⟨aY [a',b',c'] st.sl,(κ,.row e i.size n (xQ x.toNat f i.zero)) :: aY [κ] st.lb⟩ aa w') [2,3] ((a.put (some a') (a.eval (.tmp XN))).put (some b') (.int .i64 x)) w:=fun v3 w' x1 x2 x3=>by
       refine KC (o:=o3) rfl r3 (afL v3 x1) ?_
       rw [r2]
       refine KC (o:=o4) rfl r6 (afM v3 w' x2) ?_
       rw [r5]
       exact ⟨rfl,fin v3 w' x3⟩
      generalize aiO:a.eval (.tmp XN)=sv at hsv done
      cases hsv with
      | @dt _ ad hμ =>
       refine done _ w (VG ad 0 0 (by omega) (Nat.le_refl _)) ?_ (same (by omega))
       have:0 - x.toNat=0:=by omega
       rw [this]
       exact Lw hu _ _
      | @own _ _ gg cap hμ =>
       rw [hμ] at lu
       obtain ⟨cur,hgc,uJ,Fb,VZ,SL,ru⟩:=lu.at
       rcases Nat.lt_or_ge x.toNat n with gI | SK
       ·have e3:(if cap=x.toNat then some (⟨gg,0,none⟩:Addr) else (some (⟨gg,0,none⟩:Addr)).map (·.add (x.toNat * i.size)))=some ⟨gg,x.toNat * i.size,none⟩:=by
         rw [if_neg (by omega)]
         simp [js]
        have hmul:x.toNat * i.size+(n - x.toNat) * i.size=n * i.size:=by rw [← Nat.add_mul]; congr 1; omega
        have hle:x.toNat * i.size+(n - x.toNat) * i.size≤cur.size:=by rw [hmul,Fb]; exact Nat.mul_le_mul_right _ VZ
        have acp:ez.cells.size=i.size:=by have:=(ln (w:=w) (S:=S) E.zok).1; simp only [Array.length_toList] at this; rw [this,E.Ec]
        have adr:(Builtin.zeroCells ez.cells (n - x.toNat)).toList.length=(n - x.toNat) * i.size:=by simp [Builtin.zeroCells,acp]
        have iI:=N7 (P:=C.P) (t:=tyq) (ty:=o4.type) (c:=cap - x.toNat) E Ff hu (by omega:0 < n - x.toNat) hgc hle
        refine done _ _ ((VG _ n cap h1 VZ).trans (by rw [e3])) iI (fun ν=>(dy ν).write hl hμ (b':=.row e i.size n _) ⟨_,setRow_heap w gg cur _ e _ hgc,uJ,?_,VZ,SL,fun q hq=>⟨?_,fun j hj=>?_⟩⟩)
        ·simp only [List.size_toArray,List.length_append,List.length_take,List.length_drop,Array.length_toList,adr]
         have:n * i.size≤cap * i.size:=Nat.mul_le_mul_right _ VZ
         omega
        ·simp only [xQ]
         split
         ·exact (ru q hq).1
         ·exact E.Ec
        ·have hqj:q * i.size+j < n * i.size:=by
          calc q * i.size+j < q * i.size+i.size:=by omega
           _=(q+1) * i.size:=by rw [Nat.add_mul,Nat.one_mul]
           _≤n * i.size:=Nat.mul_le_mul_right _ hq
         rw [List.getElem?_toArray]
         by_cases hqx:q < x.toNat
         ·have ahw:q * i.size+j < x.toNat * i.size:=by
           calc q * i.size+j < q * i.size+i.size:=by omega
            _=(q+1) * i.size:=by rw [Nat.add_mul,Nat.one_mul]
            _≤x.toNat * i.size:=Nat.mul_le_mul_right _ hqx
          obtain ⟨u,hu1,hu2⟩:=(ru q hq).2 j hj
          refine ⟨u,?_,?_⟩
          ·rw [List.append_assoc,List.getElem?_append_left (by simp; omega),List.getElem?_take,if_pos ahw]
           simpa using hu1
          ·have:xQ x.toNat f i.zero q=f q:=by simp only [xQ]; rw [if_pos hqx]
           rw [this]
           exact hu2.mono (fun _ x=>x) (fun b hb=>setRow_other w gg b _ (fun e=>uJ (e ▸ hb)))
         ·have hxq:x.toNat * i.size≤q * i.size:=Nat.mul_le_mul_right _ (by omega)
          have VF:q * i.size+j - x.toNat * i.size < (n - x.toNat) * i.size:=by omega
          have YU:(q * i.size+j - x.toNat * i.size) % ez.cells.size=j:=by
           rw [acp,show q * i.size+j - x.toNat * i.size=i.size * (q - x.toNat)+j from by rw [Nat.mul_sub,Nat.mul_comm i.size q,Nat.mul_comm i.size x.toNat]; omega,Nat.mul_add_mod,Nat.mod_eq_of_lt hj]
          have Iu:j < ez.cells.size:=by omega
          obtain ⟨_,z2⟩:=ln (w:=w.setRow gg (cur.toList.take (x.toNat * i.size)++(Builtin.zeroCells ez.cells (n - x.toNat)).toList++cur.toList.drop (x.toNat * i.size+(n - x.toNat) * i.size)).toArray) (S:=S) E.zok
          refine ⟨ez.cells[j],?_,?_⟩
          ·rw [List.append_assoc,List.getElem?_append_right (by simp; omega),List.getElem?_append_left (by rw [adr]; simp; omega)]
           have:(List.take (x.toNat * i.size) cur.toList).length=x.toNat * i.size:=by simp; omega
           rw [this]
           simp only [Builtin.zeroCells,Array.getElem?_toList,Array.getElem?_map,Array.getElem?_range,acp,VF,if_true,Option.map_some]
           rw [← acp] at YU ⊢
           rw [YU,getElem!_pos ez.cells j Iu]
          ·have:xQ x.toNat f i.zero q=i.zero:=by simp only [xQ]; rw [if_neg hqx]
           rw [this]
           have:=z2 j (by rw [E.Ec]; exact hj)
           rwa [show ez.cells.toList.getD j undef=ez.cells[j] from by simp [List.getD,Iu]] at this
       ·refine done _ w (VG _ n cap h1 VZ) ?_ (same (by omega))
        have:n - x.toNat=0:=by omega
        rw [this]
        exact Lw hu _ _
     ·cases rB
    ·cases rB
   ·cases rB
  ·cases rB
 ·cases rB
end
def nJ {α:Type} [Inhabited α] (cells:α→List D) (l:List α):D:=.sl l.length fun i=>cells (l.getD i default)
def bI (n:Int):List D:=[.v (.int .i64 n)]
def ki (s:ByteArray):List D:=[.v (.string s)]
def rC (b:Bool):List D:=[.v (.bool b)]
theorem Zc {n:Int} (h1 : -9223372036854775808≤n) (h2:n≤9223372036854775807):IntKind.i64.wrap n=n:=IntWalk.i64_in n ⟨h1,h2⟩
theorem acq {α:Type} [Inhabited α] (cells:α→List D) (L M:List α) :
  (L.length+M.length=(L++M).length)∧∀ i,i < L.length+M.length→(if i < L.length then cells (L.getD i default) else cells (M.getD (i - L.length) default))=cells ((L++M).getD i default):=by
 refine ⟨by simp,fun i hi=>?_⟩
 split
 ·rename_i h
  simp [List.getD,List.getElem?_append_left h]
 ·rename_i h
  simp [List.getD,List.getElem?_append_right (Nat.le_of_not_lt h)]
def vR:List AV→List AV→Prop
 | [],[]=>True
 | x :: r,y :: s=>uX x y∧vR r s
 | _,_=>False
theorem vR.rel {w:World} {S:Nat→Prop} {μ:Mu} {ν:Nat→Bool}:∀ {l l':List AV} {vs:List Value},vR l l'→eo w S μ ν l vs→eo w S μ ν l' vs
 | [],[],_,_,h=>h
 | x :: r,y :: s,vs,h,hr=>by
  obtain ⟨h1,h2⟩:=h
  cases vs with
  | nil=>exact absurd hr.1 (by simp)
  | cons v vs =>
   have ht:eo w S μ ν r vs:=⟨by simpa using hr.1,fun i hi=>by simpa using hr.2 (i+1) (by simpa using hi)⟩
   have:=vR.rel h2 ht
   refine ⟨by simpa using this.1,fun i hi=>?_⟩
   cases i with
   | zero=>exact h1 _ _ _ _ _ (by simpa using hr.2 0 (by simp))
   | succ i=>simpa using this.2 i (by simpa using hi)
 | [],_ :: _,_,h,_=>h.elim
 | _ :: _,[],_,h,_=>h.elim
theorem gR.XO {P:Program} {f:FuncId} {args Iz:List AV} {c6 gS:List (Nat × bP)} {res:AV} (h:gR P f Iz c6 res gS) (hle:vR args Iz):gR P f args c6 res gS :=
 ⟨h.1,fun w S μ vs h1 hg h2 h3 h4=>h.2 w S μ vs h1 hg (fun ν=>hle.rel (h2 ν)) h3 h4⟩
mutual
inductive eI (T:List (Nat × TI)):Nat→List D→Prop
 | int {t:Nat} {i:TI} {k:IntKind} (hi:look T t=some i) (hk:i.kind=.int k) (n:Int) (h:(Lit.int k n).wf=true):eI T t [.v (.int k n)]
 | bool {t:Nat} {i:TI} (hi:look T t=some i) (hk:i.kind=.bool) (b:Bool):eI T t [.v (.bool b)]
 | str {t:Nat} {i:TI} (hi:look T t=some i) (hk:i.kind=.str) (s:ByteArray) (h:s.size≤maxLen):eI T t [.v (.string s)]
 | slice {t e:Nat} {i:TI} (hi:look T t=some i) (hk:i.kind=.slice e) (n:Nat) (f:Nat→List D) (h:∀ j,j < n→eI T e (f j)):eI T t [.sl n f]
 | struct {t:Nat} {i:TI} {fs:List (Nat × Nat)} (hi:look T t=some i) (hk:i.kind=.struct fs) (ds:List D) (h:BO T (fs.map (·.2)) ds):eI T t ds
inductive BO (T:List (Nat × TI)):List Nat→List D→Prop
 | nil:BO T [] []
 | cons {t:Nat} {ts:List Nat} (p ds:List D) (h:eI T t p) (hs:BO T ts ds):BO T (t :: ts) (p++ds)
end
def Lx (T:List (Nat × TI)):Nat→List (Nat × Nat)→Option Nat
 | off,[]=>some off
 | off,(o,t) :: r=>match look T t with | some i=>bif Nat.beq o off then Lx T (off+i.size) r else none | none=>none
def Wi (T:List (Nat × TI)) (ts:List Nat) (t:Nat):Bool:=match look T t with
  | some i=>(match i.kind with
   | .int _ | .bool | .str=>true
   | .slice e=>(ts.any fun q=>Nat.beq q e)&&(match look T e with | some j=>!Nat.beq j.size 0 | none=>false)
   | .struct fs=>(match Lx T 0 fs with | some n=>Nat.beq n i.size | none=>false)&&fs.all (fun f=>ts.any fun q=>Nat.beq q f.2)
   | _=>false)
  | none=>false
def Fq (T:List (Nat × TI)) (ts:List Nat):Bool:=ts.all (Wi T ts)
theorem Ra {ts:List Nat} {t:Nat} (h:(ts.any fun q=>Nat.beq q t)=true):t∈ts:=by
 obtain ⟨q,hq,e⟩:=List.any_eq_true.1 h
 have:=Nat.eq_of_beq_eq_true e
 subst this
 exact hq
section
variable {H : Type} {enc : TypeId × Value → H} {P : Program} {w : World} {base : Nat} {spare : Nat → Bool} {held : Bool} {T : List (Nat × TI)}
def A0 (w:World) (ds:List D) (cs:List Value):Prop:=ds.length=cs.length∧∀ j,j < ds.length→Rd w (fun b=>b < w.heap.size) (ds.getD j default) (cs.getD j undef)
theorem A0.one {d:D} {v:Value} (h:Rd w (fun b=>b < w.heap.size) d v):A0 w [d] [v]:=⟨rfl,fun j hj=>by
 have:j=0:=by simpa using hj
 subst this
 simpa using h⟩
theorem A0.append {d1 d2:List D} {c1 c2:List Value} (h1:A0 w d1 c1) (h2:A0 w d2 c2):A0 w (d1++d2) (c1++c2):=by
 refine ⟨by simp [h1.1,h2.1],fun j hj=>?_⟩
 by_cases h:j < d1.length
 ·have:=h1.2 j h
  have hc:j < c1.length:=by rw [← h1.1]; exact h
  simpa [List.getD,List.getElem?_append_left h,List.getElem?_append_left hc] using this
 ·have h':d1.length≤j:=Nat.le_of_not_lt h
  have hc:c1.length≤j:=by rw [← h1.1]; exact h'
  have:=h2.2 (j - d1.length) (by simp at hj; omega)
  rw [h1.1] at this
  simpa [List.getD,List.getElem?_append_right h',List.getElem?_append_right hc,h1.1] using this
theorem zZ (hT:pk P T) {t:Nat} {i:TI} (hi:look T t=some i):P.cellsOf t=i.size:=by
 obtain ⟨j,z,F⟩:=aG (hT _ _ hi)
 simp [Program.cellsOf,F.info,F.size]
theorem Ly (hT:pk P T) (cs:List Value):∀ (fs:List (Nat × Nat)) (off n:Nat),Lx T off fs=some n→cs.length=n →
  (∀ f,f∈fs→∃ ds,eI T f.2 ds∧A0 w ds ((cs.drop f.1).take (P.cellsOf f.2)))→∃ ds,BO T (fs.map (·.2)) ds∧A0 w ds (cs.drop off)
 | [],off,n,hc,hl,_=>by
  simp only [Lx,Option.some.injEq] at hc
  refine ⟨[],.nil,?_⟩
  rw [List.drop_of_length_le (by omega)]
  exact ⟨rfl,fun j hj=>absurd hj (by simp)⟩
 | (o,t) :: r,off,n,hc,hl,hf=>by
  simp only [Lx] at hc
  split at hc
  ·rename_i i hi
   cases hb:Nat.beq o off with
   | false=>rw [hb] at hc; cases hc
   | true =>
    rw [hb] at hc
    have ho:=Nat.eq_of_beq_eq_true hb
    subst ho
    obtain ⟨d1,t1,r1⟩:=hf (o,t) List.mem_cons_self
    obtain ⟨d2,t2,r2⟩:=Ly hT cs r (o+i.size) n hc hl (fun f hm=>hf f (List.mem_cons_of_mem _ hm))
    refine ⟨d1++d2,.cons d1 d2 t1 t2,?_⟩
    have kN:=zZ hT hi
    have e:cs.drop o=(cs.drop o).take (P.cellsOf t)++cs.drop (o+i.size):=by
     rw [← kN,← List.drop_drop,List.take_append_drop]
    rw [e]
    exact r1.append r2
  ·cases hc
theorem Lz (hT:pk P T) {ts:List Nat} (AU:Fq T ts=true):∀ (n t:Nat) (cs:List Value) (x:DataW H × List MemPlace),t∈ts→DataW.trod enc P w base spare held n t cs=some x→∃ ds,eI T t ds∧A0 w ds cs
 | n,t,cs,x,hm,h=>by
  have hp:=List.all_eq_true.1 AU t hm
  simp only [Wi] at hp
  split at hp
  ·rename_i i hi
   obtain ⟨tj,z,F⟩:=aG (hT _ _ hi)
   have hk:=F.kind
   split at hp
   ·rename_i k mB
    rw [mB] at hk
    simp only [en] at hk
    split at hk
    ·rename_i k' hu
     have:=of_decide_eq_true hk
     subst this
     obtain ⟨v,rfl,_,hw⟩:=DataW.trod_int hu h
     exact ⟨_,.int hi mB v hw,.one (.v _ rfl)⟩
    ·cases hk
   ·rename_i mB
    rw [mB] at hk
    simp only [en] at hk
    split at hk
    ·rename_i hu
     obtain ⟨v,rfl,_⟩:=DataW.trod_bool hu h
     exact ⟨_,.bool hi mB v,.one (.v _ rfl)⟩
    ·cases hk
   ·rename_i mB
    rw [mB] at hk
    simp only [en] at hk
    split at hk
    ·rename_i hu
     obtain ⟨v,rfl,_,hw⟩:=DataW.trod_string hu h
     exact ⟨_,.str hi mB v hw,.one (.v _ rfl)⟩
    ·cases hk
   ·rename_i e mB
    rw [mB] at hk
    simp only [en] at hk
    split at hk
    ·rename_i e' hu
     have:=beq_iff_eq.1 hk
     subst this
     simp only [Bool.and_eq_true] at hp
     obtain ⟨hpe,kN⟩:=hp
     split at kN
     ·rename_i je hje
      have hce:=zZ hT hje
      have N3:0 < je.size:=by
       rcases Nat.eq_zero_or_pos je.size with h0 | h0
       ·rw [h0] at kN; cases kN
       ·exact h0
      rcases DataW.trod_slice hu h with ⟨rfl,_⟩ | ⟨a,len,cap,elems,rest,n',rfl,rfl,_,hb,hlc,SL,hel,afN,_⟩
      ·exact ⟨[.sl 0 fun _=>[]],.slice hi mB 0 _ (fun j hj=>absurd hj (Nat.not_lt_zero _)),.one (.nil _)⟩
      ·have each:∀ q,q < len→∃ C6,w.cells? base (a.add (q * P.cellsOf e)) (P.cellsOf e)=some C6∧∃ ds,eI T e ds∧A0 w ds C6:=by
        intro q hq
        have hx:=afN q hq
        have hs:elems[q]? = some elems[q]:=List.getElem?_eq_getElem (by omega)
        rw [hs] at hx
        cases hc:w.cells? base (a.add (q * P.cellsOf e)) (P.cellsOf e) with
        | none=>rw [hc] at hx; cases hx
        | some C6 =>
         rw [hc] at hx
         exact ⟨C6,rfl,Lz hT AU n' e C6 _ (Ra hpe) hx⟩
       classical
       let g:Nat→List D:=fun q=>if hq:q < len then (each q hq).choose_spec.2.choose else []
       let vv:Nat→List Value:=fun q=>if hq:q < len then (each q hq).choose else []
       have g1:∀ q,q < len→eI T e (g q)∧A0 w (g q) (vv q)∧w.cells? base (a.add (q * P.cellsOf e)) (P.cellsOf e)=some (vv q):=fun q hq=>by
        simp only [g,vv,hq,dif_pos]
        exact ⟨(each q hq).choose_spec.2.choose_spec.1,(each q hq).choose_spec.2.choose_spec.2,(each q hq).choose_spec.1⟩
       have hlen:∀ q,q < len→(g q).length=je.size:=fun q hq=>by
        obtain ⟨_,r1,c1⟩:=g1 q hq
        rw [r1.1,(World.cells?_some c1).2.1,hce]
       have ads:len=0∨a.spot=none:=by
        rcases Nat.eq_zero_or_pos len with h0 | h0
        ·exact .inl h0
        ·right
         obtain ⟨_,_,c1⟩:=g1 0 h0
         have:=(World.cells?_some c1).2.2 0 (by omega)
         have hl:=(World.cells?_some c1).2.1
         simp only [Nat.zero_mul,Addr.add,if_true] at this
         rw [List.getElem?_eq_getElem (by omega)] at this
         unfold World.cell? at this
         cases SJ:a.spot with
         | none=>rfl
         | some s =>
          rw [SJ] at this
          split at this <;> simp at this
       refine ⟨[.sl len g],.slice hi mB len g (fun q hq=>(g1 q hq).1),.one (.sl len g a cap je.size (fun q j=>(vv q).getD j undef) hlc SL ads hlen (fun q j hq hj=>?_) (fun q j hq hj=>(g1 q hq).2.1.2 j (by rw [hlen q hq]; exact hj)))⟩
       obtain ⟨_,r1,c1⟩:=g1 q hq
       have SJ:a.spot=none:=ads.resolve_left (by omega)
       obtain ⟨ab,ao,as⟩:=a
       simp only at SJ
       subst SJ
       have hcc:=(World.cells?_some c1).2.2 j (by omega)
       have hl:=(World.cells?_some c1).2.1
       rw [js,js,hce,Nat.add_assoc,List.getElem?_eq_getElem (by omega)] at hcc
       refine ⟨?_,?_⟩
       ·unfold World.cell? at hcc
        split at hcc
        ·rename_i hh
         exact (Array.getElem?_eq_some_iff.1 hh).1
        ·cases hcc
       ·rw [hcc]
        simp [List.getD,List.getElem?_eq_getElem (show j < (vv q).length by omega)]
     ·cases kN
    ·cases hk
   ·rename_i fs mB
    rw [mB] at hk
    simp only [en] at hk
    split at hk
    ·rename_i gs hu
     have YH:=beq_iff_eq.1 hk
     simp only [Bool.and_eq_true,List.all_eq_true] at hp
     obtain ⟨aeg,rq⟩:=hp
     split at aeg
     ·rename_i tot ahx
      have htt:=Nat.eq_of_beq_eq_true aeg
      subst htt
      obtain ⟨xs,n',rfl,_,hl,YO,hfl⟩:=DataW.trod_struct hu h
      have hfs:∀ f,f∈fs→∃ ds,eI T f.2 ds∧A0 w ds ((cs.drop f.1).take (P.cellsOf f.2)):=fun f hm=>by
       have hm0:=hm
       rw [← YH] at hm
       simp only [List.mem_map] at hm
       obtain ⟨fd,hfd,rfl⟩:=hm
       obtain ⟨ix,Jf,SK⟩:=List.getElem_of_mem hfd
       have hg:gs[ix]? = some fd:=by
        rw [← SK]
        simp only [Array.length_toList] at Jf
        simp [Jf]
       have hx:=hfl ix fd hg
       have ahy:ix < xs.length:=by rw [YO]; simpa using Jf
       rw [List.getElem?_eq_getElem ahy] at hx
       exact Lz hT AU n' fd.type _ _ (Ra (rq _ hm0)) hx
      obtain ⟨ds,q1,q2⟩:=Ly (w:=w) hT cs fs 0 i.size ahx (by rw [hl,zZ hT hi]) hfs
      exact ⟨ds,.struct hi mB ds q1,by simpa using q2⟩
     ·cases aeg
    ·cases hk
   ·cases hp
  ·cases hp
termination_by n=>n
theorem eI.KE {t:Nat} {i:TI} {k:IntKind} {ds:List D} (hi:look T t=some i) (hk:i.kind=.int k) (h:eI T t ds):∃ n,ds=[.v (.int k n)]∧(Lit.int k n).wf=true:=by
 cases h with
 | int gQ gZ n h=>rw [hi] at gQ; cases gQ; rw [hk] at gZ; cases gZ; exact ⟨n,rfl,h⟩
 | bool gQ gZ=>rw [hi] at gQ; cases gQ; rw [hk] at gZ; cases gZ
 | str gQ gZ=>rw [hi] at gQ; cases gQ; rw [hk] at gZ; cases gZ
 | slice gQ gZ=>rw [hi] at gQ; cases gQ; rw [hk] at gZ; cases gZ
 | struct gQ gZ=>rw [hi] at gQ; cases gQ; rw [hk] at gZ; cases gZ
theorem eI.aaL {t:Nat} {i:TI} {ds:List D} (hi:look T t=some i) (hk:i.kind=.bool) (h:eI T t ds):∃ b,ds=[.v (.bool b)]:=by
 cases h with
 | int gQ gZ=>rw [hi] at gQ; cases gQ; rw [hk] at gZ; cases gZ
 | bool gQ gZ b=>exact ⟨b,rfl⟩
 | str gQ gZ=>rw [hi] at gQ; cases gQ; rw [hk] at gZ; cases gZ
 | slice gQ gZ=>rw [hi] at gQ; cases gQ; rw [hk] at gZ; cases gZ
 | struct gQ gZ=>rw [hi] at gQ; cases gQ; rw [hk] at gZ; cases gZ
theorem eI.acr {t:Nat} {i:TI} {ds:List D} (hi:look T t=some i) (hk:i.kind=.str) (h:eI T t ds):∃ s,ds=[.v (.string s)]∧s.size≤maxLen:=by
 cases h with
 | int gQ gZ=>rw [hi] at gQ; cases gQ; rw [hk] at gZ; cases gZ
 | bool gQ gZ=>rw [hi] at gQ; cases gQ; rw [hk] at gZ; cases gZ
 | str gQ gZ s h=>exact ⟨s,rfl,h⟩
 | slice gQ gZ=>rw [hi] at gQ; cases gQ; rw [hk] at gZ; cases gZ
 | struct gQ gZ=>rw [hi] at gQ; cases gQ; rw [hk] at gZ; cases gZ
theorem eI.eV {t e:Nat} {i:TI} {ds:List D} (hi:look T t=some i) (hk:i.kind=.slice e) (h:eI T t ds):∃ n f,ds=[.sl n f]∧∀ j,j < n→eI T e (f j):=by
 cases h with
 | int gQ gZ=>rw [hi] at gQ; cases gQ; rw [hk] at gZ; cases gZ
 | bool gQ gZ=>rw [hi] at gQ; cases gQ; rw [hk] at gZ; cases gZ
 | str gQ gZ=>rw [hi] at gQ; cases gQ; rw [hk] at gZ; cases gZ
 | slice gQ gZ n f h=>rw [hi] at gQ; cases gQ; rw [hk] at gZ; cases gZ; exact ⟨n,f,rfl,h⟩
 | struct gQ gZ=>rw [hi] at gQ; cases gQ; rw [hk] at gZ; cases gZ
theorem eI.dE {t:Nat} {i:TI} {fs:List (Nat × Nat)} {ds:List D} (hi:look T t=some i) (hk:i.kind=.struct fs) (h:eI T t ds):BO T (fs.map (·.2)) ds:=by
 cases h with
 | int gQ gZ=>rw [hi] at gQ; cases gQ; rw [hk] at gZ; cases gZ
 | bool gQ gZ=>rw [hi] at gQ; cases gQ; rw [hk] at gZ; cases gZ
 | str gQ gZ=>rw [hi] at gQ; cases gQ; rw [hk] at gZ; cases gZ
 | slice gQ gZ=>rw [hi] at gQ; cases gQ; rw [hk] at gZ; cases gZ
 | struct gQ gZ ds h=>rw [hi] at gQ; cases gQ; rw [hk] at gZ; cases gZ; exact h
theorem BO.cons_inv {t:Nat} {ts:List Nat} {ds:List D} (h:BO T (t :: ts) ds):∃ p r,ds=p++r∧eI T t p∧BO T ts r:=by
 cases h with
 | cons p r h hs=>exact ⟨p,r,rfl,h,hs⟩
theorem BO.jI {ds:List D} (h:BO T [] ds):ds=[]:=by cases h; rfl
end
section
open Go Go.ChangeShapes Go.WideShapes Go.ChangeAt Go.RowKit
def aP (l l':List D):Prop:=l.length=l'.length∧∀ j,j < l.length→ue (l.getD j default) (l'.getD j default)
theorem aP.refl (l:List D):aP l l:=⟨rfl,fun _ _=>ue.rfl'⟩
theorem aP.nil:aP [] []:=.refl _
theorem aP.one {d d':D} (h:ue d d'):aP [d] [d']:=⟨rfl,fun j hj=>by
 have:j=0:=by simpa using hj
 subst this
 simpa using h⟩
theorem aP.append {p p' r r':List D} (h1:aP p p') (h2:aP r r'):aP (p++r) (p'++r'):=by
 refine ⟨by simp [h1.1,h2.1],fun j hj=>?_⟩
 by_cases h:j < p.length
 ·have h':j < p'.length:=by rw [← h1.1]; exact h
  simpa [List.getD,List.getElem?_append_left h,List.getElem?_append_left h'] using h1.2 j h
 ·have hh:p.length≤j:=Nat.le_of_not_lt h
  have h':p'.length≤j:=by rw [← h1.1]; exact hh
  have:=h2.2 (j - p.length) (by simp at hj; omega)
  rw [List.getD,List.getD,List.getElem?_append_right hh,List.getElem?_append_right h',← h1.1]
  exact this
theorem aP.cons {d d':D} {r r':List D} (h1:ue d d') (h2:aP r r'):aP ([d]++r) (d' :: r'):=aP.append (aP.one h1) h2
theorem aP.agg {l l':List D} (h:aP l l'):ue (.agg l) (.agg l'):=ue.agg h.1 h.2
theorem ue.adt {n:Nat} {f g:Nat→List D} (h:∀ i,i < n→aP (f i) (g i)):ue (.sl n f) (.sl n g):=by
 intro w S x hr
 cases hr with
 | nil=>exact .nil g
 | sl _ _ a cap k ef hc hm hs hk cC hh =>
  exact .sl n g a cap k ef hc hm hs (fun i hi=>by rw [← (h i hi).1]; exact hk i hi) cC (fun i j hi hj=>(h i hi).2 j (by rw [hk i hi]; exact hj) w S _ (hh i j hi hj))
theorem jJ {T:List (Nat × TI)} {α:Type} [Inhabited α] (cells:α→List D) (ok:α→Prop) {e:Nat} (hof:∀ ds,eI T e ds→∃ c,aP ds (cells c)∧ok c) {n:Nat} {f:Nat→List D} (h:∀ j,j < n→eI T e (f j)) :
  ∃ l:List α,ue (.sl n f) (nJ cells l)∧l.length=n∧∀ x,x∈l→ok x:=by
 classical
 let g:Nat→α:=fun j=>if hj:j < n then (hof _ (h j hj)).choose else default
 have hg:∀ j,j < n→aP (f j) (cells (g j))∧ok (g j):=fun j hj=>by
  simp only [g,hj,dif_pos]
  exact (hof _ (h j hj)).choose_spec
 refine ⟨(List.range n).map g,?_,by simp,fun x hx=>?_⟩
 ·have e:nJ cells ((List.range n).map g)=.sl n fun i=>cells (((List.range n).map g).getD i default):=by simp [nJ]
  rw [e]
  refine ue.adt fun i hi=>?_
  have:((List.range n).map g).getD i default=g i:=by simp [List.getD,hi]
  rw [this]
  exact (hg i hi).1
 ·simp only [List.mem_map,List.mem_range] at hx
  obtain ⟨j,hj,rfl⟩:=hx
  exact (hg j hj).2
def dP (n:Int):Prop:=-9223372036854775808≤n∧n≤9223372036854775807
theorem acs {n:Int} (h:(Lit.int .i64 n).wf=true):dP n:=by
 simpa [Lit.wf,IntKind.min,IntKind.max,dP,IntKind.bits,IntKind.signed] using h
def aaM (T:List (Nat × TI)) (t:Nat) (ds:List D):AV :=
 match look T t with
 | some i=>(match i.kind with | .struct _=>.d (.agg ds) | _=>.d (ds.getD 0 default))
 | none=>.any
def z6 (T:List (Nat × TI)):List Nat→List (List D)→List AV
 | t :: ts,d :: ds=>aaM T t d :: z6 T ts ds
 | _,_=>[]
def Rb (T:List (Nat × TI)):List Nat→List (List D)→Prop
 | [],[]=>True
 | t :: ts,d :: ds=>eI T t d∧Rb T ts ds
 | _,_=>False
section
variable {H : Type} {enc : TypeId × Value → H} {P : Program} {W : World} {T : List (Nat × TI)}
theorem acu (hT:pk P T) {cl:List Nat} (AU:Fq T cl=true) {t:Nat} (hm:t∈cl) {v:Value} {d:DataW H} {ps:List MemPlace} {base:Nat} (hv:Value.okWide P W .any base t v) (h:DataW.Trod enc P W 0 (fun _=>true) true t v d ps) :
  ∃ ds,eI T t ds∧∀ μ ν,Rel W (fun b=>b < W.heap.size) μ ν (aaM T t ds) v:=by
 obtain ⟨fuel,h⟩:=h
 obtain ⟨ds,h1,h2⟩:=Lz hT AU _ t _ _ hm h
 have hp:=List.all_eq_true.1 AU t hm
 refine ⟨ds,h1,fun μ ν=>?_⟩
 ·simp only [Wi] at hp
  split at hp
  ·rename_i i hi
   obtain ⟨tj,z,F⟩:=aG (hT _ _ hi)
   have hk:=F.kind
   have one:∀ v',v=v'→v'.cells = #[v']→Rd W (fun b=>b < W.heap.size) (ds.getD 0 default) v:=by
    rintro v' rfl hc
    rw [hc] at h2
    have:=h2.2 0 (by rw [h2.1]; simp)
    simpa using this
   simp only [aaM,hi]
   split at hp
   ·rename_i k mB
    rw [mB] at hk ⊢
    simp only [en] at hk
    split at hk
    ·rename_i hu
     have:=of_decide_eq_true hk
     subst this
     obtain ⟨n,rfl⟩:=okWide_int hu hv
     exact .d (one _ rfl rfl)
    ·cases hk
   ·rename_i mB
    rw [mB] at hk ⊢
    simp only [en] at hk
    split at hk
    ·rename_i hu
     obtain ⟨n,rfl⟩:=okWide_bool hu hv
     exact .d (one _ rfl rfl)
    ·cases hk
   ·rename_i mB
    rw [mB] at hk ⊢
    simp only [en] at hk
    split at hk
    ·rename_i hu
     obtain ⟨n,rfl⟩:=okWide_string hu hv
     exact .d (one _ rfl rfl)
    ·cases hk
   ·rename_i e mB
    rw [mB] at hk ⊢
    simp only [en] at hk
    split at hk
    ·rename_i hu
     obtain ⟨a,n,c,rfl⟩:=okWide_slice hu hv
     exact .d (one _ rfl rfl)
    ·cases hk
   ·rename_i fs mB
    rw [mB] at hk ⊢
    simp only [en] at hk
    split at hk
    ·rename_i gs hu
     obtain ⟨cs,rfl,_⟩:=okWide_struct hu hv
     refine .d (.agg ds cs ?_ (fun j hj=>?_))
     ·have:=h2.1
      simp only [Value.cells,Array.length_toList] at this
      exact this.symm
     ·have:=h2.2 j hj
      simp only [Value.cells] at this
      simpa [List.getD,Array.getD_eq_getD_getElem?] using this
    ·cases hk
   ·cases hp
  ·cases hp
theorem TY (hT:pk P T) {cl:List Nat} (AU:Fq T cl=true) {base:Nat}:∀ {ts:List Nat} {vs:List Value} {ds:List (DataW H)} {ps:List MemPlace},(ts.all fun t=>cl.any fun q=>Nat.beq q t)=true→(∀ (j:Nat) t v,ts[j]? = some t→vs[j]? = some v→Value.okWide P W .any base t v) →
  DataW.TrodAll enc P W 0 (fun _=>true) true ts vs ds ps→∃ VL,Rb T ts VL∧∀ μ ν,eo W (fun b=>b < W.heap.size) μ ν (z6 T ts VL) vs
 | [],[],[],_,_,_,_=>⟨[],trivial,fun _ _=>⟨rfl,fun i hi=>absurd hi (by simp [z6])⟩⟩
 | t :: ts,v :: vs,d :: ds,ps,hp,hv,h=>by
  obtain ⟨p,q,h1,h2,rfl⟩:=h
  simp only [List.all_cons,Bool.and_eq_true] at hp
  obtain ⟨d1,x1,x2⟩:=acu hT AU (Ra hp.1) (hv 0 t v rfl rfl) h1
  obtain ⟨VL,y1,y2⟩:=TY hT AU hp.2 (fun j t v a b=>hv (j+1) t v (by simpa using a) (by simpa using b)) h2
  refine ⟨d1 :: VL,⟨x1,y1⟩,fun μ ν=>?_⟩
  have:=y2 μ ν
  refine ⟨by simp [z6,this.1],fun i hi=>?_⟩
  cases i with
  | zero=>simpa [z6] using x2 μ ν
  | succ i=>simpa [z6] using this.2 i (by simpa [z6] using hi)
 | [],_ :: _,_,_,_,_,h=>h.elim
 | [],[],_ :: _,_,_,_,h=>h.elim
 | _ :: _,[],_,_,_,_,h=>h.elim
 | _ :: _,_ :: _,[],_,_,_,h=>h.elim
theorem DX (hl:laidOutB P=true) {W':World} (hb:Below W.heap.size W W'):∀ {ts:List Nat} {vs:List Value} {ds:List (DataW H)} {ps:List MemPlace},ts.all (fun t=>P.readableRec t&&Nat.ble (t+1) P.types.size)=true →
  (∀ p∈ps,p.block < W.heap.size)→DataW.TrodAll enc P W 0 (fun _=>true) true ts vs ds ps→DataW.TrodAll enc P W' 0 (fun b=>decide (b < W.heap.size)) true ts vs ds ps
 | [],[],[],_,_,_,h=>h
 | t :: ts,v :: vs,d :: ds,ps,hp,gI,h=>by
  obtain ⟨p,q,h1,h2,rfl⟩:=h
  simp only [List.all_cons,Bool.and_eq_true] at hp
  exact ⟨p,q,Below.trod hl hp.1.1 (Nat.le_of_ble_eq_true hp.1.2) h1 hb (fun x hx=>gI x (List.mem_append_left _ hx)),DX hl hb hp.2 (fun x hx=>gI x (List.mem_append_right _ hx)) h2,rfl⟩
 | [],_ :: _,_,_,_,_,h=>h.elim
 | [],[],_ :: _,_,_,_,h=>h.elim
 | _ :: _,[],_,_,_,_,h=>h.elim
 | _ :: _,_ :: _,[],_,_,_,h=>h.elim
theorem Zd (hT:pk P T) (hl:laidOutB P=true) {f:FuncId} {fn:Func} {s:ChangeSpec} {tb base:Nat} {cl:List Nat} {args:Array Value} {ds gs:List (DataW H)} {before:List MemPlace}
  (AU:Fq T cl=true) (aeh:(fn.params.toList.all fun t=>cl.any fun q=>Nat.beq q t)=true) (afO:fn.params.toList.all (fun t=>P.readableRec t&&Nat.ble (t+1) P.types.size)=true) (aam:fn.resultTypes = #[tb]) (hb:P.underlying tb=some .bool) (adu:s.vars=[])
  (aaN:∀ (j:Nat) t v,fn.params[j]? = some t→args[j]? = some v→Value.okWide P W .any base t v)
  (hW:DataW.Whole enc P fn.params.toList s.vars false W args.toList ds gs before)
  (YL:kO W fun b=>b < W.heap.size) (hs:(s.fn H (ds++gs)).results=[.lit (.bool true)]∧(s.fn H (ds++gs)).args=ds∧(s.fn H (ds++gs)).vars=[])
  (aei:∀ VL,Rb T fn.params.toList VL→gR P f (z6 T fn.params.toList VL) [] (.d (.v (.bool true))) []) :
  Calls P f args W fun e W'=>∃ v,e=.returned v∧s.post enc P fn false true false false W args v W':=by
 have gI:=hW.lt
 obtain ⟨p,q,hA,hV,hpq,hz,hn⟩:=id hW
 rw [adu] at hV
 have hg:gs=[]∧q=[]:=by
  cases gs with
  | nil=>exact ⟨rfl,hV⟩
  | cons _ _=>exact hV.elim
 obtain ⟨VL,h1,h2⟩:=TY hT AU (base:=base) aeh (fun j t v a b=>aaN j t v (by simpa using a) (by simpa using b)) hA
 have hf:=aei VL h1
 refine Calls.mono (hf.2 W (fun b=>b < W.heap.size) (fun _=>none) args (fun _ h=>h) YL (fun ν=>h2 _ ν) (fun κ b hb=>by simp [look] at hb) (fun κ κ' b b' g c c' hb=>by simp [look] at hb)) ?_
 rintro e W' ⟨v,S',μ',rfl,B⟩
 have hv:v=.bool true:=pE (B.res fun _=>false)
 subst hv
 have Em:Below W.heap.size W W':=⟨B.kept.os,B.kept.tape,B.kept.output,B.kept.size,fun k hk=>B.kept.block k hk (fun ⟨κ,b,c,q,_⟩=>by simp [look] at q)⟩
 refine ⟨_,rfl,ds,gs,before,[],p,[],hW,?_,?_,?_,Em.frame _,fun h=>by cases h⟩
 ·rw [aam,hs.1]
  exact trodAll_mk1 (shut_bool hb true)
 ·rw [hs.2.1]
  exact DX hl Em afO (fun x hx=>gI x (by rw [hpq]; exact List.mem_append_left _ hx)) hA
 ·rw [hs.2.2,adu]
  exact rfl
end
end
inductive CT:Type 1 where
 | nil
 | bad
 | bb (a b:Bool)
 | nn (a b:Nat)
 | zz (a b:Int)
 | dd (a b:D)
 | ll (a b:List D)
 | vv (a b:AV)
 | ff (f g:Nat→List D)
 | mm (f g:Nat→Value × D)
 | ss (a b:List Nat)
 | po (a b:Option Prop)
 | td (a b:List Item)
 | two (a b:CT)
 | pi {β:Type} (f:β→CT)
def CT.ok:CT→Prop
 | .nil=>True
 | .bad=>False
 | .bb a b=>a=b
 | .nn a b=>a=b
 | .zz a b=>a=b
 | .dd a b=>a=b
 | .ll a b=>a=b
 | .vv a b=>a=b
 | .ff f g=>f=g
 | .mm f g=>f=g
 | .ss a b=>a=b
 | .po a b=>a=b
 | .td a b=>a=b
 | .two a b=>a.ok∧b.ok
 | .pi f=>∀ b,(f b).ok
def CT.diag:CT→CT
 | .nil=>.nil
 | .bad=>.nil
 | .bb _ b=>.bb b b
 | .nn _ b=>.nn b b
 | .zz _ b=>.zz b b
 | .dd _ b=>.dd b b
 | .ll _ b=>.ll b b
 | .vv _ b=>.vv b b
 | .ff _ g=>.ff g g
 | .mm _ g=>.mm g g
 | .ss _ b=>.ss b b
 | .po _ b=>.po b b
 | .td _ b=>.td b b
 | .two a b=>.two a.diag b.diag
 | .pi f=>.pi fun b=>(f b).diag
theorem CT.BP:∀ {t:CT},t=t.diag→t.ok
 | .nil,_=>trivial
 | .bad,h=>by cases h
 | .bb a b,h=>by simpa [CT.diag,CT.ok] using h
 | .nn a b,h=>by simpa [CT.diag,CT.ok] using h
 | .zz a b,h=>by simpa [CT.diag,CT.ok] using h
 | .dd a b,h=>by simpa [CT.diag,CT.ok] using h
 | .ll a b,h=>by simpa [CT.diag,CT.ok] using h
 | .vv a b,h=>by simpa [CT.diag,CT.ok] using h
 | .ff a b,h=>by simpa [CT.diag,CT.ok] using h
 | .mm a b,h=>by simpa [CT.diag,CT.ok] using h
 | .ss a b,h=>by simpa [CT.diag,CT.ok] using h
 | .po a b,h=>by simp only [CT.diag,CT.po.injEq] at h; exact h.1
 | .td a b,h=>by simpa [CT.diag,CT.ok] using h
 | .two a b,h=>by
  simp only [CT.diag,CT.two.injEq] at h
  exact ⟨CT.BP h.1,CT.BP h.2⟩
 | .pi f,h=>by
  simp only [CT.diag] at h
  have h1:f=fun b=>(f b).diag:=by injection h
  exact fun b=>CT.BP (congrFun h1 b)
def Ob.eqs:Ob→CT
 | .tt=>.nil
 | .pr _=>.nil
 | .be a b=>.bb a b
 | .ne a b=>.nn a b
 | .ze a b=>.zz a b
 | .fe f g=>.ff f g
 | .me f g=>.mm f g
 | .ve a b=>.vv a b
 | .two a b=>.two a.eqs b.eqs
 | .wh _ _ a=>a.eqs
def G2:Option Prop→Option Prop→Option Prop
 | none,x=>x
 | x,none=>x
 | some p,some q=>some (p∧q)
def Ob.prop:Ob→Option Prop
 | .pr p=>some p
 | .two a b=>G2 a.prop b.prop
 | .wh e w a=>(match a.prop with | none=>none | some p=>some (e=w→p))
 | _=>none
theorem XP {x y:Option Prop} (h:∀ p,G2 x y=some p→p):(∀ p,x=some p→p)∧∀ p,y=some p→p:=by
 cases x with
 | none=>exact ⟨fun p hp=>(by cases hp),fun p hp=>h p (by simpa [G2] using hp)⟩
 | some a =>
  cases y with
  | none=>exact ⟨fun p hp=>h p (by simpa [G2] using hp),fun p hp=>(by cases hp)⟩
  | some b =>
   have:=h (a∧b) rfl
   exact ⟨fun p hp=>(by cases hp; exact this.1),fun p hp=>(by cases hp; exact this.2)⟩
theorem Ob.G3:∀ {ob:Ob},ob.eqs.ok→(∀ p,ob.prop=some p→p)→ob.den
 | .tt,_,_=>trivial
 | .pr p,_,h=>h p rfl
 | .be _ _,h,_=>h
 | .ne _ _,h,_=>h
 | .ze _ _,h,_=>h
 | .fe _ _,h,_=>h
 | .me _ _,h,_=>h
 | .ve _ _,h,_=>h
 | .two a b,h,hp=>⟨Ob.G3 h.1 (XP hp).1,Ob.G3 h.2 (XP hp).2⟩
 | .wh e w a,h,hp=>fun he=>Ob.G3 h (fun p hq=>hp (e=w→p) (by simp [Ob.prop,hq]) he)
def Eo (ob:Ob):CT:=match ob.prop with | none=>ob.eqs | some _=>.bad
theorem vS {ob:Ob} (h:(Eo ob).ok):ob.den:=by
 unfold Eo at h
 split at h
 ·rename_i hn
  exact Ob.G3 h (fun p hp=>by rw [hn] at hp; cases hp)
 ·exact h.elim
def cEq:D→D→CT
 | .v (.slice none 0 0),.sl n _=>.nn n 0
 | x,y=>.dd x y
def Wj:List D→List D→CT
 | [],[]=>.nil
 | c :: cs,d :: ds=>.two (cEq c d) (Wj cs ds)
 | _,_=>.bad
def dEq:D→D→CT
 | .agg cs,.agg ds=>Wj cs ds
 | x,y=>cEq x y
theorem aaO {x y:D} (h:(cEq x y).ok):ue x y:=by
 unfold cEq at h
 split at h
 ·have h:_=0:=h
  subst h
  exact ue.nil _
 ·exact ue.of_eq h
theorem Fs:∀ {cs ds:List D},(Wj cs ds).ok→cs.length=ds.length∧∀ i,i < cs.length→ue (cs.getD i default) (ds.getD i default)
 | [],[],_=>⟨rfl,fun i hi=>absurd hi (by simp)⟩
 | c :: cs,d :: ds,h=>by
  obtain ⟨h1,h2⟩:=Fs h.2
  refine ⟨by simp [h1],fun i hi=>?_⟩
  cases i with
  | zero=>simpa using aaO h.1
  | succ i=>simpa using h2 i (by simpa using hi)
 | [],_ :: _,h=>h.elim
 | _ :: _,[],h=>h.elim
theorem aej {x y:D} (h:(dEq x y).ok):ue x y:=by
 unfold dEq at h
 split at h
 ·exact ue.agg (Fs h).1 (Fs h).2
 ·exact aaO h
mutual
def Wk (ρ:Ren):AV→AV→CT
 | _,.any=>.nil
 | .d x,.d y=>dEq x y
 | .own κ n,.own κ' n'=>.two (.bb (tK ρ κ' κ) true) (.nn n n')
 | .d (.v (.slice none 0 0)),.own κ' n'=>.two (.bb (TP ρ κ') true) (.nn n' 0)
 | .ptr κ o,.ptr κ' o'=>.bb (tK ρ κ' κ&&Nat.beq o o') true
 | .ref cs,.ref C6=>.ll cs C6
 | .fn f l,.fn f' l'=>.two (.bb (Nat.beq f f') true) (Ft ρ l l')
 | .fD l,.fD l'=>Ft ρ l l'
 | .ag l,.ag l'=>Ft ρ l l'
 | .vr κ,.vr κ'=>.bb (tK ρ κ' κ) true
 | .CS n f,.CS n' f'=>.two (.nn n n') (.mm f f')
 | .Br n f,.Br n' f'=>.two (.nn n n') (.ff f f')
 | .Br n f,.d (.sl n' f')=>.two (.nn n n') (.ff f f')
 | .zO κ k i o,.zO κ' k' i' o'=>.two (.bb (tK ρ κ' κ&&Nat.beq k k'&&Nat.beq o o') true) (.nn i i')
 | _,_=>.bad
def Ft (ρ:Ren):List AV→List AV→CT
 | [],[]=>.nil
 | x :: r,y :: s=>.two (Wk ρ x y) (Ft ρ r s)
 | _,_=>.bad
end
def aek (ρ:Ren):bP→bP→CT
 | .box cs,.box C6=>Ft ρ cs C6
 | .row e k n f,.row e' k' n' f'=>.two (.bb (Nat.beq e e'&&Nat.beq k k') true) (.two (.nn n n') (.ff f f'))
 | .mp n f,.mp n' f'=>.two (.nn n n') (.mm f f')
 | .it mk n s,.it mk' n' s'=>.two (.bb (tK ρ mk' mk) true) (.two (.nn n n') (.ss s s'))
 | .mx,.mx=>.nil
 | _,_=>.bad
def acv (ρ:Ren) (sl:List (Nat × AV)):List (Nat × AV)→CT
 | []=>.nil
 | (t,x) :: r=>.two (Wk ρ (St.get sl t) x) (acv ρ sl r)
def Wl (ρ:Ren) (lb:List (Nat × bP)):List (Nat × bP)→CT
 | []=>.nil
 | (κ,b) :: r=>(match look ρ κ with
  | some (some o)=>(match look lb o with | some c=>.two (aek ρ c b) (Wl ρ lb r) | none=>.bad)
  | some none=>(match b with | .row _ _ n _=>.two (.nn n 0) (Wl ρ lb r) | _=>.bad)
  | none=>.bad)
mutual
theorem Fu {ρ:Ren}:∀ (x y:AV),(Wk ρ x y).ok→∃ p,tL ρ x y=some p∧p
 | x,y,h=>by
  unfold Wk at h
  split at h
  ·exact ⟨True,by unfold tL; rfl,trivial⟩
  ·exact ⟨_,by unfold tL; rfl,aej h⟩
  ·obtain ⟨h1,h2⟩:=h
   have h1:tK ρ _ _=true:=h1
   exact ⟨_,by unfold tL; rw [h1]; rfl,h2⟩
  ·obtain ⟨h1,h2⟩:=h
   have h1:TP ρ _=true:=h1
   exact ⟨_=0,by simp [tL,h1],h2⟩
  ·have h:(tK ρ _ _&&Nat.beq _ _)=true:=h
   exact ⟨True,by unfold tL; rw [h]; rfl,trivial⟩
  ·exact ⟨_,by unfold tL; rfl,h⟩
  ·rename_i f l f' l'
   obtain ⟨h1,h2⟩:=h
   have h1:Nat.beq f f'=true:=h1
   obtain ⟨p,hp,hq⟩:=BQ l l' h2
   exact ⟨p,by unfold tL; rw [h1]; exact hp,hq⟩
  ·rename_i l l'
   obtain ⟨p,hp,hq⟩:=BQ l l' h
   exact ⟨p,by unfold tL; exact hp,hq⟩
  ·rename_i l l'
   obtain ⟨p,hp,hq⟩:=BQ l l' h
   exact ⟨p,by unfold tL; exact hp,hq⟩
  ·have h:tK ρ _ _=true:=h
   exact ⟨True,by unfold tL; rw [h]; rfl,trivial⟩
  ·rename_i n f n' f'
   exact ⟨n=n'∧f=f',by unfold tL; rfl,h.1,h.2⟩
  ·rename_i n f n' f'
   exact ⟨n=n'∧f=f',by unfold tL; rfl,h.1,h.2⟩
  ·rename_i n f n' f'
   exact ⟨n=n'∧f=f',by unfold tL; rfl,h.1,h.2⟩
  ·rename_i κ k i o κ' k' i' o'
   obtain ⟨h1,h2⟩:=h
   have h1:(tK ρ κ' κ&&Nat.beq k k'&&Nat.beq o o')=true:=h1
   exact ⟨i=i',by unfold tL; rw [h1]; rfl,h2⟩
  ·exact h.elim
theorem BQ {ρ:Ren}:∀ (x y:List AV),(Ft ρ x y).ok→∃ p,yP ρ x y=some p∧p
 | [],[],_=>⟨True,by unfold yP; rfl,trivial⟩
 | x :: r,y :: s,h=>by
  unfold Ft at h
  obtain ⟨p,h1,h2⟩:=Fu x y h.1
  obtain ⟨q,h3,h4⟩:=BQ r s h.2
  exact ⟨p∧q,by unfold yP; rw [h1,h3],h2,h4⟩
 | [],_ :: _,h=>by unfold Ft at h; exact h.elim
 | _ :: _,[],h=>by unfold Ft at h; exact h.elim
end
theorem acw {ρ:Ren} {b c:bP} (h:(aek ρ b c).ok):∃ p,pw ρ b c=some p∧p:=by
 unfold aek at h
 split at h
 ·rename_i cs C6
  obtain ⟨p,h1,h2⟩:=BQ cs C6 h
  exact ⟨p,h1,h2⟩
 ·rename_i e k n f e' k' n' f'
  obtain ⟨h1,h2,h3⟩:=h
  have h1:(Nat.beq e e'&&Nat.beq k k')=true:=h1
  have h3:f=f':=h3
  exact ⟨n=n'∧∀ i,i < n→f i=f' i,by unfold pw; dsimp only; rw [h1]; rfl,h2,fun i _=>by rw [h3]⟩
 ·rename_i n f n' f'
  exact ⟨n=n'∧f=f',rfl,h.1,h.2⟩
 ·rename_i mk n s mk' n' s'
  obtain ⟨h1,h2,h3⟩:=h
  have h1:tK ρ mk' mk=true:=h1
  exact ⟨n=n'∧s=s',by unfold pw; dsimp only; rw [h1]; rfl,h2,h3⟩
 ·exact ⟨True,rfl,trivial⟩
 ·exact h.elim
theorem Rc {ρ:Ren} {sl:List (Nat × AV)}:∀ {l:List (Nat × AV)},(acv ρ sl l).ok→∃ p,Lt ρ sl l=some p∧p
 | [],_=>⟨True,rfl,trivial⟩
 | (t,x) :: r,h=>by
  obtain ⟨p,h1,h2⟩:=Fu _ _ h.1
  obtain ⟨q,h3,h4⟩:=Rc h.2
  exact ⟨p∧q,by unfold Lt; rw [h1,h3],h2,h4⟩
theorem Fv {ρ:Ren} {lb:List (Nat × bP)}:∀ {l:List (Nat × bP)},(Wl ρ lb l).ok→∃ p,Jh ρ lb l=some p∧p
 | [],_=>⟨True,rfl,trivial⟩
 | (κ,b) :: r,h=>by
  unfold Wl at h
  split at h
  ·rename_i o ho
   split at h
   ·rename_i c hc
    obtain ⟨p,h1,h2⟩:=acw h.1
    obtain ⟨q,h3,h4⟩:=Fv h.2
    exact ⟨p∧q,by unfold Jh; rw [ho,h3]; simp only [hc,h1],h2,h4⟩
   ·exact h.elim
  ·rename_i ho
   split at h
   ·obtain ⟨q,h3,h4⟩:=Fv h.2
    exact ⟨_∧q,by unfold Jh; rw [ho,h3]; rfl,h.1,h4⟩
   ·exact h.elim
  ·exact h.elim
def G4 (κ:Nat) (o:Option Nat) (ρ:Ren):Ren:=match look ρ κ with | some _=>ρ | none=>(κ,o) :: ρ
mutual
def PZ:AV→AV→Ren→Ren
 | .own κ _,.own κ' _,ρ=>G4 κ' (some κ) ρ
 | .d _,.own κ' _,ρ=>G4 κ' none ρ
 | .ptr κ _,.ptr κ' _,ρ=>G4 κ' (some κ) ρ
 | .vr κ,.vr κ',ρ=>G4 κ' (some κ) ρ
 | .zO κ _ _ _,.zO κ' _ _ _,ρ=>G4 κ' (some κ) ρ
 | .fn _ l,.fn _ l',ρ=>LA l l' ρ
 | .fD l,.fD l',ρ=>LA l l' ρ
 | .ag l,.ag l',ρ=>LA l l' ρ
 | _,_,ρ=>ρ
def LA:List AV→List AV→Ren→Ren
 | x :: r,y :: s,ρ=>LA r s (PZ x y ρ)
 | _,_,ρ=>ρ
end
def aaP (sl:List (Nat × AV)):List (Nat × AV)→Ren→Ren
 | [],ρ=>ρ
 | (t,x) :: r,ρ=>aaP sl r (PZ (St.get sl t) x ρ)
def LB (lb:List (Nat × bP)):List (Nat × bP)→Ren→Ren
 | [],ρ=>ρ
 | (κ,b) :: r,ρ=>LB lb r (match look ρ κ with
  | some (some o)=>(match look lb o,b with | some (.box cs),.box C6=>LA cs C6 ρ | some (.it m _ _),.it m' _ _=>G4 m' (some m) ρ | _,_=>ρ)
  | _=>ρ)
def aaQ (st st':St):Ren:=LB st.lb st'.lb (LB st.lb st'.lb (aaP st.sl st'.sl []))
def N8 (st st':St):CT:=.two (.bb (Fp (aaQ st st')) true) (.two (acv (aaQ st st') st.sl st'.sl) (Wl (aaQ st st') st.lb st'.lb))
theorem xl {st st':St} (h:(N8 st st').ok):NV st st':=by
 obtain ⟨h1,h2,h3⟩:=h
 obtain ⟨p,q1,q2⟩:=Rc h2
 obtain ⟨p',q3,q4⟩:=Fv h3
 exact NV.of _ h1 q1 q2 q3 q4
def acx (t:Nat):Nat:=Nat.shiftLeft 1 t
def LC:Operand→Nat
 | .tmp t=>acx t
 | _=>0
def P1:List Operand→Nat
 | []=>0
 | x :: r=>Nat.lor (LC x) (P1 r)
def aaR:List Oper→Nat
 | []=>0
 | o :: r=>Nat.lor (P1 o.op.operands.toList) (aaR r)
def DY:Code→Nat
 | .region _ ops _=>aaR ops.toList
 | .seq a b=>Nat.lor (DY a) (DY b)
 | .cond c a b=>Nat.lor (LC c) (Nat.lor (DY a) (DY b))
 | .block _ c=>DY c
 | .loop c=>DY c
 | .rangeFunc f _ a b=>Nat.lor (LC f) (Nat.lor (DY a) (DY b))
 | _=>0
def mC:List Item→Nat
 | []=>0
 | .code c :: r=>Nat.lor (DY c) (mC r)
 | .inLoop c :: r=>Nat.lor (DY c) (mC r)
 | _ :: r=>mC r
def Dy:List ResultVar→Nat
 | []=>0
 | .tmp t :: r=>Nat.lor (acx t) (Dy r)
 | .cell t _ :: r=>Nat.lor (acx t) (Dy r)
def LD (m t:Nat):Bool:=Nat.beq (Nat.land (Nat.shiftRight m t) 1) 1
def uL (m:Nat):List (Nat × AV)→List (Nat × AV)
 | []=>[]
 | (t,x) :: r=>bif LD m t then (t,x) :: uL m r else uL m r
theorem LF (m:Nat):∀ (l:List (Nat × AV)) (t:Nat),look (uL m l) t=bif LD m t then look l t else none
 | [],t=>by cases LD m t <;> rfl
 | (k,x) :: r,t=>by
  have ih:=LF m r t
  simp only [uL]
  cases hk:LD m k with
  | true =>
   simp only [cond_true,ca]
   by_cases e:k=t
   ·subst e; simp [hk]
   ·simp only [e,if_false]; exact ih
  | false =>
   simp only [cond_false,ca]
   by_cases e:k=t
   ·subst e; rw [ih,hk]; rfl
   ·simp only [e,if_false]; exact ih
def St.keep (m:Nat) (st:St):St:=⟨uL m st.sl,st.lb⟩
theorem NV.keep (m:Nat) (st:St):NV st (st.keep m):=by
 rintro C a w ⟨S,μ,hs⟩
 refine ⟨S,μ,fun ν=>(hs ν).weaken (fun t v hv=>?_) (fun κ b hb=>⟨b,hb,fun _ h=>h⟩)⟩
 simp only [St.gL,St.get,St.keep,LF] at hv ⊢
 cases LD m t with
 | true=>exact hv
 | false=>exact .any _
def Re (lb:List (Nat × bP)):List Nat→List Nat
 | []=>[]
 | k :: r=>(match look lb k with | some b=>b.keys++Re lb r | none=>Re lb r)
def aaS:List (Nat × AV)→List Nat
 | []=>[]
 | (_,x) :: r=>x.keys++aaS r
def LG (ks:List Nat):List (Nat × bP)→List (Nat × bP)
 | []=>[]
 | (k,b) :: r=>bif ks.any (fun q=>Nat.beq q k) then (k,b) :: LG ks r else LG ks r
structure Z5 where
 sl:List (Nat × AV):=[]
 lb:List (Nat × bP):=[]
def St.E3 (st:St) (m:Nat) (u:Z5):St :=
 let sl:=u.sl++uL m (aY (u.sl.map (·.1)) st.sl)
 let lb:=u.lb++aY (u.lb.map (·.1)) st.lb
 let k0:=aaS sl
 let k1:=Re lb k0
 let k2:=Re lb k1
 ⟨sl,LG (k0++k1++k2) lb⟩
structure bH (β:Type) where
 v:β
 kX:β→List C0
 kV:β→Option Prop
 pre:Prop
 pf:pre→∀ p,kV v=some p→p
 post:β→Prop
 hp:post v
def iter {α ι:Type} (f:ι→α ⊕ ι) (d:α):Nat→ι→α
 | 0,_=>d
 | n+1,i=>match f i with | .inl a=>a | .inr j=>iter f d n j
def iY {α β:Type}:α ⊕ β→(β→α)→α
 | .inl a,_=>a
 | .inr b,f=>f b
def sw {α β:Type} (L:α→Prop) (J:β→Prop):α ⊕ β→Prop
 | .inl a=>L a
 | .inr b=>J b
def iZ {α ι:Type} (L:α→Prop) (J:ι→Prop):α ⊕ ι→Prop
 | .inl a=>L a
 | .inr j=>J j
structure ItC (Y:Type) where
 P:Program
 gf:FuncId
 cY:List AV
 ys:List Y
 enc:Y→List AV
 pre:Prop
 pf:pre→Y9 P gf cY (ys.map enc)
inductive Sk:Type→Type 1 where
 | fin {α:Type} (a:α):Sk α
 | br {α:Type} (e:Bool) (x y:Sk α):Sk α
 | r {α β:Type} (id:Nat) (c:bH β) (k:β→Sk α):Sk α
 | wi {α:Type} (t:Nat) (m n:Int) (k:Sk α):Sk α
 | wn {α:Type} (κ n n':Nat) (k:Sk α):Sk α
 | KF {α:Type} (k:Sk α):Sk α
 | Dz {α:Type} (k:Sk α):Sk α
 | dead {α:Type} (a:α):Sk α
 | GJ {α:Type} (t j n:Nat) (k:Sk α):Sk α
 | XQ {α:Type} (t:Nat) (c:Bool) (x y:AV) (k1 k2:Sk α):Sk α
 | VM {α:Type} (t n:Nat) (k1 k2:Sk α):Sk α
 | fz {α:Type} (κ:Nat) (k:Sk α):Sk α
 | op {α:Type} (κ:Nat) (k:List (Int × Int)→Sk α):Sk α
 | cl {α:Type} (κ:Nat) (m:List (Int × Int)) (k:Sk α):Sk α
 | PY {α:Type} (id:Nat) (x:Int) (c:tH) (k:Sk α):Sk α
 | mr {α γ:Type} (n:Nat) (V:γ→Prop) (init:γ) (u:γ→List Nat→Z5) (v:γ→Z5) (b:γ→Nat→Sk γ) (k:γ→Sk α):Sk α
 | bind {α β:Type} (blk:Bool) (J:β→Prop) (s:Sk (α ⊕ β)) (u:β→Z5) (k:β→Sk α):Sk α
 | loop {α ι:Type} (d:α) (I:ι→Prop) (m:ι→Nat) (i0:ι) (u:ι→Z5) (b:ι→Sk (α ⊕ ι)):Sk α
 | rf {α σ β Y:Type} (it:ItC Y) (I:Nat→σ→Prop) (B:β→Prop) (id:Nat) (s0:σ) (u:σ→List (Nat × bP)) (v:β→List (Nat × bP)) (b:σ→Y→Sk (β ⊕ σ)) (k:β ⊕ σ→Sk α):Sk α
abbrev Sk.bt {α β:Type} (s:Sk (α ⊕ β)) (u:β→Z5) (k:β→Sk α):Sk α:=.bind true (fun _=>True) s u k
abbrev Sk.lt {α:Type} (t j i n:Nat) (x y:Sk α):Sk α:=.GJ t j n (.br (decide ((i:Int) < (n:Int))) x y)
def Sk.val:{α:Type}→Sk α→α
 | _,.fin a=>a
 | _,.br e x y=>bif e then x.val else y.val
 | _,.r _ c k=>(k c.v).val
 | _,.wi _ _ _ k=>k.val
 | _,.wn _ _ _ k=>k.val
 | _,.KF k=>k.val
 | _,.Dz k=>k.val
 | _,.dead a=>a
 | _,.GJ _ _ _ k=>k.val
 | _,.XQ _ c _ _ x y=>bif c then x.val else y.val
 | _,.VM _ _ _ k=>k.val
 | _,.fz _ k=>k.val
 | _,.op _ k=>(k []).val
 | _,.cl _ _ k=>k.val
 | _,.PY _ _ _ k=>k.val
 | _,.mr n _ init _ _ b k=>(k ((List.range n).foldr (fun i g=>(b g i).val) init)).val
 | _,.bind _ _ s _ k=>iY s.val fun b=>(k b).val
 | _,.loop d _ m i0 _ b=>iter (fun i=>(b i).val) d (m i0+1) i0
 | _,.rf it _ _ _ s0 _ _ b k=>(k (rA (fun s y=>(b s y).val) it.ys s0)).val
def Sk.dj:{α:Type}→Sk α→(α→Prop)→Prop
 | _,.fin a,L=>L a
 | _,.br e x y,L=>(e=true→x.dj L)∧(e=false→y.dj L)
 | _,.r _ c k,L=>∀ x,x=c.v→c.post x→(k x).dj L
 | _,.wi _ _ _ k,L=>k.dj L
 | _,.wn _ _ _ k,L=>k.dj L
 | _,.KF k,L=>k.dj L
 | _,.Dz k,L=>k.dj L
 | _,.dead a,L=>L a
 | _,.GJ _ _ _ k,L=>k.dj L
 | _,.XQ _ c _ _ x y,L=>(c=true→x.dj L)∧(c=false→y.dj L)
 | _,.VM _ _ _ k,L=>k.dj L
 | _,.fz _ k,L=>k.dj L
 | _,.op _ k,L=>(k []).dj L
 | _,.cl _ _ k,L=>k.dj L
 | _,.PY _ _ _ k,L=>k.dj L
 | _,.mr n V init _ _ b k,L=>V init∧(∀ g i,V g→i < n→(b g i).dj V)∧∀ g,g=(List.range n).foldr (fun i g=>(b g i).val) init→V g→(k g).dj L
 | _,.bind _ J s _ k,L=>s.dj (sw L J)∧∀ b,s.val=.inr b→J b→(k b).dj L
 | _,.loop _ I m i0 _ b,L=>I i0∧∀ i,I i→(b i).dj (iZ L fun j=>I j∧m j < m i)
 | _,.rf it I B _ s0 _ _ b k,L=>I 0 s0∧(∀ i s y,I i s→it.ys[i]? = some y→(b s y).dj (iZ B (I (i+1))))∧∀ r,r=rA (fun s y=>(b s y).val) it.ys s0→iZ B (I it.ys.length) r→(k r).dj L
def Sk.bC:{α:Type}→Sk α→(α→Prop)→Prop
 | _,.fin a,L=>L a
 | _,.br e x y,L=>(e=true→x.bC L)∧(e=false→y.bC L)
 | _,.r _ c k,L=>c.pre∧∀ x,x=c.v→c.post x→(k x).bC L
 | _,.wi _ m n k,L=>m=n∧k.bC L
 | _,.wn _ n n' k,L=>n=n'∧k.bC L
 | _,.KF k,L=>k.bC L
 | _,.Dz k,L=>k.bC L
 | _,.dead _,_=>False
 | _,.GJ _ _ n k,L=>n≤maxLen→k.bC L
 | _,.XQ _ c _ _ x y,L=>(c=true→x.bC L)∧(c=false→y.bC L)
 | _,.VM _ n k1 k2,L=>(n=0→k1.bC L∧k1.val=k2.val)∧k2.bC L
 | _,.fz _ k,L=>k.bC L
 | _,.op _ k,L=>∀ m,(k m).val=(k []).val∧(k m).bC L
 | _,.cl _ _ k,L=>k.bC L
 | _,.PY _ x c k,L=>(0≤x∧x≤(c.n:Int))∧k.bC L
 | _,.mr n V init _ _ b k,L=>V init∧(∀ g i,V g→i < n→(b g i).dj V∧(b g i).bC fun _=>True)∧(∀ g i j,V g→i < n→j < n→i≠j→(b (b g j).val i).val=(b (b g i).val j).val)∧∀ g,g=(List.range n).foldr (fun i g=>(b g i).val) init→V g→(k g).bC L
 | _,.bind _ J s _ k,L=>s.bC (sw L J)∧∀ b,s.val=.inr b→J b→(k b).bC L
 | _,.loop _ I m i0 _ b,L=>I i0∧∀ i,I i→(b i).bC (iZ L fun j=>I j∧m j < m i)
 | _,.rf it I B _ s0 _ _ b k,L=>it.pre∧I 0 s0∧(∀ i s y,I i s→it.ys[i]? = some y→(b s y).dj (iZ B (I (i+1)))∧(b s y).bC (iZ B (I (i+1))))∧∀ r,r=rA (fun s y=>(b s y).val) it.ys s0→iZ B (I it.ys.length) r→(k r).bC L
theorem P2 {σ β Y:Type} {f:σ→Y→β ⊕ σ} {I:Nat→σ→Prop} {B:β→Prop} (l:List Y) (h:∀ i s y,I i s→l[i]? = some y→iZ B (I (i+1)) (f s y)) (s:σ) (hs:I 0 s):iZ B (I l.length) (rA f l s):=by
 have:=Lu (f:=f) (I:=I) (B:=B) l 0 (fun i s y hs hy=>by
  rw [Nat.zero_add] at hs ⊢
  have:=h i s y hs hy
  cases e:f s y <;> rw [e] at this <;> exact this) s hs
 rw [Nat.zero_add] at this
 cases e:rA f l s <;> rw [e] at this <;> exact this
theorem yR {γ:Type} {V:γ→Prop} {f:γ→Nat→γ} {n:Nat} (hf:∀ g i,V g→i < n→V (f g i)) {init:γ} (h0:V init):∀ (s:List Nat),(∀ i,i∈s→i < n)→V (s.foldr (fun i g=>f g i) init)
 | [],_=>h0
 | i :: s,h=>hf _ i (yR hf h0 s (fun j hj=>h j (List.mem_cons_of_mem _ hj))) (h i List.mem_cons_self)
theorem Wm {γ:Type} {V:γ→Prop} {f:γ→Nat→γ} {n:Nat} (hf:∀ g i,V g→i < n→V (f g i)) (hc:∀ g i j,V g→i < n→j < n→i≠j→f (f g j) i=f (f g i) j) {init:γ} (h0:V init) {s t:List Nat} (h:s.Perm t) :
  (∀ i,i∈s→i < n)→s.foldr (fun i g=>f g i) init=t.foldr (fun i g=>f g i) init:=by
 induction h with
 | nil=>intro _; rfl
 | cons x _ ih=>intro hs; simp only [List.foldr_cons]; rw [ih (fun i hi=>hs i (List.mem_cons_of_mem _ hi))]
 | swap x y l =>
  intro hs
  simp only [List.foldr_cons]
  by_cases e:x=y
  ·rw [e]
  ·exact hc _ y x (yR hf h0 l (fun i hi=>hs i (by simp [hi]))) (hs y (by simp)) (hs x (by simp)) (fun e'=>e e'.symm)
 | trans h1 _ ih1 ih2=>intro hs; rw [ih1 hs,ih2 (fun i hi=>hs i (h1.mem_iff.2 hi))]
theorem P3 {α ι:Type} {f:ι→α ⊕ ι} {d:α} {L:α→Prop} {I:ι→Prop} {m:ι→Nat} (h:∀ i,I i→iZ L (fun j=>I j∧m j < m i) (f i)):∀ (n:Nat) (i:ι),I i→m i < n→L (iter f d n i)
 | 0,i,_,hn=>absurd hn (by omega)
 | n+1,i,hi,hn=>by
  have:=h i hi
  simp only [iter]
  cases hf:f i with
  | inl a=>rw [hf] at this; exact this
  | inr j=>rw [hf] at this; exact P3 h n j this.1 (by have:=this.2; omega)
theorem Sk.dk:{α:Type}→(s:Sk α)→{L:α→Prop}→s.dj L→L s.val
 | _,.fin a,_,h=>h
 | _,.br e x y,L,h=>by
  cases e with
  | true=>exact x.dk (h.1 rfl)
  | false=>exact y.dk (h.2 rfl)
 | _,.r _ c k,L,h=>(k c.v).dk (h _ rfl c.hp)
 | _,.wi _ _ _ k,L,h=>k.dk (L:=L) h
 | _,.wn _ _ _ k,L,h=>k.dk (L:=L) h
 | _,.KF k,L,h=>k.dk (L:=L) h
 | _,.Dz k,L,h=>k.dk (L:=L) h
 | _,.dead _,_,h=>h
 | _,.GJ _ _ n k,L,h=>k.dk (L:=L) h
 | _,.XQ _ c _ _ x y,L,h=>by
  cases c with
  | true=>exact x.dk (h.1 rfl)
  | false=>exact y.dk (h.2 rfl)
 | _,.VM _ _ _ k,L,h=>k.dk (L:=L) h
 | _,.fz _ k,L,h=>k.dk (L:=L) h
 | _,.op _ k,L,h=>(k []).dk (L:=L) h
 | _,.cl _ _ k,L,h=>k.dk (L:=L) h
 | _,.PY _ _ _ k,L,h=>k.dk (L:=L) h
 | _,.mr n V init _ _ b k,L,h=>(k _).dk (h.2.2 _ rfl (yR (fun g i hg hi=>(b g i).dk (h.2.1 g i hg hi)) h.1 _ (fun i hi=>List.mem_range.1 hi)))
 | _,.bind _ J s _ k,L,h=>by
  have h1:=s.dk h.1
  show L (iY s.val fun b=>(k b).val)
  cases hs:s.val with
  | inl a=>rw [hs] at h1; exact h1
  | inr b=>rw [hs] at h1; exact (k b).dk (h.2 b hs h1)
 | _,.loop d I m i0 _ b,L,h=>P3 (f:=fun i=>(b i).val) (fun i hi=>(b i).dk (h.2 i hi)) (m i0+1) i0 h.1 (Nat.lt_succ_self _)
 | _,.rf it I B _ s0 _ _ b k,L,h=>(k _).dk (h.2.2 _ rfl (P2 it.ys (fun i s y hs hy=>(b s y).dk (h.2.1 i s y hs hy)) s0 h.1))
def wnA (κ n':Nat):AV→AV
 | .own k m=>bif Nat.beq k κ then .own k n' else .own k m
 | x=>x
def wnC (κ n:Nat):AV→CT
 | .own k m=>bif Nat.beq k κ then .nn m n else .nil
 | _=>.nil
def acy (κ n':Nat):List AV→List AV
 | []=>[]
 | x :: r=>wnA κ n' x :: acy κ n' r
def ael (κ n:Nat):List AV→CT
 | []=>.nil
 | x :: r=>.two (wnC κ n x) (ael κ n r)
def acz (κ n':Nat):List (Nat × AV)→List (Nat × AV)
 | []=>[]
 | (t,x) :: r=>(t,wnA κ n' x) :: acz κ n' r
def aaT (κ n:Nat):List (Nat × AV)→CT
 | []=>.nil
 | (_,x) :: r=>.two (wnC κ n x) (aaT κ n r)
def N9 (κ n':Nat):List (Nat × bP)→List (Nat × bP)
 | []=>[]
 | (k,.box cs) :: r=>(k,.box (acy κ n' cs)) :: N9 κ n' r
 | (k,.row e q n f) :: r=>(k,.row e q (bif Nat.beq k κ then n' else n) f) :: N9 κ n' r
 | (k,b) :: r=>(k,b) :: N9 κ n' r
def ID (κ n:Nat) (n':Nat):List (Nat × bP)→CT
 | []=>.nil
 | (_,.box cs) :: r=>.two (ael κ n cs) (ID κ n n' r)
 | (k,.row _ _ m _) :: r=>.two (bif Nat.beq k κ then .nn m n' else .nil) (ID κ n n' r)
 | (_,_) :: r=>ID κ n n' r
theorem aaU {κ n:Nat} {x:AV} (h:(wnC κ n x).ok):wnA κ n x=x:=by
 unfold wnC at h
 split at h
 ·rename_i k m
  show (bif Nat.beq k κ then AV.own k n else AV.own k m)=AV.own k m
  cases hb:Nat.beq k κ with
  | true =>
   rw [hb] at h
   have h:m=n:=h
   subst h
   rfl
  | false=>rfl
 ·rename_i YN
  cases x <;> first | rfl | exact absurd rfl (YN _ _)
theorem XR {κ n:Nat}:∀ {l:List AV},(ael κ n l).ok→acy κ n l=l
 | [],_=>rfl
 | x :: r,h=>by simp only [acy,aaU h.1,XR h.2]
theorem XS {κ n:Nat}:∀ {l:List (Nat × AV)},(aaT κ n l).ok→acz κ n l=l
 | [],_=>rfl
 | (t,x) :: r,h=>by simp only [acz,aaU h.1,XS h.2]
theorem C8 {κ n:Nat}:∀ {l:List (Nat × bP)},(ID κ n n l).ok→N9 κ n l=l
 | [],_=>rfl
 | (k,.box cs) :: r,h=>by simp only [N9,XR h.1,C8 h.2]
 | (k,.row e q m f) :: r,h=>by
  simp only [N9,C8 h.2]
  have h1:=h.1
  cases hb:Nat.beq k κ with
  | false=>rfl
  | true =>
   rw [hb] at h1
   have h1:m=n:=h1
   subst h1
   rfl
 | (k,.mp _ _) :: r,h=>by have h:(ID κ n n r).ok:=h; simp only [N9,C8 h]
 | (k,.it _ _ _) :: r,h=>by have h:(ID κ n n r).ok:=h; simp only [N9,C8 h]
 | (k,.mx) :: r,h=>by have h:(ID κ n n r).ok:=h; simp only [N9,C8 h]
def P4 (lb:List (Nat × bP)):AV→Option Nat
 | .d (.sl q _)=>some q
 | .own κ _=>(match look lb κ with | some (.row _ _ q _)=>some q | _=>none)
 | _=>none
def TZ (st:St) (t j:Nat):Option Nat :=
 match St.get st.sl t with
 | .ptr κ _=>(match look st.lb κ with | some (.box cs)=>bif Nat.ble (j+1) cs.length then P4 st.lb (cs.getD j default) else none | _=>none)
 | .ref cs=>bif Nat.ble (j+1) cs.length then P4 st.lb (.d (cs.getD j default)) else none
 | .d (.agg cs)=>bif Nat.ble (j+1) cs.length then P4 st.lb (.d (cs.getD j default)) else none
 | x=>P4 st.lb x
def fzA (κ:Nat) (f:Nat→List D):AV→AV
 | .own k m=>bif Nat.beq k κ then .d (.sl m f) else .own k m
 | x=>x
def fzC (κ n:Nat):AV→CT
 | .own k m=>bif Nat.beq k κ then .nn m n else .nil
 | x=>.bb (x.keys.any fun k=>Nat.beq k κ) false
def Wn (κ:Nat) (f:Nat→List D):List AV→List AV
 | []=>[]
 | x :: r=>fzA κ f x :: Wn κ f r
def aem (κ n:Nat):List AV→CT
 | []=>.nil
 | x :: r=>.two (fzC κ n x) (aem κ n r)
def aaV (κ:Nat) (f:Nat→List D):List (Nat × AV)→List (Nat × AV)
 | []=>[]
 | (t,x) :: r=>(t,fzA κ f x) :: aaV κ f r
def XT (κ n:Nat):List (Nat × AV)→CT
 | []=>.nil
 | (_,x) :: r=>.two (fzC κ n x) (XT κ n r)
def fzB (κ:Nat) (f:Nat→List D):bP→bP
 | .box cs=>.box (Wn κ f cs)
 | b=>b
def afP (κ n:Nat):bP→CT
 | .box cs=>aem κ n cs
 | .it m _ _=>.bb (Nat.beq m κ) false
 | _=>.nil
def Wo (κ:Nat) (f:Nat→List D):List (Nat × bP)→List (Nat × bP)
 | []=>[]
 | (k,b) :: r=>bif Nat.beq k κ then Wo κ f r else (k,fzB κ f b) :: Wo κ f r
def XU (κ n:Nat):List (Nat × bP)→CT
 | []=>.nil
 | (k,b) :: r=>.two (bif Nat.beq k κ then .nil else afP κ n b) (XU κ n r)
theorem T1 (κ n:Nat) (f:Nat→List D):∀ (l:List (Nat × AV)) (t:Nat),(XT κ n l).ok→St.get (aaV κ f l) t=fzA κ f (St.get l t)∧(fzC κ n (St.get l t)).ok
 | [],t,_=>⟨rfl,rfl⟩
 | (k,x) :: r,t,h=>by
  obtain ⟨i1,i2⟩:=T1 κ n f r t h.2
  simp only [St.get,aaV,ca] at i1 i2 ⊢
  by_cases e:k=t
  ·simp only [e,if_true]
   exact ⟨trivial,h.1⟩
  ·simp only [e,if_false]
   exact ⟨i1,i2⟩
theorem vz (κ n:Nat) (f:Nat→List D):∀ (l:List (Nat × bP)) (κ':Nat) (b:bP),(XU κ n l).ok→look (Wo κ f l) κ'=some b→κ'≠κ∧∃ c,look l κ'=some c∧b=fzB κ f c∧(afP κ n c).ok
 | [],κ',b,_,h=>by simp [Wo,look] at h
 | (k,c) :: r,κ',b,h,hl=>by
  have h1:=h.1
  simp only [Wo] at hl
  cases hb:Nat.beq k κ with
  | true =>
   rw [hb] at hl
   simp only [cond_true] at hl
   obtain ⟨q1,d,q2,q3⟩:=vz κ n f r κ' b h.2 hl
   have hk:=Nat.eq_of_beq_eq_true hb
   refine ⟨q1,d,?_,q3⟩
   rw [ca,if_neg (fun e=>q1 (by omega))]
   exact q2
  | false =>
   rw [hb] at hl h1
   simp only [cond_false,ca] at hl h1
   split at hl
   ·rename_i e
    subst e
    simp only [Option.some.injEq] at hl
    subst hl
    refine ⟨fun e=>(by rw [e,Nat.beq_refl] at hb; cases hb),c,(by rw [ca,if_pos rfl]),rfl,h1⟩
   ·rename_i e
    obtain ⟨q1,d,q2,q3⟩:=vz κ n f r κ' b h.2 hl
    exact ⟨q1,d,by rw [ca,if_neg e]; exact q2,q3⟩
theorem NV.fz {st:St} {κ e k n:Nat} {f:Nat→List D} (hl:look st.lb κ=some (.row e k n f)) (h1:(XT κ n st.sl).ok) (h2:(XU κ n st.lb).ok):NV st ⟨aaV κ f st.sl,Wo κ f st.lb⟩:=by
 rintro C a w ⟨S,μ,hs⟩
 have G1:=hs fun _=>false
 have hm:=G1.mem κ _ hl
 let S':Nat→Prop:=fun q=>S q∨∃ c,μ κ=some (some (q,c))
 have hS:∀ q,S q→S' q:=fun _ h=>.inl h
 have main:∀ {ν:Nat→Bool} {x:AV} {v:Value},(fzC κ n x).ok→Rel w S μ ν x v→Rel w S' μ ν (fzA κ f x) v:=by
  intro ν x v hc hr
  have other:fzA κ f x=x→Rel w S' μ ν (fzA κ f x) v:=fun e=>by rw [e]; exact hr.mono hS (fun _ _=>rfl) (fun _ _ e=>e)
  cases x with
  | own q m =>
   cases hb:Nat.beq q κ with
   | false=>exact other (by simp [fzA,hb])
   | true =>
    have e:=Nat.eq_of_beq_eq_true hb
    subst e
    simp only [fzC,hb,cond_true] at hc
    have hc:m=n:=hc
    subst hc
    simp only [fzA,hb,cond_true]
    cases hr with
    | @dt _ ad hμ =>
     cases ad with
     | none=>exact .d (.nil f)
     | some ad=>exact .d (.sl 0 f ad 0 0 (fun _ _=>undef) (Nat.le_refl _) (by simp [maxLen]) (.inl rfl) (fun i hi=>absurd hi (by omega)) (fun i j hi=>absurd hi (by omega)) (fun i j hi=>absurd hi (by omega)))
    | @own _ _ g cap hμ =>
     rw [hμ] at hm
     obtain ⟨cur,hg,_,kN,hn,hcp,ru⟩:=hm.at
     refine .d (.sl m f ⟨g,0,none⟩ cap k (fun i j=>(cur[i * k+j]?).getD undef) hn hcp (.inr rfl) (fun i hi=>(ru i hi).1) (fun i j hi hj=>⟨.inr ⟨cap,hμ⟩,?_⟩) (fun i j hi hj=>?_))
     ·obtain ⟨u,hu,_⟩:=(ru i hi).2 j hj
      rw [Nat.zero_add,iK w g _ cur e _ hg,hu]
      rfl
     ·obtain ⟨u,hu,VY⟩:=(ru i hi).2 j hj
      rw [hu]
      exact VY.mono hS (fun _ _=>rfl)
  | any=>exact other rfl
  | d=>exact other rfl
  | ptr=>exact other rfl
  | zO=>exact other rfl
  | ref=>exact other rfl
  | Br=>exact other rfl
  | vr=>exact other rfl
  | CS=>exact other rfl
  | fn=>exact other rfl
  | fD=>exact other rfl
  | ag=>exact other rfl
  | g=>exact other rfl
 refine ⟨S',μ,fun ν=>?_⟩
 have Z6:=hs ν
 refine ⟨Z6.tmps,Z6.defers,fun t=>?_,fun κ' b hb=>?_,fun κ1 κ2 b1 b2 g c c' q1 q2 q3 q4=>?_,fun κ' b g c q1 q2=>?_,fun b hb=>.inl (Z6.fU b hb),fun b hb=>?_,fun b hb=>?_,Z6.kept⟩
 ·obtain ⟨e1,e2⟩:=T1 κ n f st.sl t h1
  simp only [St.gL]
  rw [e1]
  exact main e2 (Z6.fa t)
 ·obtain ⟨vG,c,hc,rfl,SU⟩:=vz κ n f st.lb κ' b h2 hb
  have Bt:=Z6.mem κ' c hc
  have hnS:∀ g cc,μ κ'=some (some (g,cc))→¬ S' g:=fun g cc hμ' hS'=>by
   rcases hS' with h | ⟨c2,Jd⟩
   ·rw [hμ'] at Bt; exact Bt.at.not h
   ·exact vG (Z6.inj κ' κ c _ g cc c2 hc hl hμ' Jd)
  have XV:=Bt.mono (S':=S') hS (fun _ _=>rfl) (fun _ _ e=>e) (fun g cc e=>⟨rfl,hnS g cc e⟩)
  cases c with
  | box cs =>
   cases hμ':μ κ' with
   | none=>rw [hμ'] at Bt; exact Bt.elim
   | some y =>
    cases y with
    | none=>rw [hμ'] at Bt; exact Bt.elim
    | some gc =>
     obtain ⟨g,cc⟩:=gc
     rw [hμ'] at Bt
     obtain ⟨cur,e0,x1,x2,x3,x4⟩:=Bt.at
     have hlen:∀ (l:List AV),(Wn κ f l).length=l.length:=fun l=>by induction l with | nil=>rfl | cons _ _ ih=>simp [Wn,ih]
     have N2:∀ (l:List AV) (j:Nat),j < l.length→(aem κ n l).ok→(Wn κ f l).getD j default=fzA κ f (l.getD j default)∧(fzC κ n (l.getD j default)).ok:=fun l=>by
      induction l with
      | nil=>intro j hj; exact absurd hj (by simp)
      | cons x r ih =>
       intro j hj hk
       cases j with
       | zero=>exact ⟨rfl,hk.1⟩
       | succ j=>simpa [Wn] using ih j (by simpa using hj) hk.2
     refine eH.ok (b:=.box (Wn κ f cs)) ⟨cur,e0,x1,hnS g cc hμ',by rw [hlen]; exact x3,fun j hj=>?_⟩
     rw [hlen] at hj
     obtain ⟨x,y1,y2⟩:=x4 j hj
     obtain ⟨z1,z2⟩:=N2 cs j hj SU
     exact ⟨x,y1,fun ν'=>by rw [z1]; exact main z2 (y2 ν')⟩
  | row=>exact XV
  | mp=>exact XV
  | it=>exact XV
  | mx=>exact XV
 ·obtain ⟨_,d1,e1,_⟩:=vz κ n f st.lb κ1 b1 h2 q1
  obtain ⟨_,d2,e2,_⟩:=vz κ n f st.lb κ2 b2 h2 q2
  exact Z6.inj κ1 κ2 d1 d2 g c c' e1 e2 q3 q4
 ·obtain ⟨_,d1,e1,_⟩:=vz κ n f st.lb κ' b h2 q1
  exact Z6.own κ' d1 g c e1 q2
 ·rcases hb with h | ⟨c,hc⟩
  ·exact Z6.fresh b h
  ·rcases Z6.own κ _ b c hl hc with h | h
   ·exact .inr (.inl h)
   ·exact .inr (.inr h)
 ·rcases hb with h | ⟨c,hc⟩
  ·exact Z6.bound b h
  ·rw [hc] at hm
   exact hm.at.lt
def Wp (ops:Array Oper):Option (Nat × Nat × Nat) :=
 match ops.toList with
 | [o1,o2]=>(match o1.op,o1.dst,o1.guard,o2.op,o2.dst,o2.guard with
  | .next (.tmp it) false,some d1,none,.extract (.tmp Z4) 0,some d2,none=>bif Nat.beq d1 Z4 then some (it,d1,d2) else none
  | _,_,_,_,_,_=>none)
 | _=>none
def qP:Code→Option (Array Oper × List Item)
 | .seq x y=>(match qP x with | some (ops,l)=>some (ops,l++[.code y]) | none=>none)
 | .region _ ops false=>some (ops,[])
 | _=>none
def Wq (st:St) (d1 d2 κi κ n i:Nat) (s:List Nat):St:=⟨(d2,.d (.v (.bool true))) :: aY [d1,d2] st.sl,(κi,.it κ n (i :: s)) :: aY [κi] st.lb⟩
def LH (st:St) (d1 d2 it:Nat):St:=⟨(d2,.d (.v (.bool false))) :: aY [d1,d2,it] st.sl,st.lb⟩
inductive aaW where
 | ret (x:AV) (c6:List (Nat × bP))
 | Y8 (x:AV) (c6:List (Nat × bP)) (jY:List (Nat × Nat))
 | go (todo:List Item) (st:St)
 | brk (id:Nat) (st:St)
def Wr (g:Goal):aaW→Prop
 | .ret x c6=>g.Nrm∧g.res=x∧g.c6=c6
 | .Y8 x c6 jY=>g.TN jY∧g.res=x∧g.c6=c6
 | .go todo st=>G g todo st
 | .brk id st=>∀ k,exitTo id k=none→G g (.code (.exit id) :: k) st
def acA (T:List (Nat × TI)) (rs:List ResultVar) (st:St) (x:AV) (c6:List (Nat × bP)):CT :=
 match xj T st rs with
 | some (l,_,ob)=>(match c6 with
  | []=>(match yM st.lb l with | some (l',_,E2)=>.two (Eo ob) (.two (Eo E2) (Wk [] (tI l') x)) | none=>.bad)
  | c6=>.two (Eo ob) (.two (.bb (Fp (LB st.lb c6 (PZ (tI l) x []))) true) (.two (Wk (LB st.lb c6 (PZ (tI l) x [])) (tI l) x) (Wl (LB st.lb c6 (PZ (tI l) x [])) st.lb c6))))
 | none=>.bad
def afQ (jY:List (Nat × Nat)):List (Nat × AV):=jY.map fun p=>(p.1,.ptr p.2 0)
def acB (st:St) (x:AV) (c6:List (Nat × bP)) (jY:List (Nat × Nat)) (l:List AV):Ren:=LB st.lb c6 (aaP st.sl (afQ jY) (PZ (tI l) x []))
def XW (T:List (Nat × TI)) (rs:List ResultVar) (st:St) (x:AV) (c6:List (Nat × bP)) (jY:List (Nat × Nat)):CT :=
 match xj T st rs with
 | some (l,_,ob)=>.two (Eo ob) (.two (.bb (Fp (acB st x c6 jY l)) true) (.two (Wk (acB st x c6 jY l) (tI l) x) (.two (acv (acB st x c6 jY l) st.sl (afQ jY)) (Wl (acB st x c6 jY l) st.lb c6))))
 | none=>.bad
def qQ (P:Program) (T:List (Nat × TI)) (nt:Nat) (rm:Nat) (md:Nat) (pr:List Nat) (todo:List Item) (st:St):Option (List Item × St × CT) :=
 match todo with
 | .code (.seq x y) :: k=>some (.code x :: .code y :: k,st,.nil)
 | .code .skip :: k=>some (k,st,.nil)
 | .code (.label _) :: k=>some (k,st,.nil)
 | .code (.cond (.const (.bool e)) x y) :: k=>some (.code (bif e then x else y) :: k,st,.nil)
 | .code (.block id c) :: k=>some (.code c :: .inBlock id :: k,st,.nil)
 | .inBlock _ :: k=>some (k,st,.nil)
 | .code (.exit id) :: k=>(match exitTo id k with | some k'=>some (k',st,.nil) | none=>none)
 | .code (.region _ ops draw) :: k=>(match rz P T nt ops draw none st [] with
  | some (st',ob)=>some (k,st'.keep (Nat.lor rm (mC k)),.two (.bb (Jg md pr ops) true) (Eo ob))
  | none=>none)
 | _=>none
def acC (c:Bool):AV→AV→AV
 | .d x,.d y=>.d (bif c then x else y)
 | x,y=>bif c then x else y
theorem acD (c:Bool) (x y:AV):acC c x y=bif c then x else y:=by
 unfold acC
 split
 ·cases c <;> rfl
 ·rfl
def SM (rm:Nat) (todo:List Item):Nat:=Nat.lor rm (mC todo)
def aaX (P:Program) (T:List (Nat × TI)) (nt:Nat) (rm:Nat) (md:Nat) (pr:List Nat):Nat→List Item→St→Option (List Item × St × CT)
 | 0,_,_=>none
 | n+1,todo,st=>(match todo with
  | .beginRound :: k=>some (.beginRound :: k,st,.nil)
  | todo=>(match qQ P T nt rm md pr todo st with
   | some (k,pW,c)=>(match aaX P T nt rm md pr n k pW with
    | some (k',st2,c')=>some (k',st2,.two c c')
    | none=>none)
   | none=>none))
def aaY (P:Program) (T:List (Nat × TI)) (nt:Nat) (rm:Nat) (md:Nat) (pr:List Nat) (n:Nat) (todo:List Item) (st:St):St:=match aaX P T nt rm md pr n todo st with | some (_,st2,_)=>st2 | none=>⟨[],[]⟩
def afR (P:Program) (T:List (Nat × TI)) (nt:Nat) (rm:Nat) (md:Nat) (pr:List Nat) (n:Nat) (todo:List Item) (st:St) (k:List Item):CT:=match aaX P T nt rm md pr n todo st with | some (k',_,c)=>.two c (.td k' k) | none=>.bad
def mxf (m:List (Int × Int)):Nat→Value × D:=fun i=>(.int .i64 (m.getD i default).1,.v (.int .i64 (m.getD i default).2))
def rl (P:Program) (T:List (Nat × TI)) (nt:Nat) (rs:List ResultVar) (rm:Nat) (md:Nat) (pr:List Nat):Nat→{α:Type}→List Item→St→(α→aaW)→Sk α→CT
 | 0,_,_,_,_,_=>.bad
 | n+1,_,todo,st,L,sk =>
  match sk with
  | .op κ k=>(match look st.lb κ with
   | some .mx=>.pi fun m=>rl P T nt rs rm md pr n todo ⟨st.sl,(κ,.mp m.length (mxf m)) :: aY [κ] st.lb⟩ L (k m)
   | _=>.bad)
  | .cl κ m k=>(match look st.lb κ with
   | some (.mp q f)=>.two (.nn q m.length) (.two (.mm f (mxf m)) (rl P T nt rs rm md pr n todo ⟨st.sl,(κ,.mx) :: aY [κ] st.lb⟩ L k))
   | _=>.bad)
  | .PY id x c k=>(match todo with
   | .code (.region i ops false) :: K=>bif Nat.beq i id then (match aaK ops with
    | some (ts,ti,ty,d1,d2,d3)=>(match St.get st.sl ts,St.get st.sl ti,look T ty with
     | .own κ m,.d (.v (.int .i64 xx)),some { kind:=.slice e',.. }=>(match look st.lb κ,look T e' with
      | some (.row e q m2 f),some i=>.two (.bb (Nat.ble (d1+1) nt&&Nat.ble (d2+1) nt&&Nat.ble (d3+1) nt&&Jg md pr ops&&Nat.beq e e'&&Nat.beq q i.size&&i.zero.all Bb&&!Nat.beq ts d1&&!Nat.beq ts d2&&!Nat.beq ts d3) true)
        (.two (.zz xx x) (.two (.nn m m2) (.two (.nn m c.n) (.two (.ff (xQ xx.toNat f i.zero) c.f)
        (rl P T nt rs rm md pr n K (St.keep (Nat.lor rm (mC K)) ⟨(ts,.own κ c.n') :: aY [ts,d1,d2,d3] st.sl,(κ,.row e q c.n' c.f') :: aY [κ] st.lb⟩) L k)))))
      | _,_=>.bad)
     | _,_,_=>.bad)
    | none=>.bad)
    else (match qQ P T nt rm md pr (.code (.region i ops false) :: K) st with | some (k0,pW,c0)=>.two c0 (rl P T nt rs rm md pr n k0 pW L (.PY id x c k)) | none=>.bad)
   | todo=>(match qQ P T nt rm md pr todo st with | some (k0,pW,c0)=>.two c0 (rl P T nt rs rm md pr n k0 pW L (.PY id x c k)) | none=>.bad))
  | .wi t a b k=>.two (.vv (St.get st.sl t) (.d (.v (.int .i64 a)))) (rl P T nt rs rm md pr n todo ⟨(t,.d (.v (.int .i64 b))) :: aY [t] st.sl,st.lb⟩ L k)
  | .GJ t j m k=>(match TZ st t j with
   | some q=>.two (.nn q m) (rl P T nt rs rm md pr n todo st L k)
   | none=>.bad)
  | .wn κ a b k=>.two (aaT κ a st.sl) (.two (ID κ a b st.lb) (rl P T nt rs rm md pr n todo ⟨acz κ b st.sl,N9 κ b st.lb⟩ L k))
  | .dead _=>.nil
  | .VM t m k1 k2=>(match St.get st.sl t with
   | .d (.sl q f)=>.two (.nn q m) (.two (rl P T nt rs rm md pr n todo ⟨(t,.d (.v (.slice none 0 0))) :: aY [t] st.sl,st.lb⟩ L k1) (rl P T nt rs rm md pr n todo ⟨(t,.Br q f) :: aY [t] st.sl,st.lb⟩ L k2))
   | _=>.bad)
  | .fz κ k=>(match look st.lb κ with
   | some (.row _ _ q f)=>.two (XT κ q st.sl) (.two (XU κ q st.lb) (rl P T nt rs rm md pr n todo ⟨aaV κ f st.sl,Wo κ f st.lb⟩ L k))
   | _=>.bad)
  | .mr m V init u v b k=>(match todo with
   | .code (.loop c) :: K=>(match qP c with
    | some (ops,l)=>(match Wp ops with
     | some (it,d1,d2)=>bif Nat.ble (d1+1) nt&&Nat.ble (d2+1) nt&&Jg md pr ops then
       .two (N8 st (st.E3 (Nat.lor rm (mC (.inLoop c :: K))) (u init [])))
       (.two (.pi fun g=>.pi fun s=>(match St.get (st.E3 (Nat.lor rm (mC (.inLoop c :: K))) (u g s)).sl it with
        | .ptr κi 0=>(match look (st.E3 (Nat.lor rm (mC (.inLoop c :: K))) (u g s)).lb κi with
         | some (.it κ m1 s1)=>(match look (st.E3 (Nat.lor rm (mC (.inLoop c :: K))) (u g s)).lb κ with
          | some (.mp m2 _)=>.two (.nn m1 m) (.two (.nn m2 m) (.two (.ss s1 s) (.two
            (N8 (LH (st.E3 (Nat.lor rm (mC (.inLoop c :: K))) (u g s)) d1 d2 it) ((LH st d1 d2 it).E3 (Nat.lor rm (mC (l++.inLoop c :: K))) (v g)))
            (.pi fun i=>rl P T nt rs rm md pr n (l++.inLoop c :: K) (Wq (st.E3 (Nat.lor rm (mC (.inLoop c :: K))) (u g s)) d1 d2 κi κ m i s) (fun g'=>.go (.inLoop c :: K) (st.E3 (Nat.lor rm (mC (.inLoop c :: K))) (u g' (i :: s)))) (b g i)))))
          | _=>.bad)
         | _=>.bad)
        | _=>.bad))
       (.pi fun g=>rl P T nt rs rm md pr n (l++.inLoop c :: K) ((LH st d1 d2 it).E3 (Nat.lor rm (mC (l++.inLoop c :: K))) (v g)) L (k g))) else .bad
     | none=>.bad)
    | none=>.bad)
   | todo=>(match qQ P T nt rm md pr todo st with | some (k0,pW,c)=>.two c (rl P T nt rs rm md pr n k0 pW L (.mr m V init u v b k)) | none=>.bad))
  | .KF x=>(match todo with
   | .code (.cond (.tmp c) p _) :: k=>.two (.vv (St.get st.sl c) (.d (.v (.bool true)))) (rl P T nt rs rm md pr n (.code p :: k) st L x)
   | todo=>(match qQ P T nt rm md pr todo st with | some (k,pW,c)=>.two c (rl P T nt rs rm md pr n k pW L (.KF x)) | none=>.bad))
  | .Dz x=>(match todo with
   | .code (.cond (.tmp c) _ q) :: k=>.two (.vv (St.get st.sl c) (.d (.v (.bool false)))) (rl P T nt rs rm md pr n (.code q :: k) st L x)
   | todo=>(match qQ P T nt rm md pr todo st with | some (k,pW,c)=>.two c (rl P T nt rs rm md pr n k pW L (.Dz x)) | none=>.bad))
  | .XQ t c x y k1 k2=>.two (.vv (St.get st.sl t) (acC c x y)) (.two (rl P T nt rs rm md pr n todo ⟨(t,x) :: aY [t] st.sl,st.lb⟩ L k1) (rl P T nt rs rm md pr n todo ⟨(t,y) :: aY [t] st.sl,st.lb⟩ L k2))
  | .fin a=>(match L a with
   | .go Lr st'=>bif Nat.beq todo.length Lr.length then .two (.td todo Lr) (N8 st st') else
     (match qQ P T nt rm md pr todo st with | some (k,pW,c)=>.two c (rl P T nt rs rm md pr n k pW L (.fin a)) | none=>.bad)
   | .brk id st'=>(match todo with
    | .code (.exit id') :: k=>bif Nat.beq id id'&&(exitTo id' k).isNone then N8 st st' else
     (match qQ P T nt rm md pr (.code (.exit id') :: k) st with | some (k,pW,c)=>.two c (rl P T nt rs rm md pr n k pW L (.fin a)) | none=>.bad)
    | todo=>(match qQ P T nt rm md pr todo st with | some (k,pW,c)=>.two c (rl P T nt rs rm md pr n k pW L (.fin a)) | none=>.bad))
   | .ret x c6=>(match todo with
    | []=>acA T rs st x c6
    | .code .ret :: _=>acA T rs st x c6
    | todo=>(match qQ P T nt rm md pr todo st with | some (k,pW,c)=>.two c (rl P T nt rs rm md pr n k pW L (.fin a)) | none=>.bad))
   | .Y8 x c6 jY=>(match todo with
    | []=>XW T rs st x c6 jY
    | .code .ret :: _=>XW T rs st x c6 jY
    | todo=>(match qQ P T nt rm md pr todo st with | some (k,pW,c)=>.two c (rl P T nt rs rm md pr n k pW L (.fin a)) | none=>.bad)))
  | .br e x y=>(match todo with
   | .code (.cond (.tmp c) p q) :: k=>.two (.vv (St.get st.sl c) (.d (.v (.bool e)))) (.two (rl P T nt rs rm md pr n (.code p :: k) st L x) (rl P T nt rs rm md pr n (.code q :: k) st L y))
   | todo=>(match qQ P T nt rm md pr todo st with | some (k,pW,c)=>.two c (rl P T nt rs rm md pr n k pW L (.br e x y)) | none=>.bad))
  | .r id cl kk=>(match todo with
   | .code (.region i ops draw) :: k=>bif Nat.beq i id then
     .pi fun x=>(match rz P T nt ops draw none st (cl.kX x) with
      | some (st',ob)=>.two (.bb (Jg md pr ops) true) <| .two ob.eqs (.two (.po ob.prop (cl.kV x)) (rl P T nt rs rm md pr n k (st'.keep (Nat.lor rm (mC k))) L (kk x)))
      | none=>.bad)
    else (match qQ P T nt rm md pr (.code (.region i ops draw) :: k) st with | some (k,pW,c)=>.two c (rl P T nt rs rm md pr n k pW L (.r id cl kk)) | none=>.bad)
   | todo=>(match qQ P T nt rm md pr todo st with | some (k,pW,c)=>.two c (rl P T nt rs rm md pr n k pW L (.r id cl kk)) | none=>.bad))
  | .bind true J s u kk=>(match todo with
   | .code (.block id c) :: k=>.two (rl P T nt rs rm md pr n (.code c :: .inBlock id :: k) st (fun q=>match q with | .inl a=>L a | .inr b=>.go k (st.E3 (Nat.lor rm (mC k)) (u b))) s) (.pi fun b=>rl P T nt rs rm md pr n k (st.E3 (Nat.lor rm (mC k)) (u b)) L (kk b))
   | todo=>(match qQ P T nt rm md pr todo st with | some (k,pW,c)=>.two c (rl P T nt rs rm md pr n k pW L (.bind true J s u kk)) | none=>.bad))
  | .bind false J s u kk=>(match todo with
   | .code (.cond (.tmp c) p q) :: k=>.two (rl P T nt rs rm md pr n (.code (.cond (.tmp c) p q) :: k) st (fun q=>match q with | .inl a=>L a | .inr b=>.go k (st.E3 (Nat.lor rm (mC k)) (u b))) s) (.pi fun b=>rl P T nt rs rm md pr n k (st.E3 (Nat.lor rm (mC k)) (u b)) L (kk b))
   | todo=>(match qQ P T nt rm md pr todo st with | some (k,pW,c)=>.two c (rl P T nt rs rm md pr n k pW L (.bind false J s u kk)) | none=>.bad))
  | .loop d I m i0 u b=>(match todo with
   | .code (.loop c) :: k=>.two (N8 st (st.E3 (Nat.lor rm (mC (.inLoop c :: k))) (u i0))) (.pi fun i=>rl P T nt rs rm md pr n (.code c :: .inLoop c :: k) (st.E3 (Nat.lor rm (mC (.inLoop c :: k))) (u i)) (fun q=>match q with | .inl a=>L a | .inr j=>.go (.inLoop c :: k) (st.E3 (Nat.lor rm (mC (.inLoop c :: k))) (u j))) (b i))
   | todo=>(match qQ P T nt rm md pr todo st with | some (k,pW,c)=>.two c (rl P T nt rs rm md pr n k pW L (.loop d I m i0 u b)) | none=>.bad))
  | .rf it I B id s0 u v b kk=>(match todo with
   | .code (.rangeFunc (.tmp t) ps Q6 body) :: k =>
     .two (.bb (Nat.beq md 0) true) <|
     .two (.vv (St.get (uL (SM rm todo) (aY [] st.sl)) t) (.fn it.gf it.cY)) <|
     .two (.bb (wX.pF it.cY) true) <|
     .two (.po (some (Y9 P it.gf it.cY (it.ys.map it.enc))) (some (Y9 it.P it.gf it.cY (it.ys.map it.enc)))) <|
     .two (.bb (We nt ((uL (SM rm todo) (aY [] st.sl)).map (·.1)) ps.toList) true) <|
     .two (N8 st (st.E3 (SM rm todo) ⟨[],u s0⟩)) <|
     .two (.pi fun y=>.nn ps.toList.length (it.enc y).length) <|
     .two (.pi fun s=>.pi fun y=>.two
      (afR P T nt (SM rm todo) 1 ((uL (SM rm todo) (aY [] st.sl)).map (·.1)) n [.code Q6,.beginRound,.code body] ⟨AZ ps.toList (it.enc y)++uL (SM rm todo) (aY [] st.sl),(st.E3 (SM rm todo) ⟨[],u s⟩).lb⟩ [.beginRound,.code body])
      (rl P T nt rs (SM rm todo) 1 ((uL (SM rm todo) (aY [] st.sl)).map (·.1)) n [.code body] (aaY P T nt (SM rm todo) 1 ((uL (SM rm todo) (aY [] st.sl)).map (·.1)) n [.code Q6,.beginRound,.code body] ⟨AZ ps.toList (it.enc y)++uL (SM rm todo) (aY [] st.sl),(st.E3 (SM rm todo) ⟨[],u s⟩).lb⟩)
       (fun q=>match q with | .inl a=>.brk id (st.E3 (SM rm todo) ⟨[],v a⟩) | .inr j=>.go [] (st.E3 (SM rm todo) ⟨[],u j⟩)) (b s y))) <|
     .two (.pi fun s=>rl P T nt rs rm md pr n k (st.E3 (SM rm todo) ⟨[],u s⟩) L (kk (.inr s))) (.pi fun a=>rl P T nt rs rm md pr n (.code (.exit id) :: k) (st.E3 (SM rm todo) ⟨[],v a⟩) L (kk (.inl a)))
   | todo=>(match qQ P T nt rm md pr todo st with | some (k,pW,c)=>.two c (rl P T nt rs rm md pr n k pW L (.rf it I B id s0 u v b kk)) | none=>.bad))
section
variable {g : Goal}
theorem G.keep (m:Nat) {k:List Item} {st:St} (h:G g k (st.keep m)):G g k st:=.le (.keep m st) h
theorem XX (hn:g.Nrm) (hT:pk g.P g.T) (hf:g.P.funcs[g.f]? = some g.fn) {st:St} {x:AV} {c6:List (Nat × bP)} (h:(acA g.T g.fn.results.toList st x c6).ok) (hx:g.res=x) (hl:g.c6=c6):G g [] st∧∀ k,G g (.code .ret :: k) st:=by
 subst hx
 subst hl
 unfold acA at h
 split at h
 ·rename_i l ro ob hr
  split at h
  ·rename_i hl
   split at h
   ·rename_i l' PN E2 hb
    obtain ⟨h1,h2,h3⟩:=h
    obtain ⟨p,q1,q2⟩:=Fu _ _ h3
    have hle:uX (tI l') g.res:=fun w S μ ν v hv=>by
     exact (yQ (ρ:=[]) (tI l') g.res p q1 q2 v hv).mono (fun _ h=>h) (fun _ _=>rfl) (fun k y hk=>by simp [yO,look] at hk)
    exact G.ret hn hT hf hl hr (vS h1) hb (vS h2) hle
   ·exact h.elim
  ·obtain ⟨h1,h2,h3,h4⟩:=h
   obtain ⟨p,q1,q2⟩:=Fu _ _ h3
   obtain ⟨p',q3,q4⟩:=Fv h4
   exact G.ahi hn hT hf _ hr (vS h1) h2 q1 q2 q3 q4
 ·exact h.elim
theorem T2 {jY:List (Nat × Nat)} (hn:g.TN jY) (hT:pk g.P g.T) (hf:g.P.funcs[g.f]? = some g.fn) {st:St} {x:AV} {c6:List (Nat × bP)} (h:(XW g.T g.fn.results.toList st x c6 jY).ok) (hx:g.res=x) (hl:g.c6=c6):G g [] st∧∀ k,G g (.code .ret :: k) st:=by
 subst hx
 subst hl
 unfold XW at h
 split at h
 ·rename_i l ro ob hr
  obtain ⟨h1,h2,h3,h4,h5⟩:=h
  obtain ⟨p,q1,q2⟩:=Fu _ _ h3
  obtain ⟨p',q3,q4⟩:=Fv h5
  obtain ⟨p'',q5,q6⟩:=Rc h4
  exact G.Y8 hn hT hf _ hr (vS h1) h2 q1 q2 q3 q4 q5 q6
 ·exact h.elim
theorem gM (hT:pk g.P g.T) (hm:g.P.follows .mixedOrders=true) {rm:Nat} {todo k:List Item} {st st':St} {c:CT} (h:qQ g.P g.T g.nt rm g.md g.pr todo st=some (k,st',c)) (hc:c.ok) (hg:G g k st'):G g todo st:=by
 unfold qQ at h
 split at h
 ·simp only [Option.some.injEq,Prod.mk.injEq] at h; obtain ⟨rfl,rfl,-⟩:=h; exact .seq hg
 ·simp only [Option.some.injEq,Prod.mk.injEq] at h; obtain ⟨rfl,rfl,-⟩:=h; exact .skip hg
 ·simp only [Option.some.injEq,Prod.mk.injEq] at h; obtain ⟨rfl,rfl,-⟩:=h; exact .label hg
 ·simp only [Option.some.injEq,Prod.mk.injEq] at h; obtain ⟨rfl,rfl,-⟩:=h; exact .afx hg
 ·simp only [Option.some.injEq,Prod.mk.injEq] at h; obtain ⟨rfl,rfl,-⟩:=h; exact .block hg
 ·simp only [Option.some.injEq,Prod.mk.injEq] at h; obtain ⟨rfl,rfl,-⟩:=h; exact .inBlock hg
 ·split at h
  ·rename_i k' he
   simp only [Option.some.injEq,Prod.mk.injEq] at h; obtain ⟨rfl,rfl,-⟩:=h; exact .exit he hg
  ·cases h
 ·split at h
  ·rename_i pW ob hr
   simp only [Option.some.injEq,Prod.mk.injEq] at h
   obtain ⟨rfl,rfl,rfl⟩:=h
   exact .region hT hm hc.1 hr (vS hc.2) (.keep _ hg)
  ·cases h
 ·cases h
theorem NV.put {st:St} (t:Nat) {x y:AV} (hx:St.get st.sl t=x) (h:uX x y):NV st ⟨(t,y) :: aY [t] st.sl,st.lb⟩:=by
 rintro C a w ⟨S,μ,hs⟩
 refine ⟨S,μ,fun ν=>(hs ν).weaken (fun u v hv=>?_) (fun κ b hb=>⟨b,hb,fun _ h=>h⟩)⟩
 simp only [St.gL] at hv ⊢
 rw [KA]
 split
 ·rename_i e
  subst e
  rw [hx] at hv
  exact h _ _ _ _ _ hv
 ·exact hv
theorem Fw {C:Cx} {A:M} {a:Act} {w:World} {S:Nat→Prop} {μ:Mu} {ν:Nat→Bool} {lb:List (Nat × bP)} (hs:dG C A a w S μ ν) (hA:A.lb=look lb) {x:AV} {v:Value} {q:Nat} (h:P4 lb x=some q) (hr:Rel w S μ ν x v):q≤maxLen:=by
 unfold P4 at h
 split at h
 ·simp only [Option.some.injEq] at h
  subst h
  cases jX.1 hr with
  | nil=>simp [maxLen]
  | sl _ _ _ _ _ _ hc hm=>omega
 ·rename_i κ n
  split at h
  ·rename_i e k q' f hl
   simp only [Option.some.injEq] at h
   subst h
   have hm:=hs.mem κ _ (by rw [hA]; exact hl)
   cases hμ:μ κ with
   | none=>rw [hμ] at hm; exact hm.elim
   | some y =>
    rw [hμ] at hm
    cases y with
    | none=>have:q'=0:=hm; simp [this]
    | some gc =>
     obtain ⟨g,c⟩:=gc
     obtain ⟨cur,_,_,_,q4,q5,_⟩:=hm.at
     omega
  ·cases h
 ·cases h
theorem dG.T3 {C:Cx} {A B:M} {a:Act} {w:World} {S:Nat→Prop} {μ:Mu} {ν:Nat→Bool} (h:dG C A a w S μ ν) (VG:∀ t,B.sl t=A.sl t) (VI:∀ κ b',B.lb κ=some b'→∃ b,A.lb κ=some b∧(jr w S μ b (μ κ)→jr w S μ b' (μ κ))):dG C B a w S μ ν:=by
 refine ⟨h.tmps,h.defers,fun t=>by rw [VG]; exact h.fa t,fun κ b hb=>?_,fun κ κ' b b' g c c' hb pn hm Bt=>?_,fun κ b g c hb hm=>?_,h.fU,h.fresh,h.bound,h.kept⟩
 ·obtain ⟨d,h1,h2⟩:=VI κ b hb
  exact h2 (h.mem κ d h1)
 ·obtain ⟨d,h1,_⟩:=VI κ b hb
  obtain ⟨d',h1',_⟩:=VI κ' b' pn
  exact h.inj κ κ' d d' g c c' h1 h1' hm Bt
 ·obtain ⟨d,h1,_⟩:=VI κ b hb
  exact h.own κ d g c h1 hm
theorem adv (st:St) (κ:Nat) (b:bP) (k:Nat):(St.gL ⟨st.sl,(κ,b) :: aY [κ] st.lb⟩).lb k=if κ=k then some b else st.gL.lb k:=by
 simp only [St.gL,ca,nI]
 split
 ·rfl
 ·rename_i h
  rw [if_neg (by simp; exact fun e=>h e.symm)]
theorem G.cl {g:Goal} {k:List Item} {st:St} {κ n:Nat} {f:Nat→Value × D} {m:List (Int × Int)} (hl:look st.lb κ=some (.mp n f)) (hn:n=m.length) (hf:f=mxf m) (h:G g k ⟨st.sl,(κ,.mx) :: aY [κ] st.lb⟩):G g k st:=by
 subst hn
 subst hf
 refine .le (fun C a w hs=>?_) h
 obtain ⟨S,μ,hs⟩:=hs
 refine ⟨S,μ,fun ν=>(hs ν).T3 (fun _=>rfl) (fun κ' b' hb=>?_)⟩
 rw [adv] at hb
 split at hb
 ·rename_i e
  subst e
  simp only [Option.some.injEq] at hb
  subst hb
  refine ⟨_,hl,fun hy=>?_⟩
  generalize μ κ=y at hy ⊢
  match y,hy with
  | some (some (g,c)),hy=>exact ⟨m,hy⟩
 ·exact ⟨b',hb,fun h=>h⟩
theorem G.op {g:Goal} {k:List Item} {st:St} {κ:Nat} (hl:look st.lb κ=some .mx) (h:∀ m,G g k ⟨st.sl,(κ,.mp m.length (mxf m)) :: aY [κ] st.lb⟩):G g k st:=by
 intro C h1 h2 a w VK hs
 obtain ⟨S,μ,hs⟩:=hs
 have hm:=(hs fun _=>false).mem κ _ hl
 obtain ⟨m,Bt⟩:∃ m:List (Int × Int),jr w S μ (.mp m.length (mxf m)) (μ κ):=by
  generalize μ κ=y at hm ⊢
  match y,hm with
  | some (some (g,c)),hm=>obtain ⟨m,hm⟩:=hm; exact ⟨m,hm⟩
 refine h m C h1 h2 a w VK ⟨S,μ,fun ν=>(hs ν).T3 (fun _=>rfl) (fun κ' b' hb=>?_)⟩
 rw [adv] at hb
 split at hb
 ·rename_i e
  subst e
  simp only [Option.some.injEq] at hb
  subst hb
  exact ⟨_,hl,fun _=>Bt⟩
 ·exact ⟨b',hb,fun h=>h⟩
theorem G.TZ {k:List Item} {st:St} {t j q:Nat} (h:TZ st t j=some q) (hg:q≤maxLen→G g k st):G g k st:=by
 intro C h1 h2 a w VK hs
 have G1:=hs
 obtain ⟨S,μ,dy⟩:=hs
 refine hg ?_ C h1 h2 a w VK G1
 have hs:=dy fun _=>false
 have hr:=hs.fa t
 simp only [St.gL] at hr
 unfold Go.Av.TZ at h
 split at h
 ·rename_i κ o hx
  split at h
  ·rename_i cs hl
   rw [Bool.cond_eq_ite] at h
   split at h
   ·rename_i hj
    have hj:=Nat.le_of_ble_eq_true hj
    rw [hx] at hr
    generalize a.tmps.getD t undef=v at hr
    cases hr with
    | ptr hμ =>
     have hm:=hs.mem κ _ hl
     rw [hμ] at hm
     obtain ⟨cur,e,_,_,kN,hc⟩:=hm.at
     obtain ⟨x,_,hx⟩:=hc j hj
     exact Fw hs rfl h (hx fun _=>false)
   ·cases h
  ·cases h
 ·rename_i cs hx
  rw [Bool.cond_eq_ite] at h
  split at h
  ·rename_i hj
   have hj:=Nat.le_of_ble_eq_true hj
   rw [hx] at hr
   generalize a.tmps.getD t undef=v at hr
   cases hr with
   | ref ef cC hh=>exact Fw hs rfl h (.d (hh j hj))
  ·cases h
 ·rename_i cs hx
  rw [Bool.cond_eq_ite] at h
  split at h
  ·rename_i hj
   have hj:=Nat.le_of_ble_eq_true hj
   rw [hx] at hr
   generalize a.tmps.getD t undef=v at hr
   cases jX.1 hr with
   | agg _ vs hl hh=>exact Fw hs rfl h (.d (hh j hj))
  ·cases h
 ·exact Fw hs rfl h hr
theorem G.VM {k:List Item} {st:St} {t n:Nat} {f:Nat→List D} (ht:St.get st.sl t=.d (.sl n f)) (h1:n=0→G g k ⟨(t,.d (.v (.slice none 0 0))) :: aY [t] st.sl,st.lb⟩) (h2:G g k ⟨(t,.Br n f) :: aY [t] st.sl,st.lb⟩):G g k st:=by
 intro C c1 c2 a w VK hs
 obtain ⟨S,μ,dy⟩:=hs
 have hr:=(dy fun _=>false).fa t
 simp only [St.gL,ht] at hr
 have put:∀ y:AV,(∀ ν,Rel w S μ ν y (a.tmps.getD t undef))→kW C ⟨(t,y) :: aY [t] st.sl,st.lb⟩ a w:=fun y hy=>by
  refine ⟨S,μ,fun ν=>?_⟩
  have h:=dy ν
  refine ⟨h.tmps,h.defers,fun u=>?_,h.mem,h.inj,h.own,h.fU,h.fresh,h.bound,h.kept⟩
  simp only [St.gL]
  rw [KA]
  split
  ·rename_i e
   subst e
   exact hy ν
  ·exact h.fa u
 cases hv:a.tmps.getD t undef with
 | slice ad m cap =>
  rw [hv] at hr
  cases ad with
  | none =>
   cases jX.1 hr with
   | nil=>exact h1 rfl C c1 c2 a w VK (put _ (fun ν=>by rw [hv]; exact iJ rfl))
  | some ad=>exact h2 C c1 c2 a w VK (put _ (fun ν=>by rw [hv]; exact .Br (jX.1 hr)))
 | _=>rw [hv] at hr; cases jX.1 hr
theorem G.qP:∀ {c:Code} {ops:Array Oper} {l K:List Item} {st:St},Go.Av.qP c=some (ops,l)→(∀ id,G g (.code (.region id ops false) :: (l++K)) st)→G g (.code c :: K) st
 | .seq x y,ops,l,K,st,h,hg=>by
  simp only [Go.Av.qP] at h
  split at h
  ·rename_i ahz l' hx
   simp only [Option.some.injEq,Prod.mk.injEq] at h
   obtain ⟨rfl,rfl⟩:=h
   exact .seq (G.qP hx (fun id=>by have:=hg id; rwa [List.append_assoc] at this))
  ·cases h
 | .region id ahz false,ops,l,K,st,h,hg=>by
  simp only [Go.Av.qP,Option.some.injEq,Prod.mk.injEq] at h
  obtain ⟨rfl,rfl⟩:=h
  exact hg id
 | .region _ _ true,_,_,_,_,h,_=>by simp [Go.Av.qP] at h
 | .skip,_,_,_,_,h,_=>by simp [Go.Av.qP] at h
 | .cond ..,_,_,_,_,h,_=>by simp [Go.Av.qP] at h
 | .block ..,_,_,_,_,h,_=>by simp [Go.Av.qP] at h
 | .loop ..,_,_,_,_,h,_=>by simp [Go.Av.qP] at h
 | .rangeFunc ..,_,_,_,_,h,_=>by simp [Go.Av.qP] at h
 | .exit ..,_,_,_,_,h,_=>by simp [Go.Av.qP] at h
 | .scope ..,_,_,_,_,h,_=>by simp [Go.Av.qP] at h
 | .label ..,_,_,_,_,h,_=>by simp [Go.Av.qP] at h
 | .goto ..,_,_,_,_,h,_=>by simp [Go.Av.qP] at h
 | .ret,_,_,_,_,h,_=>by simp [Go.Av.qP] at h
 | .refuse ..,_,_,_,_,h,_=>by simp [Go.Av.qP] at h
theorem kW.afS {C:Cx} {st:St} {a:Act} {w:World} {S:Nat→Prop} {μ:Mu} (dy:∀ ν,dG C st.gL a w S μ ν) {d1 d2:Nat} (Z3:d1 < C.nt) (hd2:d2 < C.nt) (x:Value) (b:Bool) (ds:List Nat) (h1:d1∈ds) (h2:d2∈ds) :
  ∀ ν,dG C (St.gL ⟨(d2,.d (.v (.bool b))) :: aY ds st.sl,st.lb⟩) ((a.put (some d1) x).put (some d2) (.bool b)) w S μ ν:=fun ν=>by
 have h:=dy ν
 refine ⟨by simp [Act.put,h.tmps],h.defers,fun u=>?_,h.mem,h.inj,h.own,h.fU,h.fresh,h.bound,h.kept⟩
 simp only [St.gL,St.get,ca]
 by_cases c2:d2=u
 ·subst c2
  simp only [if_true,Act.put]
  rw [iX _ _ _ (by simp [h.tmps]; exact hd2)]
  exact iJ rfl
 ·simp only [c2,if_false,nI]
  split
  ·rename_i x hx
   split at hx
   ·cases hx
   ·rename_i hn
    have n1:u≠d1:=fun e=>hn (e ▸ h1)
    have n2:u≠d2:=fun e=>hn (e ▸ h2)
    simp only [Act.put]
    rw [dw _ _ _ _ n2,dw _ _ _ _ n1]
    have:=h.fa u
    simp only [St.gL,St.get,hx] at this
    exact this
  ·exact .any _
theorem G.next (hm:g.P.follows .mixedOrders=true) {K:List Item} {st:St} {id:Nat} {ops:Array Oper} {it d1 d2 κi κ n:Nat} {f:Nat→Value × D} {s:List Nat} (Wc:Jg g.md g.pr ops=true) (rB:Wp ops=some (it,d1,d2)) (Z3:d1 < g.nt) (hd2:d2 < g.nt)
  (hit:St.get st.sl it=.ptr κi 0) (NU:look st.lb κi=some (.it κ n s)) (hl:look st.lb κ=some (.mp n f))
  (yK:∀ i,i < n→i ∉ s→G g K (Wq st d1 d2 κi κ n i s)) (acn:(∀ i,i < n→i∈s)→G g K (LH st d1 d2 it)):G g (.code (.region id ops false) :: K) st:=by
 intro C c1 c2 a w VK hs
 suffices hw:wpOps C.P ops (fun e a' w'=>e=.normal∧((∃ i,i < n∧i ∉ s∧kW C (Wq st d1 d2 κi κ n i s) a' w')∨((∀ i,i < n→i∈s)∧kW C (LH st d1 d2 it) a' w'))) (List.range ops.size) a w by
  rw [c1] at hw
  refine G.ops hm Wc VK (.inl ⟨rfl,hw⟩) (fun a' w' gZ yJ=>?_)
  rcases yJ with ⟨i,hi,hn,yJ⟩ | ⟨he,yJ⟩
  ·exact yK i hi hn C c1 c2 a' w' gZ yJ
  ·exact acn he C c1 c2 a' w' gZ yJ
 obtain ⟨S,μ,dy⟩:=hs
 have h0:=dy fun _=>false
 rw [← c2] at Z3 hd2
 unfold Wp at rB
 split at rB
 ·rename_i o1 o2 hol
  split at rB
  ·rename_i it' Z4 e1 d2' q1 q2 q3 q4 q5 q6
   rw [Bool.cond_eq_ite] at rB
   split at rB
   ·rename_i heq
    have heq:=Nat.eq_of_beq_eq_true heq
    subst heq
    simp only [Option.some.injEq,Prod.mk.injEq] at rB
    obtain ⟨rfl,rfl,rfl⟩:=rB
    have rB:ops = #[o1,o2]:=by cases ops; simpa using hol
    subst rB
    show wpOps C.P #[o1,o2] _ [0,1] a w
    have w1:∀ y,Region.wanted o1 y=true:=fun y=>by simp [Region.wanted,q3]
    have w2:∀ y,Region.wanted o2 y=true:=fun y=>by simp [Region.wanted,q6]
    have hr:=h0.fa it'
    simp only [St.gL,hit] at hr
    generalize ZZ:a.tmps.getD it' undef=iv at hr
    cases hr with
    | @ptr _ _ gi ci hμi =>
     have hmi:=h0.mem κi _ NU
     rw [hμi] at hmi
     have ahA:=hmi.at
     obtain ⟨mg,c,hμ,hgi,afq⟩:=ahA
     have N4:=h0.mem κ _ hl
     rw [hμ] at N4
     obtain ⟨cur,hg,uJ,kN,cC⟩:=N4.at
     have hev:a.eval (.tmp it')=.pointer (some ⟨gi,0,none⟩):=ZZ
     have adw:∀ x,x∈cur.toList→x.born < n:=fun x hx=>by
      obtain ⟨q,hq,rfl⟩:=List.getElem_of_mem hx
      have hqn:q < n:=by simpa [kN] using hq
      obtain ⟨e,y1,_,_,y4,_⟩:=cC q hqn
      have:cur.toList[q]=e:=by simpa using (Array.getElem?_eq_some_iff.1 y1).2
      rw [this,y4]; exact hqn
     have ext:∀ (a':Act) (w':World) (b:Bool) (rest:List Value),a'.eval (.tmp Z4)=.tuple (#[.bool b]++rest.toArray)→(execOp a'.eval o2).run C.P w'=.ok (.value (.bool b)) w':=fun a' w' b rest hh=>by
      simp [execOp,q4,hh,Instr.extract]
     have Zb:∀ (x:Value),(a.put (some Z4) x).eval (.tmp Z4)=x:=fun x=>by
      show (a.tmps.setIfInBounds Z4 x).getD Z4 undef=x
      exact iX _ _ _ (by rw [h0.tmps]; exact Z3)
     rcases run_next_at (P:=C.P) w o1.type gi mg n n s.reverse.toArray cur n hgi hg adw (Nat.le_refl _) with ⟨hz,iI⟩ | ⟨e,he,wd,hwd,iI⟩
     ·simp only [wpOps,List.getElem?_toArray,List.getElem?_cons_zero,List.getElem?_cons_succ,w1,w2,if_true]
      left
      unfold Oper.wp
      have hx:(execOp a.eval o1).run C.P w=.ok (.value (.tuple #[.bool false])) w:=by
       simp only [execOp,q1,hev,Sem.run_bind,iI,Result.andThen_ok,Sem.run_pure]
      rw [hx,Oper.upon_value,q2]
      left
      rw [ext (a.put (some Z4) (.tuple #[.bool false])) w false [] (by rw [Zb]; rfl),Oper.upon_value,q5]
      refine ⟨trivial,.inr ⟨fun i hi=>?_,⟨S,μ,kW.afS dy Z3 hd2 _ false [Z4,d2',it'] (by simp) (by simp)⟩⟩⟩
      have:∀ x,x∈cur.toList→x.born∈s:=fun x hx=>by
       have hz':leftOf cur s.reverse.toArray = #[]:=Array.eq_empty_of_size_eq_zero hz
       unfold leftOf at hz'
       rw [Array.filter_eq_empty_iff] at hz'
       have:=hz' x (by simpa using hx)
       simpa using this
      obtain ⟨e,y1,_,_,y4,_⟩:=cC i hi
      have hm:e∈cur.toList:=by
       have:=(Array.getElem?_eq_some_iff.1 y1)
       obtain ⟨gI,rfl⟩:=this
       simp
      have:=this e hm
      rwa [y4] at this
     ·simp only [wpOps,List.getElem?_toArray,List.getElem?_cons_zero,List.getElem?_cons_succ,w1,w2,if_true]
      left
      unfold Oper.wp
      have hx:(execOp a.eval o1).run C.P w=.ok (.value (.tuple #[.bool true,e.key,e.val])) (ChangeMaps.setBlock wd gi (.mapIter (some mg) n (s.reverse.toArray.push e.born) n)):=by
       simp only [execOp,q1,hev,Sem.run_bind,iI,Result.andThen_ok,Sem.run_pure]
      rw [hx,Oper.upon_value,q2]
      left
      rw [ext (a.put (some Z4) (.tuple #[.bool true,e.key,e.val])) _ true [e.key,e.val] (by rw [Zb]; rfl),Oper.upon_value,q5]
      have lu:e∈cur.toList∧e.born ∉ s:=by
       unfold leftOf at he
       simpa using he
      refine ⟨trivial,.inl ⟨e.born,adw e lu.1,lu.2,?_⟩⟩
      have ahB:Kept w wd (fun _=>False):=by
       rcases hwd with rfl | rfl
       ·exact Kept.refl _ _
       ·exact ⟨rfl,rfl,rfl,Nat.le_refl _,fun _ _ _=>rfl⟩
      have ahC:wd.heap[gi]? = some (.mapIter (some mg) n s.reverse.toArray n):=by rcases hwd with rfl | rfl <;> exact hgi
      have aaI:∀ ν,dG C st.gL a wd S μ ν:=fun ν=>(dy ν).world (fun _ x=>x) (fun _ x=>.inl x) ahB
      have ahD:ChangeMaps.setBlock wd gi (.mapIter (some mg) n (s.reverse.toArray.push e.born) n)=World.Ee wd gi (.mapIter (some mg) n (s.reverse.toArray.push e.born) n):=rfl
      rw [ahD]
      have TU:∀ ν,dG C (st.gL.set κi (some (.it κ n (e.born :: s)))) a (World.Ee wd gi (.mapIter (some mg) n (s.reverse.toArray.push e.born) n)) S μ ν:=fun ν=>(aaI ν).QW (b:=.it κ n s) NU hμi (vt gi _) ⟨mg,c,hμ,by rw [Kx _ ahC]; simp,afq⟩
      have lX:(St.gL ⟨st.sl,(κi,.it κ n (e.born :: s)) :: aY [κi] st.lb⟩)=st.gL.set κi (some (.it κ n (e.born :: s))):=by
       unfold St.gL M.set
       congr 1
       funext q
       rw [ca,nI]
       by_cases hq:κi=q
       ·subst hq; simp
       ·have:q ∉ [κi]:=by simp; exact fun e=>hq e.symm
        have QS:¬ q=κi:=fun e=>hq e.symm
        simp [hq,QS]
      exact ⟨S,μ,kW.afS (st:=⟨st.sl,(κi,.it κ n (e.born :: s)) :: aY [κi] st.lb⟩) (fun ν=>by rw [lX]; exact TU ν) Z3 hd2 _ true [Z4,d2'] (by simp) (by simp)⟩
   ·cases rB
  ·cases rB
 ·cases rB
theorem XY (hT:pk g.P g.T) (hm:g.P.follows .mixedOrders=true) {rm:Nat}:∀ (n:Nat) {todo k:List Item} {st st':St} {c:CT},aaX g.P g.T g.nt rm g.md g.pr n todo st=some (k,st',c)→c.ok→G g k st'→G g todo st
 | 0,_,_,_,_,_,h,_,_=>by cases h
 | n+1,todo,k,st,st',c,h,hc,hg=>by
  unfold aaX at h
  split at h
  ·simp only [Option.some.injEq,Prod.mk.injEq] at h
   obtain ⟨rfl,rfl,rfl⟩:=h
   exact hg
  ·split at h
   ·rename_i k1 pW c1 hs
    split at h
    ·rename_i k2 st2 c2 hr
     simp only [Option.some.injEq,Prod.mk.injEq] at h
     obtain ⟨rfl,rfl,rfl⟩:=h
     exact gM hT hm hs hc.1 (XY hT hm n hr hc.2 hg)
    ·cases h
   ·cases h
theorem yS:∀ (n:Nat) {g:Goal} (hT:pk g.P g.T) (hm:g.P.follows .mixedOrders=true) (hf:g.P.funcs[g.f]? = some g.fn) (hz:g.md=0→g.Nrm∧∀ {C C' b cs m},Reb C C'→g.Z C' b cs m→g.Z C b cs m) (rm:Nat) {α:Type} (todo:List Item) (st:St) (L:α→aaW) (sk:Sk α) (lp:α→Prop),
  (rl g.P g.T g.nt g.fn.results.toList rm g.md g.pr n todo st L sk).ok→sk.bC lp→(∀ a,a=sk.val→lp a→Wr g (L a))→G g todo st
 | 0,_,_,_,_,_,_,_,todo,st,L,sk,lp,h,_,_=>h.elim
 | n+1,g,hT,hm,hf,hz,rm,α,todo,st,L,sk,lp,h,ho,hL=>by
  have ih:=fun {α:Type}=>yS n hT hm hf hz rm (α:=α)
  unfold rl at h
  split at h
  ·-- op
   rename_i κ k
   split at h
   ·rename_i hl
    exact G.op hl fun m=>ih _ _ L (k m) lp (h m) (ho m).2 (fun a ha=>hL a (ha.trans (ho m).1))
   ·exact h.elim
  ·-- cl
   rename_i κ m k
   split at h
   ·rename_i q f hl
    obtain ⟨h1,h2,h3⟩:=h
    exact G.cl hl h1 h2 (ih _ _ L k lp h3 ho hL)
   ·exact h.elim
  ·-- PY
   rename_i id x c k
   split at h
   ·rename_i i ops K
    rw [Bool.cond_eq_ite] at h
    split at h
    ·split at h
     ·rename_i ts ti ty d1 d2 d3 AU
      split at h
      ·rename_i κ m xx e' _ _ _ _ hts hti Q9
       split at h
       ·rename_i e q m2 f ii hl he
        obtain ⟨h0,h1,h2,h3,h4,h5⟩:=h
        have h0:(Nat.ble (d1+1) g.nt&&Nat.ble (d2+1) g.nt&&Nat.ble (d3+1) g.nt&&Jg g.md g.pr ops&&Nat.beq e e'&&Nat.beq q ii.size&&ii.zero.all Bb&&!Nat.beq ts d1&&!Nat.beq ts d2&&!Nat.beq ts d3)=true:=h0
        simp only [Bool.and_eq_true,Bool.not_eq_true'] at h0
        obtain ⟨⟨⟨⟨⟨⟨⟨⟨⟨b1,b2⟩,b3⟩,b4⟩,b5⟩,b6⟩,b7⟩,b8⟩,b9⟩,b10⟩:=h0
        have h1:xx=x:=h1
        have h2:m=m2:=h2
        have h3:m=c.n:=h3
        have h4:xQ xx.toNat f ii.zero=c.f:=h4
        have b5:=Nat.eq_of_beq_eq_true b5
        have b6:=Nat.eq_of_beq_eq_true b6
        subst h1; subst h2; subst b5
        obtain ⟨⟨o1,o2⟩,o3⟩:=ho
        have ne:∀ d,Nat.beq ts d=false→¬ ts=d:=fun d hd e=>by rw [e,Nat.beq_refl] at hd; cases hd
        refine G.PY hT hm b4 AU (Nat.le_of_ble_eq_true b1) (Nat.le_of_ble_eq_true b2) (Nat.le_of_ble_eq_true b3) hts hti hl Q9 rfl he b6 b7 o1 (by rw [h3]; exact o2) (.le ?_ (.keep _ (ih _ _ L k lp h5 o3 hL)))
        have hcn:m=c.n':=h3.trans c.eq.1
        rintro C a w ⟨S,μ,dy⟩
        refine ⟨S,μ,fun ν=>(dy ν).weaken (fun t v hv=>?_) (fun κ' b' pn=>?_)⟩
        ·simp only [St.gL,St.get,ca,nI] at hv ⊢
         by_cases ht:ts=t
         ·subst ht
          simp only [if_true]
          rw [if_neg (by simp only [List.mem_cons,List.not_mem_nil,or_false,not_or]; exact ⟨ne _ b8,ne _ b9,ne _ b10⟩)] at hv
          simp only [St.get] at hts
          rw [hts,hcn] at hv
          exact hv
         ·have e1:(t∈[ts,d1,d2,d3])↔(t∈[d1,d2,d3]):=by
           rw [List.mem_cons]
           exact ⟨fun h=>h.elim (fun e=>absurd e.symm ht) (fun h=>h),.inr⟩
          simp only [ht,if_false,e1]
          exact hv
        ·simp only [St.gL,ca,nI] at pn ⊢
         by_cases hk:κ=κ'
         ·simp only [hk,if_true,Option.some.injEq] at pn ⊢
          subst pn
          refine ⟨_,rfl,fun y hy=>?_⟩
          rw [h4] at hy
          exact aaw hcn (fun i hi=>c.eq.2 i (by rw [← h3]; exact hi)) y hy
         ·simp only [hk,if_false] at pn ⊢
          exact ⟨b',pn,fun _ h=>h⟩
       ·exact h.elim
      ·exact h.elim
     ·exact h.elim
    ·split at h
     ·rename_i k0 pW c0 hs
      exact gM hT hm hs h.1 (ih _ _ L (.PY id x c k) lp h.2 ho hL)
     ·exact h.elim
   ·split at h
    ·rename_i k0 pW c0 hs
     exact gM hT hm hs h.1 (ih _ _ L (.PY id x c k) lp h.2 ho hL)
    ·exact h.elim
  ·-- wi
   rename_i t a b k
   obtain ⟨h1,h2⟩:=h
   obtain ⟨o1,o2⟩:=ho
   refine .le (NV.put t h1 (y:=.d (.v (.int .i64 b))) ?_) (ih _ _ L k lp h2 o2 hL)
   subst o1
   exact uX.rfl'
  ·-- GJ
   rename_i t j m k
   split at h
   ·rename_i q hq
    obtain ⟨h1,h2⟩:=h
    have h1:q=m:=h1
    subst h1
    exact G.TZ hq fun hb=>ih _ _ L k lp h2 (ho hb) hL
   ·exact h.elim
  ·-- wn
   rename_i κ a b k
   obtain ⟨h1,h2,h3⟩:=h
   obtain ⟨o1,o2⟩:=ho
   subst o1
   rw [XS h1,C8 h2] at h3
   exact ih _ _ L k lp h3 o2 hL
  ·exact (ho:False).elim
  ·-- VM
   rename_i t m k1 k2
   split at h
   ·rename_i q f hq
    obtain ⟨h1,h2,h3⟩:=h
    have h1:q=m:=h1
    subst h1
    refine G.VM hq (fun h0=>?_) (ih _ _ L k2 lp h3 ho.2 hL)
    exact ih _ _ L k1 lp h2 (ho.1 h0).1 (fun a ha=>hL a (by rw [ha,(ho.1 h0).2]; rfl))
   ·exact h.elim
  ·-- fz
   rename_i κ k
   split at h
   ·rename_i e0 k0 q f hq
    exact .le (NV.fz hq h.1 h.2.1) (ih _ _ L k lp h.2.2 ho hL)
   ·exact h.elim
  ·-- mr
   rename_i γ m V init u v b k
   split at h
   ·rename_i c K
    split at h
    ·rename_i ops l hh
     split at h
     ·rename_i it d1 d2 hn
      rw [Bool.cond_eq_ite] at h
      split at h
      ·rename_i hb
       simp only [Bool.and_eq_true] at hb
       have Z3:=Nat.le_of_ble_eq_true hb.1.1
       have hd2:=Nat.le_of_ble_eq_true hb.1.2
       obtain ⟨h1,h2,h3⟩:=h
       obtain ⟨oi,ob,oc,o3⟩:=ho
       have hV:∀ g i,V g→i < m→V ((b g i).val):=fun g i hg hi=>(b g i).dk (ob g i hg hi).1
       have o1:∀ s:List Nat,s.Perm (List.range m)→s.foldr (fun i g=>(b g i).val) init=(List.range m).foldr (fun i g=>(b g i).val) init:=fun s hs=>Wm (f:=fun g i=>(b g i).val) hV oc oi hs (fun i hi=>List.mem_range.1 (hs.mem_iff.1 hi))
       have o2:∀ (s:List Nat) (i:Nat),(∀ j,j∈s→j < m)→i < m→(b (s.foldr (fun i g=>(b g i).val) init) i).bC fun _=>True:=fun s i hs hi=>(ob _ i (yR (f:=fun g i=>(b g i).val) hV oi s hs) hi).2
       have key:∀ (q:Nat) (s:List Nat),s.Nodup→(∀ j,j∈s→j < m)→m - s.length < q→G g (.code c :: .inLoop c :: K) (st.E3 (Nat.lor rm (mC (.inLoop c :: K))) (u (s.foldr (fun i g=>(b g i).val) init) s)):=by
        intro q
        induction q with
        | zero=>intro s _ _ gI; omega
        | succ q ihq =>
         intro s hnd gI hq
         have h2:=h2 (s.foldr (fun i g=>(b g i).val) init) s
         dsimp only at h2
         split at h2
         ·rename_i κi hit
          split at h2
          ·rename_i κ m1 s1 NU
           split at h2
           ·rename_i m2 f hl
            obtain ⟨e1,e2,e3,e4,e5⟩:=h2
            have e1:m1=m:=e1
            have e2:m2=m:=e2
            have e3:s1=s:=e3
            subst e1; subst e2; subst e3
            refine G.qP hh (fun id=>G.next hm hb.2 hn Z3 hd2 hit NU hl (fun i hi hni=>?_) (fun rq=>?_))
            ·refine ih _ _ _ (b _ i) _ (e5 i) (o2 s1 i gI hi) (fun g' hg' _=>?_)
             subst hg'
             refine .inLoop (ihq (i :: s1) (List.nodup_cons.2 ⟨hni,hnd⟩) (fun j hj=>?_) ?_)
             ·rcases List.mem_cons.1 hj with rfl | hj
              ·exact hi
              ·exact gI j hj
             ·have hle:(i :: s1).length≤m2:=by
               have:=List.Nodup.length_le_of_subset (l₁:=i :: s1) (l₂:=List.range m2) (List.nodup_cons.2 ⟨hni,hnd⟩) (fun j hj=>by
                rcases List.mem_cons.1 hj with rfl | hj
                ·exact List.mem_range.2 hi
                ·exact List.mem_range.2 (gI j hj))
               simpa using this
              simp only [List.length_cons] at hle ⊢
              omega
            ·have hp:s1.Perm (List.range m2):=(List.perm_ext_iff_of_nodup hnd List.nodup_range).2 (fun j=>⟨fun hj=>List.mem_range.2 (gI j hj),fun hj=>rq j (List.mem_range.1 hj)⟩)
             refine .le (xl e4) ?_
             rw [o1 s1 hp]
             exact ih _ _ L (k _) lp (h3 _) (o3 _ rfl (yR (f:=fun g i=>(b g i).val) hV oi _ (fun i hi=>List.mem_range.1 hi))) hL
           ·exact h2.elim
          ·exact h2.elim
         ·exact h2.elim
       intro C c1 c2 a w VK hs
       exact (key (m+1) [] List.nodup_nil (fun j hj=>by cases hj) (by simp) C c1 c2 a w VK (xl h1 C a w hs)).step fun _ _=>.one stepR_loop
      ·exact h.elim
     ·exact h.elim
    ·exact h.elim
   ·split at h
    ·rename_i k0 pW c hs
     exact gM hT hm hs h.1 (ih _ _ L (.mr m V init u v b k) lp h.2 ho hL)
    ·exact h.elim
  ·-- KF
   rename_i x
   split at h
   ·exact .cond h.1 (fun _=>ih _ _ L x lp h.2 ho hL) (fun he=>by cases he)
   ·split at h
    ·rename_i k pW c hs
     exact gM hT hm hs h.1 (ih _ _ L (.KF x) lp h.2 ho hL)
    ·exact h.elim
  ·-- Dz
   rename_i x
   split at h
   ·exact .cond h.1 (fun he=>by cases he) (fun _=>ih _ _ L x lp h.2 ho hL)
   ·split at h
    ·rename_i k pW c hs
     exact gM hT hm hs h.1 (ih _ _ L (.Dz x) lp h.2 ho hL)
    ·exact h.elim
  ·-- XQ
   rename_i t c x y k1 k2
   obtain ⟨h1,h2,h3⟩:=h
   have h1:St.get st.sl t=acC c x y:=h1
   rw [acD] at h1
   cases c with
   | true=>exact .le (NV.put t h1 uX.rfl') (ih _ _ L k1 lp h2 (ho.1 rfl) hL)
   | false=>exact .le (NV.put t h1 uX.rfl') (ih _ _ L k2 lp h3 (ho.2 rfl) hL)
  ·-- fin
   rename_i a
   have Oa:=hL a rfl ho
   split at h
   ·rename_i Lr st' hl
    rw [hl] at Oa
    rw [Bool.cond_eq_ite] at h
    split at h
    ·obtain ⟨h1,h2⟩:=h
     have h1:todo=Lr:=h1
     subst h1
     exact .le (xl h2) Oa
    ·split at h
     ·rename_i k pW c hs
      exact gM hT hm hs h.1 (ih _ _ L (.fin a) lp h.2 ho hL)
     ·exact h.elim
   ·rename_i id st' hl
    rw [hl] at Oa
    split at h
    ·rename_i id' k
     rw [Bool.cond_eq_ite] at h
     split at h
     ·rename_i hb
      simp only [Bool.and_eq_true,Option.isNone_iff_eq_none] at hb
      obtain rfl:=Nat.eq_of_beq_eq_true hb.1
      exact .le (xl h) (Oa k hb.2)
     ·split at h
      ·rename_i k pW c hs
       exact gM hT hm hs h.1 (ih _ _ L (.fin a) lp h.2 ho hL)
      ·exact h.elim
    ·split at h
     ·rename_i k pW c hs
      exact gM hT hm hs h.1 (ih _ _ L (.fin a) lp h.2 ho hL)
     ·exact h.elim
   ·rename_i x c6 hl
    rw [hl] at Oa
    split at h
    ·exact (XX Oa.1 hT hf h Oa.2.1 Oa.2.2).1
    ·exact (XX Oa.1 hT hf h Oa.2.1 Oa.2.2).2 _
    ·split at h
     ·rename_i k pW c hs
      exact gM hT hm hs h.1 (ih _ _ L (.fin a) lp h.2 ho hL)
     ·exact h.elim
   ·rename_i x c6 jY hl
    rw [hl] at Oa
    split at h
    ·exact (T2 Oa.1 hT hf h Oa.2.1 Oa.2.2).1
    ·exact (T2 Oa.1 hT hf h Oa.2.1 Oa.2.2).2 _
    ·split at h
     ·rename_i k pW c hs
      exact gM hT hm hs h.1 (ih _ _ L (.fin a) lp h.2 ho hL)
     ·exact h.elim
  ·-- br
   rename_i e x y
   split at h
   ·rename_i c p q k
    obtain ⟨h1,h2,h3⟩:=h
    refine .cond h1 (fun he=>?_) (fun he=>?_)
    ·exact ih _ _ L x lp h2 (ho.1 he) (fun a ha=>hL a (by rw [ha]; simp [Sk.val,he]))
    ·exact ih _ _ L y lp h3 (ho.2 he) (fun a ha=>hL a (by rw [ha]; simp [Sk.val,he]))
   ·split at h
    ·rename_i k pW c hs
     exact gM hT hm hs h.1 (ih _ _ L (.br e x y) lp h.2 ho hL)
    ·exact h.elim
  ·-- r
   rename_i β id cl kk
   split at h
   ·rename_i i ops draw k
    rw [Bool.cond_eq_ite] at h
    split at h
    ·have h:=h cl.v
     dsimp only at h
     split at h
     ·rename_i st' ob hr
      obtain ⟨h0,h1,h2,h3⟩:=h
      have h2:ob.prop=cl.kV cl.v:=h2
      exact .region hT hm h0 hr (Ob.G3 h1 (fun p hp=>cl.pf ho.1 p (h2 ▸ hp))) (.keep _ (ih _ _ L (kk cl.v) lp h3 (ho.2 _ rfl cl.hp) hL))
     ·exact h.elim
    ·split at h
     ·rename_i k pW c hs
      exact gM hT hm hs h.1 (ih _ _ L (.r id cl kk) lp h.2 ho hL)
     ·exact h.elim
   ·split at h
    ·rename_i k pW c hs
     exact gM hT hm hs h.1 (ih _ _ L (.r id cl kk) lp h.2 ho hL)
    ·exact h.elim
  ·-- bind at a block
   rename_i β J s u kk
   split at h
   ·rename_i id c k
    obtain ⟨h1,h2⟩:=h
    refine .block (ih _ _ _ s _ h1 ho.1 (fun q hq hlq=>?_))
    cases q with
    | inl a=>exact hL a (by simp only [Sk.val,← hq,iY]) hlq
    | inr b=>exact ih _ _ L (kk b) lp (h2 b) (ho.2 b hq.symm hlq) (fun a ha=>hL a (by rw [ha]; simp only [Sk.val,← hq,iY]))
   ·split at h
    ·rename_i k pW c hs
     exact gM hT hm hs h.1 (ih _ _ L (.bind true J s u kk) lp h.2 ho hL)
    ·exact h.elim
  ·-- bind at a choice
   rename_i β J s u kk
   split at h
   ·rename_i c p q k
    obtain ⟨h1,h2⟩:=h
    refine ih _ _ _ s _ h1 ho.1 (fun q hq hlq=>?_)
    cases q with
    | inl a=>exact hL a (by simp only [Sk.val,← hq,iY]) hlq
    | inr b=>exact ih _ _ L (kk b) lp (h2 b) (ho.2 b hq.symm hlq) (fun a ha=>hL a (by rw [ha]; simp only [Sk.val,← hq,iY]))
   ·split at h
    ·rename_i k pW c hs
     exact gM hT hm hs h.1 (ih _ _ L (.bind false J s u kk) lp h.2 ho hL)
    ·exact h.elim
  ·-- loop
   rename_i ι d I m i0 u b
   split at h
   ·rename_i c k
    obtain ⟨h1,h2⟩:=h
    obtain ⟨o1,o2⟩:=ho
    have key:∀ (q:Nat) (i:ι),I i→m i < q→(∀ a,a=iter (fun i=>(b i).val) d q i→lp a→Wr g (L a))→G g (.code c :: .inLoop c :: k) (st.E3 (Nat.lor rm (mC (.inLoop c :: k))) (u i)):=by
     intro q
     induction q with
     | zero=>intro i _ gI; omega
     | succ q ihq =>
      intro i hi gI Oa
      refine ih _ _ _ (b i) _ (h2 i) (o2 i hi) (fun r hr hlr=>?_)
      cases r with
      | inl a=>exact Oa a (by simp only [iter,← hr]) hlr
      | inr j=>exact .inLoop (ihq j hlr.1 (by have:=hlr.2; omega) (fun a ha=>Oa a (by rw [ha]; simp only [iter,← hr])))
    intro C c1 c2 a w VK hs
    exact (key (m i0+1) i0 o1 (Nat.lt_succ_self _) hL C c1 c2 a w VK (xl h1 C a w hs)).step fun _ _=>.one stepR_loop
   ·split at h
    ·rename_i k pW c hs
     exact gM hT hm hs h.1 (ih _ _ L (.loop d I m i0 u b) lp h.2 ho hL)
    ·exact h.elim
  ·-- rf
   rename_i σ β Y it I B id s0 u v b kk
   split at h
   ·rename_i t ps Q6 body k
    obtain ⟨h1,h2,h3,h4,h5,h6,h7,h8,h9,h10⟩:=h
    obtain ⟨o1,o2,o3,o4⟩:=ho
    have hpr:g.md=0:=Nat.eq_of_beq_eq_true h1
    obtain ⟨hn,ahE⟩:=hz hpr
    have h4:some (Y9 g.P it.gf it.cY (it.ys.map it.enc))=some (Y9 it.P it.gf it.cY (it.ys.map it.enc)):=h4
    have hit:Y9 g.P it.gf it.cY (it.ys.map it.enc):=by rw [Option.some.inj h4]; exact it.pf o1
    have adx:=fun i s y hs hy=>(b s y).dk (o3 i s y hs hy).1
    generalize hmm:SM rm (Item.code (.rangeFunc (.tmp t) ps Q6 body) :: k)=mm at *
    refine G.rf hn ahE it.ys it.enc (fun s y=>(b s y).val) s0 I (uL mm (aY [] st.sl)) (fun s=>st.E3 mm ⟨[],u s⟩) (fun a=>st.E3 mm ⟨[],v a⟩) id
     (fun s y=>aaY g.P g.T g.nt mm 1 ((uL mm (aY [] st.sl)).map (·.1)) n [.code Q6,.beginRound,.code body] ⟨AZ ps.toList (it.enc y)++uL mm (aY [] st.sl),(st.E3 mm ⟨[],u s⟩).lb⟩)
     (fun _=>rfl) (fun _=>rfl) (xl h6) h2 h3 hit h5 (fun y _=>h7 y) o2 (fun i s y hs hy=>?_) (fun s y tm Z zs hy hg=>?_) (fun i s y tm Z zs hs hy hg=>?_) ?_
    ·have:=adx i s y hs hy
     show match (b s y).val with | .inl _=>True | .inr s'=>I (i+1) s'
     cases e:(b s y).val with
     | inl a=>trivial
     | inr s'=>rw [e] at this; exact this
    ·have h8:=(h8 s y).1
     unfold afR at h8
     unfold aaY at hg
     split at h8
     ·rename_i k' st2 c ha
      rw [ha] at hg
      have hk:k'=[.beginRound,.code body]:=h8.2
      subst hk
      exact XY (g:=g.round _ tm Z zs) hT hm n ha h8.1 hg
     ·exact h8.elim
    ·have h8:=(h8 s y).2
     refine yS n (g:=g.round _ tm Z zs) hT hm hf (fun e=>by cases e) mm _ _ _ (b s y) (iZ B (I (i+1))) h8 (o3 i s y hs hy).2 (fun q hq hlq=>?_)
     have hg:(match (b s y).val with | .inr s'=>G (g.round _ tm Z zs) [] (st.E3 mm ⟨[],u s'⟩) | .inl b=>∀ k',exitTo id k'=none→G (g.round _ tm Z zs) (.code (.exit id) :: k') (st.E3 mm ⟨[],v b⟩)):=hg
     cases q with
     | inl a=>rw [← hq] at hg; exact hg
     | inr j=>rw [← hq] at hg; exact hg
    ·have hr:=o4 _ rfl (P2 it.ys adx s0 o2)
     cases e:rA (fun s y=>(b s y).val) it.ys s0 with
     | inr s =>
      rw [e] at hr
      exact ih _ _ L (kk (.inr s)) lp (h9 s) hr (fun a ha=>hL a (by rw [ha]; simp only [Sk.val,e]))
     | inl a =>
      rw [e] at hr
      exact ih _ _ L (kk (.inl a)) lp (h10 a) hr (fun a' ha=>hL a' (by rw [ha]; simp only [Sk.val,e]))
   ·split at h
    ·rename_i k pW c hs
     exact gM hT hm hs h.1 (ih _ _ L (.rf it I B id s0 u v b kk) lp h.2 ho hL)
    ·exact h.elim
end
theorem gR.sk {P:Program} {T:List (Nat × TI)} (hT:pk P T) (hm:P.follows .mixedOrders=true) {f:FuncId} {fn:Func} {body:Code} {args:List AV} {c6:List (Nat × bP)} {α:Type} (enc:α→AV) (xR:α→List (Nat × bP)) (hf:P.funcs[f]? = some fn) (hb:fn.body=some body)
  (hc:(ga P f&&Nat.ble args.length fn.ntmps)=true) (n:Nat) (sk:Sk α) (h:rl P T fn.ntmps fn.results.toList (Dy fn.results.toList) 0 [] n [.code body] ⟨dJ 0 args,c6⟩ (fun a=>.ret (enc a) (xR a)) sk=(rl P T fn.ntmps fn.results.toList (Dy fn.results.toList) 0 [] n [.code body] ⟨dJ 0 args,c6⟩ (fun a=>.ret (enc a) (xR a)) sk).diag)
  (ho:sk.bC fun _=>True):gR P f args c6 (enc sk.val) (xR sk.val):=by
 simp only [Bool.and_eq_true] at hc
 refine gR.intro (T:=T) hf hb hc.1 (Nat.le_of_ble_eq_true hc.2) ?_
 exact yS n (g:=.of P T fn.ntmps f fn (enc sk.val) (xR sk.val)) hT hm hf (fun _=>⟨Goal.aaE,fun {_ _ b _ _} hr hz=>ZN.reb (b:=b) hr hz⟩) _ _ _ _ sk _ (CT.BP h) ho (fun a ha _=>by subst ha; exact ⟨Goal.aaE,rfl,rfl⟩)
def aen:List (Nat × Nat)→Nat→Nat
 | [],m=>m
 | (t,_) :: r,m=>Nat.lor (acx t) (aen r m)
theorem FnB.sk {P:Program} {T:List (Nat × TI)} (hT:pk P T) (hm:P.follows .mixedOrders=true) {f:FuncId} {fn:Func} {body:Code} {args:List AV} {c6:List (Nat × bP)} {α:Type} (enc:α→AV) (xR:α→List (Nat × bP)) (jY:List (Nat × Nat)) (hf:P.funcs[f]? = some fn) (hb:fn.body=some body)
  (hc:(ga P f&&Nat.ble args.length fn.ntmps&&jY.all fun p=>Nat.ble (p.1+1) args.length)=true) (n:Nat) (sk:Sk α) (h:rl P T fn.ntmps fn.results.toList (aen jY (Dy fn.results.toList)) 3 (jY.map (·.1)) n [.code body] ⟨dJ 0 args,c6⟩ (fun a=>.Y8 (enc a) (xR a) jY) sk=(rl P T fn.ntmps fn.results.toList (aen jY (Dy fn.results.toList)) 3 (jY.map (·.1)) n [.code body] ⟨dJ 0 args,c6⟩ (fun a=>.Y8 (enc a) (xR a) jY) sk).diag)
  (ho:sk.bC fun _=>True):FnB P f args c6 (enc sk.val) (xR sk.val) jY:=by
 simp only [Bool.and_eq_true,List.all_eq_true] at hc
 refine FnB.intro (T:=T) hf hb hc.1.1 (Nat.le_of_ble_eq_true hc.1.2) (fun p hp=>Nat.le_of_ble_eq_true (hc.2 p hp)) (fun tm=>?_)
 exact yS n (g:=.ofB P T fn.ntmps f fn (enc sk.val) (xR sk.val) jY tm) hT hm hf (fun h=>by cases h) _ _ _ _ sk _ (CT.BP h) ho (fun a ha _=>by subst ha; exact ⟨Goal.aci,rfl,rfl⟩)
instance {α β:Type} [Inhabited α]:Inhabited (Sum α β):=⟨.inl default⟩
abbrev iv (n:Int):AV:=.d (.v (.int .i64 n))
abbrev bv (b:Bool):AV:=.d (.v (.bool b))
abbrev sv (s:ByteArray):AV:=.d (.v (.string s))
abbrev av (cs:List D):AV:=.d (.agg cs)
abbrev lv {α:Type} [Inhabited α] (cells:α→List D) (l:List α):AV:=.d (nJ cells l)
abbrev nv:AV:=.d (.v (.slice none 0 0))
abbrev ow {α:Type} (κ:Nat) (l:List α):AV:=.own κ l.length
abbrev bw {α:Type} [Inhabited α] (e k:Nat) (cells:α→List D) (l:List α):bP:=.row e k l.length fun i=>cells (l.getD i default)
abbrev dI (n:Int):D:=.v (.int .i64 n)
abbrev dB (b:Bool):D:=.v (.bool b)
def ar (n:Int):Int:=IntKind.i64.wrap n
def eJ (k:IntKind) (a b:Int):Int:=k.wrap (BitVec.ofInt k.bits a &&& BitVec.ofInt k.bits b).toNat
def VN (k:IntKind) (a b:Int):Int:=k.wrap (BitVec.ofInt k.bits a ||| BitVec.ofInt k.bits b).toNat
def gb (k:IntKind) (a b:Int):Int:=k.wrap (a * 2 ^ (min b.toNat k.bits))
def ep (k:IntKind) (a b:Int):Int:=a.fdiv (2 ^ (min b.toNat k.bits))
theorem aA {n:Int} (h1 : -9223372036854775808≤n) (h2:n≤9223372036854775807):ar n=n:=Zc h1 h2
structure P5 (α:Type) where
 cells:α→List D
 k:Nat
 len:∀ x,(cells x).length=k
 one:∀ x,(cells x).all Bb=true
def slE {α:Type} [Inhabited α] (E:P5 α):P5 (List α):=⟨fun l=>[nJ E.cells l],1,fun _=>rfl,fun _=>rfl⟩
def dm:P5 Int:=⟨bI,1,fun _=>rfl,fun _=>rfl⟩
def yT:P5 ByteArray:=⟨ki,1,fun _=>rfl,fun _=>rfl⟩
def u8C (n:Int):List D:=[.v (.int .u8 n)]
def py (s:ByteArray):List Int:=s.data.toList.map fun b=>(b.toNat:Int)
def aeo (s:ByteArray):tH:=⟨s.size,(py s).length,fun i=>[.v (.int .u8 (s.data.toList.getD i 0).toNat)],fun i=>u8C ((py s).getD i default),by
 refine ⟨by simp [py],fun i hi=>?_⟩
 have gQ:i < s.data.size:=hi
 have e:(py s).getD i default=((s.data.toList.getD i 0).toNat:Int):=by
  simp only [py,List.getD,List.getElem?_map,Array.getElem?_toList,Array.getElem?_eq_getElem gQ,Option.map_some,Option.getD_some]
 rw [e]
 exact yG.rfl'⟩
abbrev mpB {α:Type} [Inhabited α] (enc:α→D) (ks:List Int) (vs:List α):bP:=.mp ks.length fun i=>(.int .i64 (ks.getD i 0),enc (vs.getD i default))
def G5 {α:Type} [Inhabited α] (enc:α→D) (ks:List Int) (vs:List α) (h:ks.length=vs.length) (k:Int) (v:α):DW:=⟨ks.length+1,(ks++[k]).length,fun q=>if q < ks.length then (.int .i64 (ks.getD q 0),enc (vs.getD q default)) else (.int .i64 k,enc v),fun i=>(.int .i64 ((ks++[k]).getD i 0),enc ((vs++[v]).getD i default)),by
 refine ⟨by simp,fun i hi=>?_⟩
 by_cases c:i < ks.length
 ·simp only [c,if_true,List.getD,List.getElem?_append_left c,List.getElem?_append_left (h ▸ c:i < vs.length)]
 ·obtain rfl:i=ks.length:=by omega
  simp only [Nat.lt_irrefl,if_false]
  simp [List.getD,h]⟩
def afT {α:Type} [Inhabited α] (enc:α→D) (k:Int) (v:α):DW:=⟨0+1,1,fun q=>if q < 0 then (.bool false,default) else (.int .i64 k,enc v),fun i=>(.int .i64 ([k].getD i 0),enc ([v].getD i default)),by
 refine ⟨rfl,fun i hi=>?_⟩
 obtain rfl:i=0:=by omega
 rfl⟩
abbrev E4 {α:Type} [Inhabited α] (enc:α→D) (m:List (Int × α)):Nat→Value × D:=fun i=>(.int .i64 (m.getD i default).1,enc (m.getD i default).2)
abbrev SN {α:Type} [Inhabited α] (enc:α→D) (m:List (Int × α)):bP:=.mp m.length (E4 enc m)
abbrev pmM {α:Type} [Inhabited α] (enc:α→D) (m:List (Int × α)):AV:=.CS m.length (E4 enc m)
def nC {α:Type}:List (Int × α)→Int→α→List (Int × α)
 | [],k,v=>[(k,v)]
 | p :: r,k,v=>bif k == p.1 then (p.1,v) :: r else p :: nC r k v
def nK {α:Type}:List (Int × α)→Int→Option α
 | [],_=>none
 | p :: r,k=>bif k == p.1 then some p.2 else nK r k
def cT {α:Type} (m:List (Int × α)) (k:Int) (z:α):α:=(nK m k).getD z
def xS {α:Type} (m:List (Int × α)) (k:Int):Bool:=(nK m k).isSome
theorem pv {α:Type} [Inhabited α] (enc:α→D) (m:List (Int × α)):∀ i,i < m.length→∃ b,(E4 enc m i).1=.int .i64 b:=fun i _=>⟨_,rfl⟩
theorem C9 {α:Type} [Inhabited α] (enc:α→D) (k:Int):∀ (m:List (Int × α)),match pq (.int .i64 k) m.length (E4 enc m) with
  | some p=>p < m.length∧(E4 enc m p).1=.int .i64 k∧nK m k=some (m.getD p default).2∧∀ v,nC m k v=m.set p ((m.getD p default).1,v)
  | none=>nK m k=none∧∀ v,nC m k v=m++[(k,v)]
 | []=>⟨rfl,fun _=>rfl⟩
 | p :: r=>by
  have ih:=C9 enc k r
  have e:(fun i=>E4 enc (p :: r) (i+1))=E4 enc r:=by funext i; simp [E4]
  have e0:(E4 enc (p :: r) 0).1=.int .i64 p.1:=rfl
  simp only [List.length_cons,pq,e,e0,Ef,decide_true,Bool.true_and,List.getD_cons_zero]
  cases hk:(k == p.1) with
  | true =>
   have gZ:k=p.1:=by simpa using hk
   simp only [cond_true]
   refine ⟨by omega,by rw [gZ]; rfl,by simp [nK,hk],fun v=>by simp [nC,hk]⟩
  | false =>
   simp only [cond_false]
   cases hq:pq (.int .i64 k) r.length (E4 enc r) with
   | none =>
    rw [hq] at ih
    simp only [Option.map_none]
    exact ⟨by simp only [nK,hk,cond_false]; exact ih.1,fun v=>by simp only [nC,hk,cond_false,ih.2 v,List.cons_append]⟩
   | some q =>
    rw [hq] at ih
    obtain ⟨i1,i2,i3,i4⟩:=ih
    simp only [Option.map_some]
    refine ⟨by simpa using i1,?_,?_,fun v=>?_⟩
    ·rw [← i2]; rfl
    ·simp only [nK,hk,cond_false]; rw [i3]; simp
    ·simp only [nC,hk,cond_false,i4 v]; simp
def afU:DW:=⟨0,0,fun _=>(.bool false,default),fun _=>(.bool false,default),rfl,fun _ _=>rfl⟩
def sx {α:Type} [Inhabited α] (enc:α→D):DW:=⟨0,([]:List (Int × α)).length,fun _=>(.bool false,default),E4 enc ([]:List (Int × α)),rfl,fun i hi=>absurd hi (by omega)⟩
def Ws {α:Type} [Inhabited α] (enc:α→D) (m:List (Int × α)) (k:Int) (v:α):DW:=⟨mpN (.int .i64 k) m.length (E4 enc m),(nC m k v).length,mpF (.int .i64 k) (enc v) m.length (E4 enc m),E4 enc (nC m k v),by
 have h:=C9 enc k m
 unfold mpN mpF
 cases hq:pq (.int .i64 k) m.length (E4 enc m) with
 | none =>
  rw [hq] at h
  simp only
  rw [h.2 v]
  refine ⟨by simp,fun i hi=>?_⟩
  by_cases c:i < m.length
  ·simp [E4,c,List.getD,List.getElem?_append_left c]
  ·obtain rfl:i=m.length:=by omega
   simp [E4,List.getD]
 | some p =>
  rw [hq] at h
  obtain ⟨h1,h2,h3,h4⟩:=h
  simp only
  rw [h4 v]
  refine ⟨by simp,fun i hi=>?_⟩
  by_cases c:i=p
  ·subst c
   simp [E4,List.getD,h1]
  ·simp [E4,c,List.getD,List.getElem?_set_ne (fun e=>c e.symm)]⟩
def cU {α:Type} [Inhabited α] (enc:α→D) (m:List (Int × α)) (k:Int) (v:α):DW:=⟨m.length+1,(m++[(k,v)]).length,fun q=>if q < m.length then E4 enc m q else (.int .i64 k,enc v),E4 enc (m++[(k,v)]),by
 refine ⟨by simp,fun i hi=>?_⟩
 by_cases c:i < m.length
 ·simp only [c,if_true,E4,List.getD,List.getElem?_append_left c]
 ·obtain rfl:i=m.length:=by omega
  simp [E4,List.getD]⟩
theorem P6 {α:Type} [Inhabited α] (enc:α→D) (m:List (Int × α)) (k:Int) (z:α):vM (.int .i64 k) m.length (E4 enc m) (enc z)=enc (cT m k z):=by
 have h:=C9 enc k m
 unfold vM cT
 cases hq:pq (.int .i64 k) m.length (E4 enc m) with
 | none=>rw [hq] at h; simp only [h.1]; rfl
 | some p=>rw [hq] at h; simp only [h.2.2.1]; rfl
theorem Ze {α:Type} [Inhabited α] (enc:α→D) (m:List (Int × α)) (k:Int):AX (.int .i64 k) m.length (E4 enc m)=xS m k:=by
 have h:=C9 enc k m
 unfold AX xS
 cases hq:pq (.int .i64 k) m.length (E4 enc m) with
 | none=>rw [hq] at h; rw [h.1]; rfl
 | some p=>rw [hq] at h; rw [h.2.2.1]; rfl
def getM {α:Type} [Inhabited α] (enc:α→D) (m:List (Int × α)) (k:Int) (z:α):PR:=⟨.d (vM (.int .i64 k) m.length (E4 enc m) (enc z)),.d (enc (cT m k z)),fun _ _ _ _ _ h=>by rw [← P6 enc m k z]; exact h⟩
def LI {α:Type} [Inhabited α] (enc:α→D) (m:List (Int × α)) (k:Int) (z:α):PR:=⟨.fD [.d (vM (.int .i64 k) m.length (E4 enc m) (enc z)),.d (.v (.bool (AX (.int .i64 k) m.length (E4 enc m))))],.fD [.d (enc (cT m k z)),.d (.v (.bool (xS m k)))],fun _ _ _ _ _ h=>by rw [← P6 enc m k z,← Ze enc m k]; exact h⟩
theorem G6 {n n':Nat} {f f':Nat→List D} (h:n=n'∧∀ i,i < n→f i=f' i):n=n'∧∀ i,i < n→yG (f i) (f' i):=⟨h.1,fun i hi=>yG.of_eq (h.2 i hi)⟩
section
variable {α : Type} [Inhabited α] (E : P5 α)
theorem P5.src (M:List α):(∀ i,i < M.length→(E.cells (M.getD i default)).length=E.k)∧∀ i,i < M.length→(E.cells (M.getD i default)).all Bb=true:=⟨fun _ _=>E.len _,fun _ _=>E.one _⟩
theorem P5.ou (M:List α):∀ i,i < M.length→(E.cells (M.getD i default)).all Bb=true:=fun _ _=>E.one _
theorem P5.lens (M:List α):∀ i,i < M.length→(E.cells (M.getD i default)).length=E.k:=fun _ _=>E.len _
def mY (L M:List α):tH:=⟨L.length+M.length,(L++M).length,fun q=>if q < L.length then E.cells (L.getD q default) else E.cells (M.getD (q - L.length) default),fun i=>E.cells ((L++M).getD i default),G6 (acq E.cells L M)⟩
def uh (L:List α) (p:Nat) (y:α):tH:=⟨L.length,(L.set p y).length,fun q=>if q=p then E.cells y else E.cells (L.getD q default),fun i=>E.cells ((L.set p y).getD i default),G6 <| by
 refine ⟨by simp,fun i hi=>?_⟩
 split
 ·rename_i h
  subst h
  simp [List.getD,hi]
 ·rename_i h
  simp [List.getD,List.getElem?_set_ne (fun e=>h e.symm)]⟩
def mkC (n:Nat) (z:α):tH:=⟨n,(List.replicate n z).length,fun _=>E.cells z,fun i=>E.cells ((List.replicate n z).getD i default),G6 <| by
 refine ⟨by simp,fun i hi=>?_⟩
 simp [List.getD,hi]⟩
def mZ (L:List α) (lo n:Nat):List α:=(List.range n).map fun i=>L.getD (lo+i) default
def aep (L:List α) (lo n:Nat):tH:=⟨n,(mZ L lo n).length,fun i=>E.cells (L.getD (lo+i) default),fun i=>E.cells ((mZ L lo n).getD i default),G6 <| by
 refine ⟨by simp [mZ],fun i hi=>?_⟩
 have:(mZ L lo n).getD i default=L.getD (lo+i) default:=by simp [mZ,List.getD,hi]
 rw [this]⟩
def afV (L:List α) (h:Nat):tH:=⟨h,(mZ L 0 h).length,fun i=>E.cells (L.getD i default),fun i=>E.cells ((mZ L 0 h).getD i default),G6 <| by
 refine ⟨by simp [mZ],fun i hi=>?_⟩
 have:(mZ L 0 h).getD i default=L.getD i default:=by simp [mZ,List.getD,hi]
 rw [this]⟩
theorem T4 (k:Nat) (hk:∀ x,(E.cells x).length=k):∀ (xs:List α) (i j:Nat),i < xs.length→j < k→(xs.flatMap E.cells).getD (i * k+j) default=(E.cells (xs.getD i default)).getD j default
 | [],i,j,hi,_=>absurd hi (by simp)
 | x :: r,0,j,_,hj=>by
  simp only [List.flatMap_cons,Nat.zero_mul,Nat.zero_add,List.getD_cons_zero]
  rw [List.getD,List.getElem?_append_left (by rw [hk]; exact hj)]
  rfl
 | x :: r,i+1,j,hi,hj=>by
  have ih:=T4 k hk r i j (by simpa using hi) hj
  simp only [List.flatMap_cons,List.getD_cons_succ]
  rw [List.getD,List.getElem?_append_right (by rw [hk,Nat.add_mul,Nat.one_mul]; omega),hk,show (i+1) * k+j - k=i * k+j by rw [Nat.add_mul,Nat.one_mul]; omega]
  exact ih
theorem T5 (k:Nat) (hk:∀ x,(E.cells x).length=k):∀ (xs:List α),(xs.flatMap E.cells).length=xs.length * k
 | []=>by simp
 | x :: r=>by simp [List.flatMap_cons,hk,T5 k hk r,Nat.add_mul,Nat.add_comm]
def fm (xs:List α):tH:=⟨xs.length,xs.length,Ed E.k xs.length (xs.flatMap E.cells),fun i=>E.cells (xs.getD i default),G6 <| by
 refine ⟨rfl,fun i hi=>?_⟩
 obtain ⟨h1,h2⟩:=BF (k:=E.k) (len:=xs.length) (ds:=xs.flatMap E.cells) (T5 E E.k E.len xs) hi
 apply List.ext_getElem?
 intro j
 by_cases hj:j < E.k
 ·have h3:=h2 j hj
  rw [T4 E E.k E.len xs i j hi hj] at h3
  have l1:j < (Ed E.k xs.length (xs.flatMap E.cells) i).length:=by omega
  have l2:j < (E.cells (xs.getD i default)).length:=by rw [E.len]; exact hj
  rw [List.getD,List.getD,List.getElem?_eq_getElem l1,List.getElem?_eq_getElem l2] at h3
  rw [List.getElem?_eq_getElem l1,List.getElem?_eq_getElem l2]
  simpa using h3
 ·rw [List.getElem?_eq_none (by omega),List.getElem?_eq_none (by rw [E.len]; omega)]⟩
def mkN (n:Nat) (z:α) (ds:List D) (h:Wj ds (E.cells z)=(Wj ds (E.cells z)).diag):tH:=⟨n,(List.replicate n z).length,fun _=>ds,fun i=>E.cells ((List.replicate n z).getD i default),by
 refine ⟨by simp,fun i hi=>?_⟩
 have e:(List.replicate n z).getD i default=z:=by simp [List.getD,hi]
 rw [e]
 exact Fs (CT.BP h)⟩
def G7 (L:List α) (x:Nat) (z:α):List α:=L.take x++List.replicate (L.length - x) z
theorem BS (L:List α) (x:Nat) (z:α):(G7 L x z).length=L.length:=by
 simp [G7]
 omega
def ahF (L:List α) (x:Nat) (z:α) (ds:List D) (h:Wj ds (E.cells z)=(Wj ds (E.cells z)).diag):tH:=⟨L.length,(G7 L x z).length,xQ x (fun i=>E.cells (L.getD i default)) ds,fun i=>E.cells ((G7 L x z).getD i default),by
 refine ⟨(BS L x z).symm,fun i hi=>?_⟩
 unfold xQ
 split
 ·rename_i h
  have e:(G7 L x z).getD i default=L.getD i default:=by
   simp only [G7,List.getD]
   rw [List.getElem?_append_left (by simp; omega),List.getElem?_take,if_pos h]
  rw [e]
  exact yG.rfl'
 ·rename_i h'
  have e:(G7 L x z).getD i default=z:=by
   simp only [G7,List.getD]
   have h1:(L.take x).length=x:=by simp; omega
   have h2:i - x < L.length - x:=by omega
   rw [List.getElem?_append_right (by omega),h1,List.getElem?_replicate,if_pos h2]
   rfl
  rw [e]
  exact Fs (CT.BP h)⟩
end
def acE {cs ds:List D} (h:yG cs ds):PR:=⟨.ref cs,.ref ds,fun w S μ ν v hr=>by
 cases hr with
 | ref ef cC hh=>exact .ref ef (fun j hj=>cC j (by rw [h.1]; exact hj)) (fun j hj=>h.2 j (by rw [h.1]; exact hj) _ _ _ (hh j (by rw [h.1]; exact hj)))⟩
abbrev bU (i:Int) (n:Nat):Prop:=0≤i∧i < (n:Int)
abbrev yE (n m bytes:Nat):Prop:=n+m≤maxLen∧(n+m) * bytes≤140737488355328
abbrev Zf (n:Int) (bytes:Nat):Prop:=0≤n∧n.toNat≤maxLen∧n.toNat * bytes≤140737488355328
def bH.z:bH Unit:=⟨(),fun _=>[],fun _=>none,True,fun _ _ h=>(by cases h),fun _=>True,trivial⟩
abbrev Sk.nx {α ι:Type} (id t n:Nat) (a:ι):Sk (α ⊕ ι):=.r id .z fun _=>.wi t (ar ((n:Int)+1)) ((n+1:Nat):Int) (.fin (.inr a))
def bH.p (p:Prop):bH Unit:=⟨(),fun _=>[],fun _=>some p,p,fun h _ e=>by cases e; exact h,fun _=>True,trivial⟩
def bH.t {p:Prop} (h:p):bH Unit:=⟨(),fun _=>[],fun _=>some p,True,fun _ _ e=>by cases e; exact h,fun _=>True,trivial⟩
def bH.pt (p:Prop) {q:Prop} (h:q):bH Unit:=⟨(),fun _=>[],fun _=>some (p∧q),p,fun hp _ e=>by cases e; exact ⟨hp,h⟩,fun _=>True,trivial⟩
def bH.o (l:List C0):bH Unit:=⟨(),fun _=>l,fun _=>none,True,fun _ _ h=>(by cases h),fun _=>True,trivial⟩
theorem Fx {x y:Option Prop} (h1:∀ p,x=some p→p) (h2:∀ p,y=some p→p) (p:Prop) (e:G2 x y=some p):p:=by
 cases x with
 | none=>exact h2 p (by simpa [G2] using e)
 | some a =>
  cases y with
  | none=>exact h1 p (by simpa [G2] using e)
  | some b =>
   simp only [G2,Option.some.injEq] at e
   subst e
   exact ⟨h1 a rfl,h2 b rfl⟩
def aeq (e w:Bool):Option Prop→Option Prop
 | none=>none
 | some p=>some (e=w→p)
theorem acF {x:Option Prop} {e w:Bool} (h:e=w→∀ p,x=some p→p) (p:Prop) (hp:aeq e w x=some p):p:=by
 cases x with
 | none=>cases hp
 | some a =>
  simp only [aeq,Option.some.injEq] at hp
  subst hp
  exact fun he=>h he a rfl
def bH.and {α β:Type} (a:bH α) (b:bH β):bH (α × β):=⟨(a.v,b.v),fun x=>a.kX x.1++b.kX x.2,fun x=>G2 (a.kV x.1) (b.kV x.2),a.pre∧b.pre,fun h=>Fx (a.pf h.1) (b.pf h.2),fun x=>a.post x.1∧b.post x.2,⟨a.hp,b.hp⟩⟩
def bH.aj {β:Type} (a:bH Unit) (b:bH β):bH β:=⟨b.v,fun x=>a.kX ()++b.kX x,fun x=>G2 (a.kV ()) (b.kV x),a.pre∧b.pre,fun h=>Fx (a.pf h.1) (b.pf h.2),b.post,b.hp⟩
def bH.Fy {α:Type} (a:bH α) (b:bH Unit):bH α:=⟨a.v,fun x=>a.kX x++b.kX (),fun x=>G2 (a.kV x) (b.kV ()),a.pre∧b.pre,fun h=>Fx (a.pf h.1) (b.pf h.2),a.post,a.hp⟩
def bH.wh {β:Type} (e w:Bool) (a:bH β):bH β:=⟨a.v,a.kX,fun x=>aeq e w (a.kV x),e=w→a.pre,fun h=>acF fun he=>a.pf (h he),a.post,a.hp⟩
def bH.dep {α β:Type} (a:bH α) (b:α→bH β):bH (α × β):=⟨(a.v,(b a.v).v),fun x=>a.kX x.1++(b x.1).kX x.2,fun x=>G2 (a.kV x.1) ((b x.1).kV x.2),a.pre∧∀ x,x=a.v→a.post x→(b x).pre,fun h=>Fx (a.pf h.1) ((b a.v).pf (h.2 _ rfl a.hp)),fun x=>a.post x.1∧(b x.1).post x.2,⟨a.hp,(b a.v).hp⟩⟩
def bH.pz {α:Type} (a:bH α) (b:α→bH Unit):bH α:=⟨a.v,fun x=>a.kX x++(b x).kX (),fun x=>G2 (a.kV x) ((b x).kV ()),a.pre∧∀ x,x=a.v→a.post x→(b x).pre,fun h=>Fx (a.pf h.1) ((b a.v).pf (h.2 _ rfl a.hp)),a.post,a.hp⟩
structure il (β:Type) where
 P:Program
 f:FuncId
 args:List AV
 enc:β→AV
 fl:Bool
 v:β
 pre:Prop
 pf:pre→gR P f args [] (enc v) []
 post:β→Prop:=fun _=>True
 hp:post v:=by trivial
def il.c {β:Type} (c:il β):bH β:=⟨c.v,fun x=>[bif c.fl then .flat (c.enc x) else .gen [] (c.enc x) []],fun x=>some (gR c.P c.f c.args [] (c.enc x) []),c.pre,fun hp _ e=>by cases e; exact c.pf hp,c.post,c.hp⟩
theorem vR.refl:∀ (l:List AV),vR l l
 | []=>trivial
 | _ :: r=>⟨uX.rfl',vR.refl r⟩
theorem vR.set:∀ (l:List AV) (i:Nat) (x y:AV),l[i]? = some y→uX x y→vR (l.set i x) l
 | [],i,_,_,h,_=>by simp at h
 | z :: r,0,x,y,h,hle=>by
  simp only [List.getElem?_cons_zero,Option.some.injEq] at h
  subst h
  exact ⟨hle,vR.refl r⟩
 | z :: r,i+1,x,y,h,hle=>⟨uX.rfl',vR.set r i x y (by simpa using h) hle⟩
def il.nil {β:Type} (c:il β) (i:Nat) (h:∃ g,c.args[i]? = some (.d (.sl 0 g))):il β :=
 { c with args:=c.args.set i nv,pf:=fun hp=>(c.pf hp).XO (let ⟨g,hg⟩:=h; vR.set c.args i _ _ hg (uX.d (ue.nil g))) }
def il.ov {β:Type} (c:il β) (i j:Nat) (cs:List D) (h:c.args[i]? = some (.d (.agg cs))) (h2:∃ g,cs[j]? = some (.sl 0 g)):il β :=
 {c with args:=c.args.set i (.d (.agg (cs.set j (.v (.slice none 0 0))))),pf:=fun hp=>(c.pf hp).XO (vR.set c.args i _ _ h (uX.d (ue.agg (by simp) (fun q hq=>by
   obtain ⟨g,hg⟩:=h2
   by_cases e:j=q
   ·subst e
    have hj:j < cs.length:=by simpa using hq
    have e1:(cs.set j (.v (.slice none 0 0))).getD j default=.v (.slice none 0 0):=by simp [List.getD,hj]
    have e2:cs.getD j default=.sl 0 g:=by simp [List.getD,hg]
    rw [e1,e2]
    exact ue.nil g
   ·have e1:(cs.set j (.v (.slice none 0 0))).getD q default=cs.getD q default:=by simp [List.getD,List.getElem?_set_ne e]
    rw [e1]
    exact ue.rfl')))) }
@[simp] theorem bH.ahG (x:Unit):bH.z.post x=True:=rfl
@[simp] theorem bH.ahH (p:Prop) (x:Unit):(bH.p p).post x=True:=rfl
@[simp] theorem bH.ahI {p:Prop} (h:p) (x:Unit):(bH.t h).post x=True:=rfl
@[simp] theorem bH.agy (p:Prop) {q:Prop} (h:q) (x:Unit):(bH.pt p h).post x=True:=rfl
@[simp] theorem bH.ahJ (l:List C0) (x:Unit):(bH.o l).post x=True:=rfl
@[simp] theorem bH.afW {α β:Type} (a:bH α) (b:bH β) (x:α × β):(a.and b).post x=(a.post x.1∧b.post x.2):=rfl
@[simp] theorem bH.ae6 {β:Type} (a:bH Unit) (b:bH β) (x:β):(a.aj b).post x=b.post x:=rfl
@[simp] theorem bH.ae7 {β:Type} (a:bH β) (b:bH Unit) (x:β):(a.Fy b).post x=a.post x:=rfl
@[simp] theorem bH.agz {β:Type} (e w:Bool) (a:bH β) (x:β):(a.wh e w).post x=a.post x:=rfl
@[simp] theorem bH.afX {α β:Type} (a:bH α) (b:α→bH β) (x:α × β):(a.dep b).post x=(a.post x.1∧(b x.1).post x.2):=rfl
@[simp] theorem bH.ae8 {α:Type} (a:bH α) (b:α→bH Unit) (x:α):(a.pz b).post x=a.post x:=rfl
@[simp] theorem il.Rf {β:Type} (c:il β) (x:β):c.c.post x=c.post x:=rfl
@[simp] theorem il.aaZ {β:Type} (c:il β) (i:Nat) (h:∃ g,c.args[i]? = some (.d (.sl 0 g))) (x:β):(c.nil i h).post x=c.post x:=rfl
@[simp] theorem il.ae9 {β:Type} (c:il β) (i j:Nat) (cs:List D) (h:c.args[i]? = some (.d (.agg cs))) (h2:∃ g,cs[j]? = some (.sl 0 g)) (x:β):(c.ov i j cs h h2).post x=c.post x:=rfl
@[simp] theorem bH.aiv:bH.z.pre=True:=rfl
@[simp] theorem bH.aiw (p:Prop):(bH.p p).pre=p:=rfl
@[simp] theorem bH.aix {p:Prop} (h:p):(bH.t h).pre=True:=rfl
@[simp] theorem bH.ahK (p:Prop) {q:Prop} (h:q):(bH.pt p h).pre=p:=rfl
@[simp] theorem bH.aiy (l:List C0):(bH.o l).pre=True:=rfl
@[simp] theorem bH.agA {α β:Type} (a:bH α) (b:bH β):(a.and b).pre=(a.pre∧b.pre):=rfl
@[simp] theorem bH.afY {β:Type} (a:bH Unit) (b:bH β):(a.aj b).pre=(a.pre∧b.pre):=rfl
@[simp] theorem bH.afZ {β:Type} (a:bH β) (b:bH Unit):(a.Fy b).pre=(a.pre∧b.pre):=rfl
@[simp] theorem bH.ahL {β:Type} (e w:Bool) (a:bH β):(a.wh e w).pre=(e=w→a.pre):=rfl
@[simp] theorem bH.agB {α β:Type} (a:bH α) (b:α→bH β):(a.dep b).pre=(a.pre∧∀ x,x=a.v→a.post x→(b x).pre):=rfl
@[simp] theorem bH.af0 {α:Type} (a:bH α) (b:α→bH Unit):(a.pz b).pre=(a.pre∧∀ x,x=a.v→a.post x→(b x).pre):=rfl
@[simp] theorem bH.IE {α β:Type} (a:bH α) (b:α→bH β):(a.dep b).v=(a.v,(b a.v).v):=rfl
@[simp] theorem bH.aa0 {α:Type} (a:bH α) (b:α→bH Unit):(a.pz b).v=a.v:=rfl
@[simp] theorem il.XZ {β:Type} (c:il β):c.c.pre=c.pre:=rfl
@[simp] theorem il.A1 {β:Type} (c:il β):c.c.v=c.v:=rfl
@[simp] theorem il.acG {β:Type} (c:il β) (i:Nat) (h:∃ g,c.args[i]? = some (.d (.sl 0 g))):(c.nil i h).pre=c.pre:=rfl
@[simp] theorem il.af1 {β:Type} (c:il β) (i:Nat) (h:∃ g,c.args[i]? = some (.d (.sl 0 g))):(c.nil i h).v=c.v:=rfl
@[simp] theorem il.af2 {β:Type} (c:il β) (i j:Nat) (cs:List D) (h:c.args[i]? = some (.d (.agg cs))) (h2:∃ g,cs[j]? = some (.sl 0 g)):(c.ov i j cs h h2).pre=c.pre:=rfl
@[simp] theorem il.ahM {β:Type} (c:il β) (i j:Nat) (cs:List D) (h:c.args[i]? = some (.d (.agg cs))) (h2:∃ g,cs[j]? = some (.sl 0 g)):(c.ov i j cs h h2).v=c.v:=rfl
@[simp] theorem bH.aiz {α β:Type} (a:bH α) (b:bH β):(a.and b).v=(a.v,b.v):=rfl
@[simp] theorem bH.rD {β:Type} (a:bH Unit) (b:bH β):(a.aj b).v=b.v:=rfl
@[simp] theorem bH.ahN {β:Type} (a:bH β) (b:bH Unit):(a.Fy b).v=a.v:=rfl
@[simp] theorem bH.Zg {β:Type} (e w:Bool) (a:bH β):(a.wh e w).v=a.v:=rfl
structure j0 (β:Type) where
 P:Program
 f:FuncId
 args:List AV
 enc:β→AV
 xR:β→List (Nat × bP)
 v:β
 pre:Prop
 pf:pre→gR P f args [] (enc v) (xR v)
 post:β→Prop:=fun _=>True
 hp:post v:=by trivial
def j0.c {β:Type} (c:j0 β):bH β:=⟨c.v,fun x=>[.gen [] (c.enc x) (c.xR x)],fun x=>some (gR c.P c.f c.args [] (c.enc x) (c.xR x)),c.pre,fun hp _ e=>by cases e; exact c.pf hp,c.post,c.hp⟩
@[simp] theorem j0.XZ {β:Type} (c:j0 β):c.c.pre=c.pre:=rfl
@[simp] theorem j0.A1 {β:Type} (c:j0 β):c.c.v=c.v:=rfl
def j0.nil {β:Type} (c:j0 β) (i:Nat) (h:∃ g,c.args[i]? = some (.d (.sl 0 g))):j0 β :=
 { c with args:=c.args.set i nv,pf:=fun hp=>(c.pf hp).XO (let ⟨g,hg⟩:=h; vR.set c.args i _ _ hg (uX.d (ue.nil g))) }
@[simp] theorem j0.acG {β:Type} (c:j0 β) (i:Nat) (h:∃ g,c.args[i]? = some (.d (.sl 0 g))):(c.nil i h).pre=c.pre:=rfl
@[simp] theorem j0.af1 {β:Type} (c:j0 β) (i:Nat) (h:∃ g,c.args[i]? = some (.d (.sl 0 g))):(c.nil i h).v=c.v:=rfl
@[simp] theorem j0.Rf {β:Type} (c:j0 β) (x:β):c.c.post x=c.post x:=rfl
@[simp] theorem j0.aaZ {β:Type} (c:j0 β) (i:Nat) (h:∃ g,c.args[i]? = some (.d (.sl 0 g))) (x:β):(c.nil i h).post x=c.post x:=rfl
structure LJ (β:Type) where
 P:Program
 f:FuncId
 args:List AV
 c6:List (Nat × bP)
 jY:List (Nat × Nat)
 enc:β→AV
 xR:β→List (Nat × bP)
 v:β
 pre:Prop
 pf:pre→FnB P f args c6 (enc v) (xR v) jY
 post:β→Prop:=fun _=>True
 hp:post v:=by trivial
def LJ.c {β:Type} (c:LJ β):bH β:=⟨c.v,fun x=>[.bx (c.c6.map (·.1)) c.jY (c.enc x) (c.xR x)],fun x=>some (FnB c.P c.f c.args c.c6 (c.enc x) (c.xR x) c.jY),c.pre,fun hp _ e=>by cases e; exact c.pf hp,c.post,c.hp⟩
@[simp] theorem LJ.XZ {β:Type} (c:LJ β):c.c.pre=c.pre:=rfl
@[simp] theorem LJ.A1 {β:Type} (c:LJ β):c.c.v=c.v:=rfl
@[simp] theorem LJ.Rf {β:Type} (c:LJ β) (x:β):c.c.post x=c.post x:=rfl
theorem gR.X0 {P:Program} {f:FuncId} {args:List AV} {K n e k m:Nat} {r:Nat→List D} (κ:Nat) (h:gR P f args [] (.own K n) [(K,.row e k m r)]):gR P f args [] (.own κ n) [(κ,.row e k m r)]:=by
 refine ⟨h.1,fun w S μ vs h1 h2 h3 h4 h5=>(h.2 w S μ vs h1 h2 h3 h4 h5).mono ?_⟩
 rintro e0 w' ⟨v,S',μ',rfl,B⟩
 have lk:∀ q b,look [(κ,bP.row e k m r)] q=some b→q=κ∧b=.row e k m r:=fun q b hq=>by
  rw [ca] at hq
  split at hq
  ·rename_i e; simp only [Option.some.injEq] at hq; exact ⟨e.symm,hq.symm⟩
  ·simp [look] at hq
 have lK:look [(K,bP.row e k m r)] K=some (.row e k m r):=by rw [ca,if_pos rfl]
 refine ⟨v,S',fun _=>μ' K,rfl,⟨fun ν=>?_,fun q b hq=>?_,fun q1 q2 b1 b2 g c c' x1 x2 _ _=>by rw [(lk q1 b1 x1).1,(lk q2 b2 x2).1],fun q b g c x1 x2=>B.own K _ g c lK x2,B.sub,B.new,B.bound,B.kept⟩⟩
 ·cases B.res ν with
  | dt hμ=>exact .dt hμ
  | own hμ=>exact .own hμ
 ·obtain ⟨rfl,rfl⟩:=lk q b hq
  exact (B.mem K _ lK).agree (fun k hk=>by simp [bP.keys] at hk)
theorem gR.aa1 {P:Program} {f:FuncId} {args rs:List AV} {K n e k m:Nat} {r:Nat→List D} (κ:Nat) (hk:AV.sr rs=[]) (h:gR P f args [] (.fD (.own K n :: rs)) [(K,.row e k m r)]):gR P f args [] (.fD (.own κ n :: rs)) [(κ,.row e k m r)]:=by
 refine ⟨h.1,fun w S μ vs h1 h2 h3 h4 h5=>(h.2 w S μ vs h1 h2 h3 h4 h5).mono ?_⟩
 rintro e0 w' ⟨v,S',μ',rfl,B⟩
 have lk:∀ q b,look [(κ,bP.row e k m r)] q=some b→q=κ∧b=.row e k m r:=fun q b hq=>by
  rw [ca] at hq
  split at hq
  ·rename_i e; simp only [Option.some.injEq] at hq; exact ⟨e.symm,hq.symm⟩
  ·simp [look] at hq
 have lK:look [(K,bP.row e k m r)] K=some (.row e k m r):=by rw [ca,if_pos rfl]
 refine ⟨v,S',fun _=>μ' K,rfl,⟨fun ν=>?_,fun q b hq=>?_,fun q1 q2 b1 b2 g c c' x1 x2 _ _=>by rw [(lk q1 b1 x1).1,(lk q2 b2 x2).1],fun q b g c x1 x2=>B.own K _ g c lK x2,B.sub,B.new,B.bound,B.kept⟩⟩
 ·cases B.res ν with
  | @fD _ vs hl hr =>
   refine .fD hl (fun i hi=>?_)
   have hq:=hr i hi
   cases i with
   | zero =>
    simp only [List.getD_cons_zero] at hq ⊢
    generalize vs.getD 0 undef=v0 at hq ⊢
    cases hq with
    | dt hμ=>exact .dt hμ
    | own hμ=>exact .own hμ
   | succ i =>
    simp only [List.getD_cons_succ] at hq ⊢
    refine hq.agree (fun k' gZ=>absurd gZ (AV.vE rs i (by rw [hk]; simp) (by simpa using hi)))
 ·obtain ⟨rfl,rfl⟩:=lk q b hq
  exact (B.mem K _ lK).agree (fun k hk=>by simp [bP.keys] at hk)
structure Ji (β:Type) where
 P:Program
 f:FuncId
 args:List AV
 κ:Nat
 b:bP
 enc:β→bP
 v:β
 pre:Prop
 pf:pre→FnS P f args κ b (enc v)
 post:β→Prop:=fun _=>True
 hp:post v:=by trivial
def Ji.c {β:Type} (c:Ji β):bH β:=⟨c.v,fun x=>[.same c.κ (c.enc x)],fun x=>some (FnS c.P c.f c.args c.κ c.b (c.enc x)),c.pre,fun hp _ e=>by cases e; exact c.pf hp,c.post,c.hp⟩
@[simp] theorem Ji.XZ {β:Type} (c:Ji β):c.c.pre=c.pre:=rfl
@[simp] theorem Ji.A1 {β:Type} (c:Ji β):c.c.v=c.v:=rfl
@[simp] theorem Ji.Rf {β:Type} (c:Ji β) (x:β):c.c.post x=c.post x:=rfl
structure yU (β:Type) where
 P:Program
 f:FuncId
 args:List AV
 c6:List (Nat × bP)
 enc:β→AV
 xR:β→List (Nat × bP)
 v:β
 pre:Prop
 pf:pre→gR P f args c6 (enc v) (xR v)
 post:β→Prop:=fun _=>True
 hp:post v:=by trivial
def yU.c {β:Type} (c:yU β):bH β:=⟨c.v,fun x=>[.gen (c.c6.map (·.1)) (c.enc x) (c.xR x)],fun x=>some (gR c.P c.f c.args c.c6 (c.enc x) (c.xR x)),c.pre,fun hp _ e=>by cases e; exact c.pf hp,c.post,c.hp⟩
@[simp] theorem yU.XZ {β:Type} (c:yU β):c.c.pre=c.pre:=rfl
@[simp] theorem yU.A1 {β:Type} (c:yU β):c.c.v=c.v:=rfl
@[simp] theorem yU.Rf {β:Type} (c:yU β) (x:β):c.c.post x=c.post x:=rfl
theorem yV {K q:Nat} {b0 b:bP} (h:look [(K,b0)] q=some b):q=K∧b=b0:=by
 rw [ca] at h
 split at h
 ·rename_i e; simp only [Option.some.injEq] at h; exact ⟨e.symm,h.symm⟩
 ·simp [look] at h
theorem gR.Wt {P:Program} {f:FuncId} {args:List AV} {c6:List (Nat × bP)} {K n e k m:Nat} {r:Nat→List D} (κ:Nat) (h:gR P f args c6 (.own K n) [(K,.row e k m r)]):gR P f args c6 (.own κ n) [(κ,.row e k m r)]:=by
 refine ⟨h.1,fun w S μ vs h1 h2 h3 h4 h5=>(h.2 w S μ vs h1 h2 h3 h4 h5).mono ?_⟩
 rintro e0 w' ⟨v,S',μ',rfl,B⟩
 have lK:look [(K,bP.row e k m r)] K=some (.row e k m r):=by rw [ca,if_pos rfl]
 refine ⟨v,S',fun _=>μ' K,rfl,⟨fun ν=>?_,fun q b hq=>?_,fun q1 q2 b1 b2 g c c' x1 x2 _ _=>by rw [(yV x1).1,(yV x2).1],fun q b g c x1 x2=>B.own K _ g c lK x2,B.sub,B.new,B.bound,B.kept⟩⟩
 ·cases B.res ν with
  | dt hμ=>exact .dt hμ
  | own hμ=>exact .own hμ
 ·obtain ⟨rfl,rfl⟩:=yV hq
  exact (B.mem K _ lK).agree (fun k hk=>by simp [bP.keys] at hk)
theorem gR.Wu {P:Program} {f:FuncId} {as:List AV} {K n e k m:Nat} {r:Nat→List D} {res:AV} {gS:List (Nat × bP)} (κ:Nat) (hk:AV.sr as=[]) (h:gR P f (.own K n :: as) [(K,.row e k m r)] res gS):gR P f (.own κ n :: as) [(κ,.row e k m r)] res gS:=by
 refine ⟨h.1,fun w S μ vs h1 h2 h3 h4 h5=>?_⟩
 have lK:∀ K',look [(K',bP.row e k m r)] K'=some (.row e k m r):=fun K'=>by rw [ca,if_pos rfl]
 refine (h.2 w S (fun _=>μ κ) vs h1 h2 (fun ν=>?_) (fun q b hq=>?_) (fun q1 q2 b1 b2 g c c' x1 x2 _ _=>by rw [(yV x1).1,(yV x2).1])).mono ?_
 ·obtain ⟨hl,hi⟩:=h3 ν
  refine ⟨by simpa using hl,fun i gQ=>?_⟩
  have hq:=hi i (by simpa using gQ)
  cases i with
  | zero =>
   simp only [List.getD_cons_zero] at hq ⊢
   generalize vs.toList.getD 0 undef=v at hq ⊢
   cases hq with
   | dt hμ=>exact .dt hμ
   | own hμ=>exact .own hμ
  | succ i =>
   simp only [List.getD_cons_succ] at hq ⊢
   refine hq.agree (fun k' gZ=>absurd gZ (AV.vE as i (by rw [hk]; simp) (by simpa using gQ)))
 ·obtain ⟨rfl,rfl⟩:=yV hq
  exact (h4 κ _ (lK κ)).agree (fun k hk=>by simp [bP.keys] at hk)
 ·rintro e' w' ⟨v,S',μ',rfl,B⟩
  exact ⟨v,S',μ',rfl,B.Tk (fun b ⟨q,bk,c,x1,x2⟩=>⟨κ,_,c,lK κ,x2⟩)⟩
section
variable {α β ι : Type}
@[simp] theorem Sk.dn (a:α):(Sk.fin a).val=a:=rfl
@[simp] theorem Sk.fB (e:Bool) (x y:Sk α):(Sk.br e x y).val=bif e then x.val else y.val:=rfl
@[simp] theorem Sk.jt (id:Nat) (c:bH β) (k:β→Sk α):(Sk.r id c k).val=(k c.v).val:=rfl
@[simp] theorem Sk.l7 (t:Nat) (m n:Int) (k:Sk α):(Sk.wi t m n k).val=k.val:=rfl
@[simp] theorem Sk.iP (t j n:Nat) (k:Sk α):(Sk.GJ t j n k).val=k.val:=rfl
@[simp] theorem Sk.Rg (κ n n':Nat) (k:Sk α):(Sk.wn κ n n' k).val=k.val:=rfl
@[simp] theorem Sk.X1 (k:Sk α):(Sk.KF k).val=k.val:=rfl
@[simp] theorem Sk.X2 (k:Sk α):(Sk.Dz k).val=k.val:=rfl
@[simp] theorem Sk.af3 (a:α):(Sk.dead a).val=a:=rfl
@[simp] theorem Sk.agC (t:Nat) (c:Bool) (x y:AV) (k1 k2:Sk α):(Sk.XQ t c x y k1 k2).val=bif c then k1.val else k2.val:=rfl
@[simp] theorem Sk.agD (t n:Nat) (k1 k2:Sk α):(Sk.VM t n k1 k2).val=k2.val:=rfl
@[simp] theorem Sk.aer (κ:Nat) (k:List (Int × Int)→Sk α):(Sk.op κ k).val=(k []).val:=rfl
@[simp] theorem Sk.aes (κ:Nat) (m:List (Int × Int)) (k:Sk α):(Sk.cl κ m k).val=k.val:=rfl
@[simp] theorem Sk.agE (id:Nat) (x:Int) (c:tH) (k:Sk α):(Sk.PY id x c k).val=k.val:=rfl
@[simp] theorem Sk.ahO (κ:Nat) (k:Sk α):(Sk.fz κ k).val=k.val:=rfl
@[simp] theorem Sk.dK (b:Bool) (J:β→Prop) (s:Sk (α ⊕ β)) (u:β→Z5) (k:β→Sk α):(Sk.bind b J s u k).val=iY s.val fun b=>(k b).val:=rfl
@[simp] theorem Sk.aa2 {σ β Y:Type} (it:ItC Y) (I:Nat→σ→Prop) (B:β→Prop) (id:Nat) (s0:σ) (u:σ→List (Nat × bP)) (v:β→List (Nat × bP)) (b:σ→Y→Sk (β ⊕ σ)) (k:β ⊕ σ→Sk α):(Sk.rf it I B id s0 u v b k).val=(k (rA (fun s y=>(b s y).val) it.ys s0)).val:=rfl
@[simp] theorem Sk.gd (d:α) (I:ι→Prop) (m:ι→Nat) (i0:ι) (u:ι→Z5) (b:ι→Sk (α ⊕ ι)):(Sk.loop d I m i0 u b).val=iter (fun i=>(b i).val) d (m i0+1) i0:=rfl
variable (L : α → Prop)
@[simp] theorem Sk.agF (a:α):(Sk.fin a).bC L=L a:=rfl
@[simp] theorem Sk.ahP (e:Bool) (x y:Sk α):(Sk.br e x y).bC L=((e=true→x.bC L)∧(e=false→y.bC L)):=rfl
@[simp] theorem Sk.aiA (id:Nat) (c:bH β) (k:β→Sk α):(Sk.r id c k).bC L=(c.pre∧∀ x,x=c.v→c.post x→(k x).bC L):=rfl
@[simp] theorem Sk.ahQ (t:Nat) (m n:Int) (k:Sk α):(Sk.wi t m n k).bC L=(m=n∧k.bC L):=rfl
@[simp] theorem Sk.agG (t j n:Nat) (k:Sk α):(Sk.GJ t j n k).bC L=(n≤maxLen→k.bC L):=rfl
@[simp] theorem Sk.ahR (κ n n':Nat) (k:Sk α):(Sk.wn κ n n' k).bC L=(n=n'∧k.bC L):=rfl
@[simp] theorem Sk.agH (k:Sk α):(Sk.KF k).bC L=k.bC L:=rfl
@[simp] theorem Sk.agI (k:Sk α):(Sk.Dz k).bC L=k.bC L:=rfl
@[simp] theorem Sk.af4 (a:α):(Sk.dead a).bC L=False:=rfl
@[simp] theorem Sk.agJ (t:Nat) (c:Bool) (x y:AV) (k1 k2:Sk α):(Sk.XQ t c x y k1 k2).bC L=((c=true→k1.bC L)∧(c=false→k2.bC L)):=rfl
@[simp] theorem Sk.agK (t n:Nat) (k1 k2:Sk α):(Sk.VM t n k1 k2).bC L=((n=0→k1.bC L∧k1.val=k2.val)∧k2.bC L):=rfl
@[simp] theorem Sk.agL (id:Nat) (x:Int) (c:tH) (k:Sk α):(Sk.PY id x c k).bC L=((0≤x∧x≤(c.n:Int))∧k.bC L):=rfl
@[simp] theorem Sk.ahS (κ:Nat) (k:Sk α):(Sk.fz κ k).bC L=k.bC L:=rfl
@[simp] theorem Sk.af5 (b:Bool) (J:β→Prop) (s:Sk (α ⊕ β)) (u:β→Z5) (k:β→Sk α):(Sk.bind b J s u k).bC L=(s.bC (sw L J)∧∀ b,s.val=.inr b→J b→(k b).bC L):=rfl
@[simp] theorem Sk.af6 (d:α) (I:ι→Prop) (m:ι→Nat) (i0:ι) (u:ι→Z5) (b:ι→Sk (α ⊕ ι)):(Sk.loop d I m i0 u b).bC L=(I i0∧∀ i,I i→(b i).bC (iZ L fun j=>I j∧m j < m i)):=rfl
end
section
variable {α β ι : Type} (L : α → Prop)
@[simp] theorem Sk.agM (a:α):(Sk.fin a).dj L=L a:=rfl
@[simp] theorem Sk.ahT (e:Bool) (x y:Sk α):(Sk.br e x y).dj L=((e=true→x.dj L)∧(e=false→y.dj L)):=rfl
@[simp] theorem Sk.aiB (id:Nat) (c:bH β) (k:β→Sk α):(Sk.r id c k).dj L=(∀ x,x=c.v→c.post x→(k x).dj L):=rfl
@[simp] theorem Sk.ahU (t:Nat) (m n:Int) (k:Sk α):(Sk.wi t m n k).dj L=k.dj L:=rfl
@[simp] theorem Sk.agN (t j n:Nat) (k:Sk α):(Sk.GJ t j n k).dj L=k.dj L:=rfl
@[simp] theorem Sk.ahV (κ n n':Nat) (k:Sk α):(Sk.wn κ n n' k).dj L=k.dj L:=rfl
@[simp] theorem Sk.agO (k:Sk α):(Sk.KF k).dj L=k.dj L:=rfl
@[simp] theorem Sk.agP (k:Sk α):(Sk.Dz k).dj L=k.dj L:=rfl
@[simp] theorem Sk.af7 (a:α):(Sk.dead a).dj L=L a:=rfl
@[simp] theorem Sk.agQ (t:Nat) (c:Bool) (x y:AV) (k1 k2:Sk α):(Sk.XQ t c x y k1 k2).dj L=((c=true→k1.dj L)∧(c=false→k2.dj L)):=rfl
@[simp] theorem Sk.agR (t n:Nat) (k1 k2:Sk α):(Sk.VM t n k1 k2).dj L=k2.dj L:=rfl
@[simp] theorem Sk.agS (id:Nat) (x:Int) (c:tH) (k:Sk α):(Sk.PY id x c k).dj L=k.dj L:=rfl
@[simp] theorem Sk.ahW (κ:Nat) (k:Sk α):(Sk.fz κ k).dj L=k.dj L:=rfl
@[simp] theorem Sk.af8 (b:Bool) (J:β→Prop) (s:Sk (α ⊕ β)) (u:β→Z5) (k:β→Sk α):(Sk.bind b J s u k).dj L=(s.dj (sw L J)∧∀ b,s.val=.inr b→J b→(k b).dj L):=rfl
@[simp] theorem Sk.af9 (d:α) (I:ι→Prop) (m:ι→Nat) (i0:ι) (u:ι→Z5) (b:ι→Sk (α ⊕ ι)):(Sk.loop d I m i0 u b).dj L=(I i0∧∀ i,I i→(b i).dj (iZ L fun j=>I j∧m j < m i)):=rfl
end
@[simp] theorem afa {α β:Type} (L:α→Prop) (J:β→Prop) (a:α):sw L J (.inl a)=L a:=rfl
@[simp] theorem afb {α β:Type} (L:α→Prop) (J:β→Prop) (b:β):sw L J (.inr b)=J b:=rfl
@[simp] theorem afc {α β:Type} (L:α→Prop) (J:β→Prop) (a:α):iZ L J (.inl a)=L a:=rfl
@[simp] theorem afd {α β:Type} (L:α→Prop) (J:β→Prop) (b:β):iZ L J (.inr b)=J b:=rfl
@[simp] theorem Zh {α β:Type} (a:α) (f:β→α):iY (.inl a) f=a:=rfl
@[simp] theorem vA {α β:Type} (b:β) (f:β→α):iY (.inr b) f=f b:=rfl
def Sk.aI:{α:Type}→Sk α→Bool
 | _,.loop ..=>true
 | _,_=>false
def Sk.de:{α:Type}→Sk α→(α→Prop)→Prop
 | _,.fin a,L=>L a
 | _,.br e x y,L=>(e=true→x.de L)∧(e=false→y.de L)
 | _,.r _ c k,L=>∀ x,x=c.v→c.post x→(k x).de L
 | _,.wi _ _ _ k,L=>k.de L
 | _,.wn _ _ _ k,L=>k.de L
 | _,.KF k,L=>k.de L
 | _,.Dz k,L=>k.de L
 | _,.dead a,L=>L a
 | _,.GJ _ _ _ k,L=>k.de L
 | _,.XQ _ c _ _ x y,L=>(c=true→x.de L)∧(c=false→y.de L)
 | _,.VM _ _ _ k,L=>k.de L
 | _,.fz _ k,L=>k.de L
 | _,.op _ k,L=>(k []).de L
 | _,.cl _ _ k,L=>k.de L
 | _,.PY _ _ _ k,L=>k.de L
 | _,.mr n V init _ _ b k,L=>V init∧(∀ g i,V g→i < n→(b g i).de V)∧∀ g,g=(List.range n).foldr (fun i g=>(b g i).val) init→V g→(k g).de L
 | _,.bind _ J s _ k,L=>s.de (sw L J)∧∀ b,(s.aI=false→s.val=.inr b)→J b→(k b).de L
 | _,.loop _ I m i0 _ b,L=>I i0∧∀ i,I i→(b i).de (iZ L fun j=>I j∧m j < m i)
 | _,.rf it I B _ s0 _ _ b k,L=>I 0 s0∧(∀ i s y,I i s→it.ys[i]? = some y→(b s y).de (iZ B (I (i+1))))∧∀ r,iZ B (I it.ys.length) r→(k r).de L
def Sk.ju:{α:Type}→Sk α→(α→Prop)→Prop
 | _,.fin a,L=>L a
 | _,.br e x y,L=>(e=true→x.ju L)∧(e=false→y.ju L)
 | _,.r _ c k,L=>c.pre∧∀ x,x=c.v→c.post x→(k x).ju L
 | _,.wi _ m n k,L=>m=n∧k.ju L
 | _,.wn _ n n' k,L=>n=n'∧k.ju L
 | _,.KF k,L=>k.ju L
 | _,.Dz k,L=>k.ju L
 | _,.dead _,_=>False
 | _,.GJ _ _ n k,L=>n≤maxLen→k.ju L
 | _,.XQ _ c _ _ x y,L=>(c=true→x.ju L)∧(c=false→y.ju L)
 | _,.VM _ n k1 k2,L=>(n=0→k1.ju L∧k1.val=k2.val)∧k2.ju L
 | _,.fz _ k,L=>k.ju L
 | _,.op _ k,L=>∀ m,(k m).val=(k []).val∧(k m).ju L
 | _,.cl _ _ k,L=>k.ju L
 | _,.PY _ x c k,L=>(0≤x∧x≤(c.n:Int))∧k.ju L
 | _,.mr n V init _ _ b k,L=>V init∧(∀ g i,V g→i < n→(b g i).dj V∧(b g i).ju fun _=>True)∧(∀ g i j,V g→i < n→j < n→i≠j→(b (b g j).val i).val=(b (b g i).val j).val)∧∀ g,g=(List.range n).foldr (fun i g=>(b g i).val) init→V g→(k g).ju L
 | _,.bind _ J s _ k,L=>s.ju (sw L J)∧∀ b,(s.aI=false→s.val=.inr b)→J b→(k b).ju L
 | _,.loop _ I m i0 _ b,L=>I i0∧∀ i,I i→(b i).ju (iZ L fun j=>I j∧m j < m i)
 | _,.rf it I B _ s0 _ _ b k,L=>it.pre∧I 0 s0∧(∀ i s y,I i s→it.ys[i]? = some y→(b s y).de (iZ B (I (i+1)))∧(b s y).ju (iZ B (I (i+1))))∧∀ r,iZ B (I it.ys.length) r→(k r).ju L
theorem Sk.bz:{α:Type}→(s:Sk α)→{L:α→Prop}→s.de L→s.dj L
 | _,.fin _,_,h=>h
 | _,.br _ x y,_,h=>⟨fun e=>x.bz (h.1 e),fun e=>y.bz (h.2 e)⟩
 | _,.r _ _ k,_,h=>fun x e p=>(k x).bz (h x e p)
 | _,.wi _ _ _ k,L,h=>k.bz (L:=L) h
 | _,.wn _ _ _ k,L,h=>k.bz (L:=L) h
 | _,.KF k,L,h=>k.bz (L:=L) h
 | _,.Dz k,L,h=>k.bz (L:=L) h
 | _,.dead _,_,h=>h
 | _,.GJ _ _ _ k,L,h=>k.bz (L:=L) h
 | _,.XQ _ _ _ _ x y,_,h=>⟨fun e=>x.bz (h.1 e),fun e=>y.bz (h.2 e)⟩
 | _,.VM _ _ _ k,L,h=>k.bz (L:=L) h
 | _,.fz _ k,L,h=>k.bz (L:=L) h
 | _,.op _ k,L,h=>(k []).bz (L:=L) h
 | _,.cl _ _ k,L,h=>k.bz (L:=L) h
 | _,.PY _ _ _ k,L,h=>k.bz (L:=L) h
 | _,.mr _ _ _ _ _ b k,_,h=>⟨h.1,fun g i hg hi=>(b g i).bz (h.2.1 g i hg hi),fun g e hg=>(k g).bz (h.2.2 g e hg)⟩
 | _,.bind _ _ s _ k,_,h=>⟨s.bz h.1,fun b e hb=>(k b).bz (h.2 b (fun _=>e) hb)⟩
 | _,.loop _ _ _ _ _ b,_,h=>⟨h.1,fun i hi=>(b i).bz (h.2 i hi)⟩
 | _,.rf _ _ _ _ _ _ _ b k,_,h=>⟨h.1,fun i s y hs hy=>(b s y).bz (h.2.1 i s y hs hy),fun r _ hr=>(k r).bz (h.2.2 r hr)⟩
theorem Sk.aR:{α:Type}→(s:Sk α)→{L:α→Prop}→s.ju L→s.bC L
 | _,.fin _,_,h=>h
 | _,.br _ x y,_,h=>⟨fun e=>x.aR (h.1 e),fun e=>y.aR (h.2 e)⟩
 | _,.r _ _ k,_,h=>⟨h.1,fun x e p=>(k x).aR (h.2 x e p)⟩
 | _,.wi _ _ _ k,L,h=>⟨h.1,k.aR (L:=L) h.2⟩
 | _,.wn _ _ _ k,L,h=>⟨h.1,k.aR (L:=L) h.2⟩
 | _,.KF k,L,h=>k.aR (L:=L) h
 | _,.Dz k,L,h=>k.aR (L:=L) h
 | _,.dead _,_,h=>h.elim
 | _,.GJ _ _ _ k,L,h=>fun hn=>k.aR (L:=L) (h hn)
 | _,.XQ _ _ _ _ x y,_,h=>⟨fun e=>x.aR (h.1 e),fun e=>y.aR (h.2 e)⟩
 | _,.VM _ _ k1 k2,L,h=>⟨fun e=>⟨k1.aR (L:=L) (h.1 e).1,(h.1 e).2⟩,k2.aR (L:=L) h.2⟩
 | _,.fz _ k,L,h=>k.aR (L:=L) h
 | _,.op _ k,L,h=>fun m=>⟨(h m).1,(k m).aR (h m).2⟩
 | _,.cl _ _ k,L,h=>k.aR (L:=L) h
 | _,.PY _ _ _ k,L,h=>⟨h.1,k.aR (L:=L) h.2⟩
 | _,.mr _ _ _ _ _ b k,_,h=>⟨h.1,fun g i hg hi=>⟨(h.2.1 g i hg hi).1,(b g i).aR (h.2.1 g i hg hi).2⟩,h.2.2.1,fun g e hg=>(k g).aR (h.2.2.2 g e hg)⟩
 | _,.bind _ _ s _ k,_,h=>⟨s.aR h.1,fun b e hb=>(k b).aR (h.2 b (fun _=>e) hb)⟩
 | _,.loop _ _ _ _ _ b,_,h=>⟨h.1,fun i hi=>(b i).aR (h.2 i hi)⟩
 | _,.rf _ _ _ _ _ _ _ b k,_,h=>⟨h.1,h.2.1,fun i s y hs hy=>⟨(b s y).bz (h.2.2.1 i s y hs hy).1,(b s y).aR (h.2.2.1 i s y hs hy).2⟩,fun r _ hr=>(k r).aR (h.2.2.2 r hr)⟩
theorem qR {α:Type} (l:List α) {i:Nat} (h:i < l.length) (x d:α):(l.set i x).getD i d=x:=by simp [List.getD,h]
theorem qS {α:Type} (l:List α) {i j:Nat} (h:j≠i) (x d:α):(l.set i x).getD j d=l.getD j d:=by simp [List.getD,List.getElem?_set_ne (fun e=>h e.symm)]
def walk {α σ β:Type} (step:α→σ→β ⊕ σ) (fin:σ→β):List α→σ→β
 | [],s=>fin s
 | x :: r,s=>match step x s with
  | .inl b=>b
  | .inr s'=>walk step fin r s'
theorem iter_walk {α σ β ι:Type} [Inhabited α] (l:List α) (pack:σ→Nat→ι) {f:ι→β ⊕ ι} {d:β} (step:α→σ→β ⊕ σ) (fin:σ→β)
  (hs:∀ s i,i < l.length→f (pack s i)=match step (l.getD i default) s with | .inl b=>.inl b | .inr s'=>.inr (pack s' (i+1)))
  (he:∀ s,f (pack s l.length)=.inl (fin s)):∀ (n i:Nat) (s:σ),i≤l.length→l.length - i < n→iter f d n (pack s i)=walk step fin (l.drop i) s
 | 0,i,s,_,hn=>absurd hn (by omega)
 | n+1,i,s,hi,hn=>by
  simp only [iter]
  by_cases h:i < l.length
  ·rw [hs s i h,List.drop_eq_getElem_cons h,show l.getD i default=l[i] from by simp [List.getD,h]]
   simp only [walk]
   cases lX:step l[i] s with
   | inl b=>rfl
   | inr s'=>exact iter_walk l pack step fin hs he n (i+1) s' h (by omega)
  ·obtain rfl:i=l.length:=by omega
   rw [he s,List.drop_length]
   rfl
theorem qE {α σ β ι:Type} [Inhabited α] (l:List α) (pack:σ→Nat→ι) {f:ι→β ⊕ ι} {d:β} (step:α→σ→β ⊕ σ) (fin:σ→β)
  (hs:∀ s i,i < l.length→f (pack s i)=match step (l.getD i default) s with | .inl b=>.inl b | .inr s'=>.inr (pack s' (i+1)))
  (he:∀ s,f (pack s l.length)=.inl (fin s)) {n:Nat} (hn:l.length < n) (s:σ):iter f d n (pack s 0)=walk step fin l s:=by
 have:=iter_walk (d:=d) l pack step fin hs he n 0 s (Nat.zero_le _) (by omega)
 simpa using this
theorem j5 {α σ β:Type} (g:α→σ→σ) (fin:σ→β):∀ (l:List α) (s:σ),walk (fun x s=>.inr (g x s)) fin l s=fin (l.foldl (fun s x=>g x s) s)
 | [],_=>rfl
 | x :: r,s=>by simp only [walk,List.foldl_cons]; exact j5 g fin r (g x s)
theorem BT {α σ β:Type} (step:α→σ→β ⊕ σ) (fin:σ→β):∀ (l r:List α) (s:σ),walk step fin (l++r) s=walk step (fun s=>walk step fin r s) l s
 | [],_,_=>rfl
 | x :: l,r,s=>by
  simp only [List.cons_append,walk]
  cases step x s with
  | inl b=>rfl
  | inr s'=>exact BT step fin l r s'
theorem vT {α:Type} {l:List α} {i:Nat} (h:i < l.length) (d:α):l.getD i d∈l:=by
 rw [show l.getD i d=l[i] from by simp [List.getD,h]]
 exact List.getElem_mem h
theorem tN {α:Type} [Inhabited α] (L:List α) (lo n:Nat):(mZ L lo n).length=n:=by simp [mZ]
theorem LK (n:Int):IntKind.u64.wrap n=n % 18446744073709551616:=rfl
theorem kY (n:Int):0≤IntKind.u64.wrap n∧IntKind.u64.wrap n < 18446744073709551616:=by
 rw [LK]; omega
theorem eu {n:Int} (h:0≤n) (h2:n < 18446744073709551616):IntKind.u64.wrap n=n:=by
 rw [LK]; omega
theorem P7 (n:Int):IntKind.u8.wrap n=n % 256:=rfl
theorem G8 {a b:Int} (k:IntKind) (h:0≤b∧b≤k.bits):ep k a b=a / 2 ^ b.toNat:=by
 unfold ep
 rw [Nat.min_eq_left (by omega),Int.fdiv_eq_ediv_of_nonneg _ (Int.le_of_lt (Int.pow_pos (by omega)))]
theorem Wv {a b:Int} (h:0≤b∧b≤64):gb .u64 a b=(a * 2 ^ b.toNat) % 18446744073709551616:=by
 unfold gb
 have:IntKind.u64.bits=64:=rfl
 rw [this,Nat.min_eq_left (by omega),LK]
theorem LN:(∀ (p:Prop) [Decidable p],(decide p=true)=p)∧(∀ (p:Prop) [Decidable p],decide p=false↔¬ p) ∧
  (∀ (α:Type) (a b:List α),(a++b).length=a.length+b.length)∧(∀ (α:Type) (x:α) (a:List α),(x :: a).length=a.length+1)∧(∀ α:Type,([]:List α).length=0) ∧
  (∀ (α:Type) (a:List α) (i:Nat) (x:α),(a.set i x).length=a.length)∧(∀ (α:Type) (n:Nat) (x:α),(List.replicate n x).length=n) ∧
  (∀ b:Bool,(¬ b=true)=(b=false))∧(∀ b:Bool,(¬ b=false)=(b=true))∧(∀ a b:Int,¬ a < b↔b≤a)∧(∀ a b:Int,¬ a≤b↔b < a) ∧
  (∀ a b:Bool,((a&&b)=true)=(a=true∧b=true))∧(∀ a b:Bool,((a||b)=true)=(a=true∨b=true))∧(∀ a b:Bool,(a&&b)=false↔a=false∨b=false)∧(∀ a b:Bool,(a||b)=false↔a=false∧b=false) ∧
  (∀ a b:Bool,(!a)=b↔a = !b)∧((!true)=false)∧((!false)=true) ∧
  (∀ (α:Type) [BEq α] [LawfulBEq α] (a b:α),(a == b)=true↔a=b)∧(∀ (α:Type) [BEq α] [LawfulBEq α] (a b:α),(a != b)=true↔a≠b) ∧
  (∀ (α:Type) [BEq α] [LawfulBEq α] (a b:α),(a == b)=false↔a≠b)∧(∀ (α:Type) [BEq α] [LawfulBEq α] (a b:α),(a != b)=false↔a=b) ∧
  (∀ (α:Type) (a b:α),(a≠b) = ¬ a=b)∧(∀ (α:Type) [Inhabited α] (L:List α) (lo n:Nat),(mZ L lo n).length=n) :=
 ⟨fun _ _=>decide_eq_true_eq,fun _ _=>decide_eq_false_iff_not,fun _ _ _=>List.length_append,fun _ _ _=>rfl,fun _=>rfl,fun _ _ _ _=>List.length_set,fun _ _ _=>List.length_replicate,
  Bool.not_eq_true,Bool.not_eq_false,fun _ _=>Int.not_lt,fun _ _=>Int.not_le,Bool.and_eq_true,Bool.or_eq_true,fun _ _=>Bool.and_eq_false_iff,fun _ _=>Bool.or_eq_false_iff,
  fun _ _=>Bool.not_eq_eq_eq_not,rfl,rfl,fun _ _ _ _ _=>beq_iff_eq,fun _ _ _ _ _=>bne_iff_ne,fun _ _ _ _ _=>beq_eq_false_iff_ne,fun _ _ _ _ _=>bne_eq_false_iff_eq,fun _ _ _=>rfl,fun _ _=>tN⟩
theorem ON:(∀ (x:Unit),bH.z.post x=True) ∧
 (∀ (p:Prop) (x:Unit),(bH.p p).post x=True) ∧
 (∀ {p:Prop} (h:p) (x:Unit),(bH.t h).post x=True) ∧
 (∀ (p:Prop) {q:Prop} (h:q) (x:Unit),(bH.pt p h).post x=True) ∧
 (∀ (l:List C0) (x:Unit),(bH.o l).post x=True) ∧
 (∀ {α β:Type} (a:bH α) (b:bH β) (x:α × β),(a.and b).post x=(a.post x.1∧b.post x.2)) ∧
 (∀ {β:Type} (a:bH Unit) (b:bH β) (x:β),(a.aj b).post x=b.post x) ∧
 (∀ {β:Type} (a:bH β) (b:bH Unit) (x:β),(a.Fy b).post x=a.post x) ∧
 (∀ {β:Type} (e w:Bool) (a:bH β) (x:β),(a.wh e w).post x=a.post x) ∧
 (∀ {α β:Type} (a:bH α) (b:α→bH β) (x:α × β),(a.dep b).post x=(a.post x.1∧(b x.1).post x.2)) ∧
 (∀ {α:Type} (a:bH α) (b:α→bH Unit) (x:α),(a.pz b).post x=a.post x) ∧
 (∀ {β:Type} (c:il β) (x:β),c.c.post x=c.post x) ∧
 (∀ {β:Type} (c:il β) (i:Nat) (h:∃ g,c.args[i]? = some (.d (.sl 0 g))) (x:β),(c.nil i h).post x=c.post x) ∧
 (∀ {β:Type} (c:il β) (i j:Nat) (cs:List D) (h:c.args[i]? = some (.d (.agg cs))) (h2:∃ g,cs[j]? = some (.sl 0 g)) (x:β),(c.ov i j cs h h2).post x=c.post x) ∧
 (bH.z.pre=True) ∧
 (∀ (p:Prop),(bH.p p).pre=p) ∧
 (∀ {p:Prop} (h:p),(bH.t h).pre=True) ∧
 (∀ (p:Prop) {q:Prop} (h:q),(bH.pt p h).pre=p) ∧
 (∀ (l:List C0),(bH.o l).pre=True) ∧
 (∀ {α β:Type} (a:bH α) (b:bH β),(a.and b).pre=(a.pre∧b.pre)) ∧
 (∀ {β:Type} (a:bH Unit) (b:bH β),(a.aj b).pre=(a.pre∧b.pre)) ∧
 (∀ {β:Type} (a:bH β) (b:bH Unit),(a.Fy b).pre=(a.pre∧b.pre)) ∧
 (∀ {β:Type} (e w:Bool) (a:bH β),(a.wh e w).pre=(e=w→a.pre)) ∧
 (∀ {α β:Type} (a:bH α) (b:α→bH β),(a.dep b).pre=(a.pre∧∀ x,x=a.v→a.post x→(b x).pre)) ∧
 (∀ {α:Type} (a:bH α) (b:α→bH Unit),(a.pz b).pre=(a.pre∧∀ x,x=a.v→a.post x→(b x).pre)) ∧
 (∀ {α β:Type} (a:bH α) (b:α→bH β),(a.dep b).v=(a.v,(b a.v).v)) ∧
 (∀ {α:Type} (a:bH α) (b:α→bH Unit),(a.pz b).v=a.v) ∧
 (∀ {β:Type} (c:il β),c.c.pre=c.pre) ∧
 (∀ {β:Type} (c:il β),c.c.v=c.v) ∧
 (∀ {β:Type} (c:il β) (i:Nat) (h:∃ g,c.args[i]? = some (.d (.sl 0 g))),(c.nil i h).pre=c.pre) ∧
 (∀ {β:Type} (c:il β) (i:Nat) (h:∃ g,c.args[i]? = some (.d (.sl 0 g))),(c.nil i h).v=c.v) ∧
 (∀ {β:Type} (c:il β) (i j:Nat) (cs:List D) (h:c.args[i]? = some (.d (.agg cs))) (h2:∃ g,cs[j]? = some (.sl 0 g)),(c.ov i j cs h h2).pre=c.pre) ∧
 (∀ {β:Type} (c:il β) (i j:Nat) (cs:List D) (h:c.args[i]? = some (.d (.agg cs))) (h2:∃ g,cs[j]? = some (.sl 0 g)),(c.ov i j cs h h2).v=c.v) ∧
 (∀ {α β:Type} (a:bH α) (b:bH β),(a.and b).v=(a.v,b.v)) ∧
 (∀ {β:Type} (a:bH Unit) (b:bH β),(a.aj b).v=b.v) ∧
 (∀ {β:Type} (a:bH β) (b:bH Unit),(a.Fy b).v=a.v) ∧
 (∀ {β:Type} (e w:Bool) (a:bH β),(a.wh e w).v=a.v) ∧
 (∀ {β:Type} (c:j0 β),c.c.pre=c.pre) ∧
 (∀ {β:Type} (c:j0 β),c.c.v=c.v) ∧
 (∀ {β:Type} (c:j0 β) (i:Nat) (h:∃ g,c.args[i]? = some (.d (.sl 0 g))),(c.nil i h).pre=c.pre) ∧
 (∀ {β:Type} (c:j0 β) (i:Nat) (h:∃ g,c.args[i]? = some (.d (.sl 0 g))),(c.nil i h).v=c.v) ∧
 (∀ {β:Type} (c:j0 β) (x:β),c.c.post x=c.post x) ∧
 (∀ {β:Type} (c:j0 β) (i:Nat) (h:∃ g,c.args[i]? = some (.d (.sl 0 g))) (x:β),(c.nil i h).post x=c.post x) ∧
 (∀ {α β:Type} (L:α→Prop) (J:β→Prop) (a:α),sw L J (.inl a)=L a) ∧
 (∀ {α β:Type} (L:α→Prop) (J:β→Prop) (b:β),sw L J (.inr b)=J b) ∧
 (∀ {α β:Type} (L:α→Prop) (J:β→Prop) (a:α),iZ L J (.inl a)=L a) ∧
 (∀ {α β:Type} (L:α→Prop) (J:β→Prop) (b:β),iZ L J (.inr b)=J b) ∧
 (∀ (i:Int) (n:Nat),bU i n=(0≤i∧i < (n:Int))) ∧
 (∀ n m bytes:Nat,yE n m bytes=(n+m≤maxLen∧(n+m) * bytes≤140737488355328)) ∧
 (∀ (n:Int) (bytes:Nat),Zf n bytes=(0≤n∧n.toNat≤maxLen∧n.toNat * bytes≤140737488355328)) ∧
 (∀ α:Prop,(α→True)=True) ∧
 (∀ α:Type,(α→True)=True) ∧
 (∀ p:Prop,(True∧p)=p) ∧
 (∀ p:Prop,(p∧True)=p) ∧
 (∀ p:Prop,(p∧p)=p) ∧
 (∀ p:Prop,(True→p)=p) ∧
 (∀ p:Prop,(False→p)=True):=by
 refine ⟨?_,?_,?_,?_,?_,?_,?_,?_,?_,?_,?_,?_,?_,?_,?_,?_,?_,?_,?_,?_,?_,?_,?_,?_,?_,?_,?_,?_,?_,?_,?_,?_,?_,?_,?_,?_,?_,?_,?_,?_,?_,?_,?_,?_,?_,?_,?_,?_,?_,?_,?_,?_,?_,?_,?_,?_,?_⟩
 all_goals first | rfl | (intros; rfl) | (intros; simp)
def kk {P:Program} {T:List (Nat × TI)} (hT:pk P T) (hm:P.follows .mixedOrders=true) {f:FuncId} {fn:Func} (hf:P.funcs[f]? = some fn) (args:List AV) {α:Type} (enc:α→AV) (fl:Bool) (s:Sk α) (v:α) {pre:Prop} (ok:pre→s.bC fun _=>True)
  (post:α→Prop:=fun _=>True) (hp:post v:=by trivial) (hv:v=s.val:=by exact id rfl) (n:Nat:=3000) (hb:fn.body.isSome=true:=by exact id (by kernel_rfl)) (hc:(ga P f&&Nat.ble args.length fn.ntmps)=true:=by exact id (by kernel_rfl))
  (h:rl P T fn.ntmps fn.results.toList (Dy fn.results.toList) 0 [] n [.code (fn.body.get hb)] ⟨dJ 0 args,[]⟩ (fun a=>.ret (enc a) []) s=(rl P T fn.ntmps fn.results.toList (Dy fn.results.toList) 0 [] n [.code (fn.body.get hb)] ⟨dJ 0 args,[]⟩ (fun a=>.ret (enc a) []) s).diag:=by exact id (by kernel_rfl)):il α :=
 ⟨P,f,args,enc,fl,v,pre,fun hp=>hv ▸ gR.sk hT hm enc (fun _=>[]) hf (Option.some_get hb).symm hc n s h (ok hp),post,hp⟩
theorem u0 {c:Prop} (f:c) (_:True):c:=f
theorem u2 {a b c:Prop} (f:a→b→c) (h:a∧b):c:=f h.1 h.2
theorem u3 {a b c d:Prop} (f:a→b→c→d) (h:a∧b∧c):d:=f h.1 h.2.1 h.2.2
theorem u4 {a b c d e:Prop} (f:a→b→c→d→e) (h:a∧b∧c∧d):e:=f h.1 h.2.1 h.2.2.1 h.2.2.2
theorem u5 {a b c d e g:Prop} (f:a→b→c→d→e→g) (h:a∧b∧c∧d∧e):g:=f h.1 h.2.1 h.2.2.1 h.2.2.2.1 h.2.2.2.2
theorem u6 {a b c d e g i:Prop} (f:a→b→c→d→e→g→i) (h:a∧b∧c∧d∧e∧g):i:=f h.1 h.2.1 h.2.2.1 h.2.2.2.1 h.2.2.2.2.1 h.2.2.2.2.2
def kp {P:Program} {T:List (Nat × TI)} (hT:pk P T) (hm:P.follows .mixedOrders=true) {f:FuncId} {fn:Func} (hf:P.funcs[f]? = some fn) (args:List AV) {α:Type} (enc:α→AV) (fl:Bool) {s:Sk α} (v:α) {pre:Prop} (ok:pre→s.bC fun _=>True)
  {post:α→Prop} (hq:s.dj post) (hv:v=s.val:=by exact id rfl) (n:Nat:=3000) (hb:fn.body.isSome=true:=by exact id (by kernel_rfl)) (hc:(ga P f&&Nat.ble args.length fn.ntmps)=true:=by exact id (by kernel_rfl))
  (h:rl P T fn.ntmps fn.results.toList (Dy fn.results.toList) 0 [] n [.code (fn.body.get hb)] ⟨dJ 0 args,[]⟩ (fun a=>.ret (enc a) []) s=(rl P T fn.ntmps fn.results.toList (Dy fn.results.toList) 0 [] n [.code (fn.body.get hb)] ⟨dJ 0 args,[]⟩ (fun a=>.ret (enc a) []) s).diag:=by exact id (by kernel_rfl)):il α :=
 ⟨P,f,args,enc,fl,v,pre,fun hp=>hv ▸ gR.sk hT hm enc (fun _=>[]) hf (Option.some_get hb).symm hc n s h (ok hp),post,hv ▸ Sk.dk s hq⟩
@[simp] theorem aiP {P:Program} {T:List (Nat × TI)} (hT:pk P T) (hm:P.follows .mixedOrders=true) {f:FuncId} {fn:Func} (hf:P.funcs[f]? = some fn) (args:List AV) {α:Type} (enc:α→AV) (fl:Bool) (s:Sk α) (v:α) {pre:Prop} (ok:pre→s.bC fun _=>True) (post:α→Prop) (hp:post v) (hv:v=s.val) (n:Nat) (hb:fn.body.isSome=true) (hc:(ga P f&&Nat.ble args.length fn.ntmps)=true) (h:rl P T fn.ntmps fn.results.toList (Dy fn.results.toList) 0 [] n [.code (fn.body.get hb)] ⟨dJ 0 args,[]⟩ (fun a=>.ret (enc a) []) s=(rl P T fn.ntmps fn.results.toList (Dy fn.results.toList) 0 [] n [.code (fn.body.get hb)] ⟨dJ 0 args,[]⟩ (fun a=>.ret (enc a) []) s).diag):(kk hT hm hf args enc fl s v ok post hp hv n hb hc h).v=v:=rfl
@[simp] theorem ahX {P:Program} {T:List (Nat × TI)} (hT:pk P T) (hm:P.follows .mixedOrders=true) {f:FuncId} {fn:Func} (hf:P.funcs[f]? = some fn) (args:List AV) {α:Type} (enc:α→AV) (fl:Bool) (s:Sk α) (v:α) {pre:Prop} (ok:pre→s.bC fun _=>True) (post:α→Prop) (hp:post v) (hv:v=s.val) (n:Nat) (hb:fn.body.isSome=true) (hc:(ga P f&&Nat.ble args.length fn.ntmps)=true) (h:rl P T fn.ntmps fn.results.toList (Dy fn.results.toList) 0 [] n [.code (fn.body.get hb)] ⟨dJ 0 args,[]⟩ (fun a=>.ret (enc a) []) s=(rl P T fn.ntmps fn.results.toList (Dy fn.results.toList) 0 [] n [.code (fn.body.get hb)] ⟨dJ 0 args,[]⟩ (fun a=>.ret (enc a) []) s).diag):(kk hT hm hf args enc fl s v ok post hp hv n hb hc h).pre=pre:=rfl
@[simp] theorem agT {P:Program} {T:List (Nat × TI)} (hT:pk P T) (hm:P.follows .mixedOrders=true) {f:FuncId} {fn:Func} (hf:P.funcs[f]? = some fn) (args:List AV) {α:Type} (enc:α→AV) (fl:Bool) (s:Sk α) (v:α) {pre:Prop} (ok:pre→s.bC fun _=>True) (post:α→Prop) (hp:post v) (hv:v=s.val) (n:Nat) (hb:fn.body.isSome=true) (hc:(ga P f&&Nat.ble args.length fn.ntmps)=true) (h:rl P T fn.ntmps fn.results.toList (Dy fn.results.toList) 0 [] n [.code (fn.body.get hb)] ⟨dJ 0 args,[]⟩ (fun a=>.ret (enc a) []) s=(rl P T fn.ntmps fn.results.toList (Dy fn.results.toList) 0 [] n [.code (fn.body.get hb)] ⟨dJ 0 args,[]⟩ (fun a=>.ret (enc a) []) s).diag):(kk hT hm hf args enc fl s v ok post hp hv n hb hc h).post=post:=rfl
theorem okT {p:Prop} (h:p:=by
 all_goals (repeat' first | assumption | (apply And.intro) | (intro h))
 all_goals first | trivial | assumption | omega | ((try simp only [LN] at *) <;> first | omega | (refine (aA ?_ ?_).trans ?_ <;> omega) | (simp (disch:=omega) only [aA] at *; omega) | (grind) | (simp_all; done) | (simp_all; omega))):p:=h
theorem aga {p:Prop} (h:p:=by
 all_goals (repeat' first | assumption | (apply And.intro) | (intro h))
 all_goals first | trivial | assumption | omega | ((try simp only [LN] at *) <;> first | omega | (refine (aA ?_ ?_).trans ?_ <;> omega) | (simp (disch:=omega) only [aA] at *; omega) | (grind) | (simp (disch:=omega) only [aA] at *; grind) | (simp_all; done) | (simp_all; omega))):p:=h
theorem qT {p:Prop} (h:p:=by
 refine Sk.aR _ ?_
 simp only [Sk.ju,Sk.aI,reduceCtorEq,sw,iZ,bH.z,bH.p,bH.t,bH.pt,bH.o,bH.and,bH.aj,bH.Fy,bH.wh,bH.dep,bH.pz,il.c,kk,kp,il.nil,il.ov,j0.c,j0.nil,Sk.dj,Sk.de,maxLen,implies_true,true_and,and_true,and_self,true_implies,false_implies,bU,yE,Zf]):p:=h
theorem mA {p:Prop} (h:p:=by
 refine Sk.aR _ ?_
 simp only [Sk.ju,Sk.aI,reduceCtorEq,sw,iZ,bH.z,bH.p,bH.t,bH.pt,bH.o,bH.and,bH.aj,bH.Fy,bH.wh,bH.dep,bH.pz,il.c,kk,kp,il.nil,il.ov,j0.c,j0.nil,Sk.dj,Sk.de,maxLen,implies_true,true_and,and_true,and_self,true_implies,false_implies,bU,yE,Zf]
 all_goals (repeat' first | assumption | (apply And.intro) | (intro h))
 all_goals first | trivial | assumption | omega | ((try simp only [LN] at *) <;> first | omega | (refine (aA ?_ ?_).trans ?_ <;> omega) | (simp (disch:=omega) only [aA] at *; omega) | (grind) | (simp_all; done) | (simp_all; omega))):p:=h
theorem Bu {p:Prop} (h:p:=by
 refine Sk.aR _ ?_
 simp only [Sk.ju,Sk.aI,reduceCtorEq,sw,iZ,bH.z,bH.p,bH.t,bH.pt,bH.o,bH.and,bH.aj,bH.Fy,bH.wh,bH.dep,bH.pz,il.c,kk,kp,il.nil,il.ov,j0.c,j0.nil,Sk.dj,Sk.de,forall_eq,Sum.forall,maxLen,implies_true,true_and,and_true,and_self,true_implies,false_implies,bU,yE,Zf]
 all_goals (repeat' first | assumption | (apply And.intro) | (intro h))
 all_goals first | trivial | assumption | omega | ((try simp only [LN] at *) <;> first | omega | (refine (aA ?_ ?_).trans ?_ <;> omega) | (simp (disch:=omega) only [aA] at *; omega) | (grind) | (simp_all; done) | (simp_all; omega))):p:=h
theorem Fz {p:Prop} (h:p:=by
 refine Sk.bz _ ?_
 simp only [Sk.aI,reduceCtorEq,sw,iZ,bH.z,bH.p,bH.t,bH.pt,bH.o,bH.and,bH.aj,bH.Fy,bH.wh,bH.dep,bH.pz,il.c,kk,kp,il.nil,il.ov,j0.c,j0.nil,Sk.de,maxLen,implies_true,true_and,and_true,and_self,true_implies,false_implies,bU,yE,Zf]
 all_goals (repeat' first | assumption | (apply And.intro) | (intro h))
 all_goals first | trivial | assumption | omega | ((try simp only [LN] at *) <;> first | omega | (refine (aA ?_ ?_).trans ?_ <;> omega) | (simp (disch:=omega) only [aA] at *; omega) | (grind) | (simp_all; done) | (simp_all; omega))):p:=h
theorem Ww {p:Prop} (h:p:=by
 refine Sk.bz _ ?_
 simp only [Sk.aI,reduceCtorEq,sw,iZ,bH.z,bH.p,bH.t,bH.pt,bH.o,bH.and,bH.aj,bH.Fy,bH.wh,bH.dep,bH.pz,il.c,kk,kp,il.nil,il.ov,j0.c,j0.nil,Sk.de,forall_eq,Sum.forall,maxLen,implies_true,true_and,and_true,and_self,true_implies,false_implies,bU,yE,Zf]
 all_goals (repeat' first | assumption | (apply And.intro) | (intro h))
 all_goals first | trivial | assumption | omega | ((try simp only [LN] at *) <;> first | omega | (refine (aA ?_ ?_).trans ?_ <;> omega) | (simp (disch:=omega) only [aA] at *; omega) | (grind) | (simp_all; done) | (simp_all; omega))):p:=h
theorem Wx {α σ β:Type} {step:α→σ→β ⊕ σ} {I:Nat→σ→Prop} {Q:β→Prop}:∀ (l:List α) (k0:Nat) (s:σ),(∀ k x s,x∈l→I k s→match step x s with | .inl b=>Q b | .inr s'=>I (k+1) s')→I k0 s →
  (∃ b,Q b∧∀ fin,walk step fin l s=b)∨∃ s',I (k0+l.length) s'∧∀ fin,walk step fin l s=fin s'
 | [],k0,s,_,h0=>.inr ⟨s,h0,fun _=>rfl⟩
 | x :: r,k0,s,h,h0=>by
  have hx:=h k0 x s (by simp) h0
  simp only [walk]
  cases hs:step x s with
  | inl b=>rw [hs] at hx; exact .inl ⟨b,hx,fun _=>rfl⟩
  | inr s' =>
   rw [hs] at hx
   rcases Wx r (k0+1) s' (fun k y t hy=>h k y t (List.mem_cons_of_mem _ hy)) hx with ⟨b,q,e⟩ | ⟨t,q,e⟩
   ·exact .inl ⟨b,q,e⟩
   ·exact .inr ⟨t,by rw [List.length_cons,show k0+(r.length+1)=k0+1+r.length by omega]; exact q,e⟩
theorem dT {α σ γ δ ι:Type} [Inhabited α] (l:List α) (pack:σ→Nat→ι) {f:ι→(γ ⊕ δ) ⊕ ι} {d:γ ⊕ δ} (step:α→σ→γ ⊕ σ) (fin:σ→δ) (g:δ→γ)
  (hs:∀ s i,i < l.length→f (pack s i)=match step (l.getD i default) s with | .inl b=>.inl (.inl b) | .inr s'=>.inr (pack s' (i+1)))
  (he:∀ s,f (pack s l.length)=.inl (.inr (fin s))) {n:Nat} (hn:l.length < n) (s:σ):iY (iter f d n (pack s 0)) g=walk step (fun s=>g (fin s)) l s:=by
 rw [qE (d:=d) l pack (fun x s=>match step x s with | .inl b=>.inl (.inl b) | .inr s'=>.inr s') (fun s=>.inr (fin s)) (fun s i hi=>by rw [hs s i hi]; cases step (l.getD i default) s <;> rfl) he hn s]
 clear hs he
 induction l generalizing s with
 | nil=>rfl
 | cons x r ih =>
  simp only [walk]
  cases step x s with
  | inl b=>rfl
  | inr s'=>exact ih (by simp at hn; omega) s'
section
structure uY (P:Program) (fi:FuncId) (nt:Nat) (ys:List (List AV)) where
 l:Nat
 w0:World
 S:Nat→Prop
 J:Nat→(Nat→Prop)→World→Prop
 Jx:(Nat→Prop)→World→Prop
 jk:∀ i F W W',J i F W→Kept W W' (fun b=>w0.heap.size≤b∧¬ F b∧¬ S b)→J i F W'
 jxk:∀ F W W',Jx F W→Kept W W' (fun b=>w0.heap.size≤b∧¬ F b∧¬ S b)→Jx F W'
 yl:∀ i F W (vs:Array Value),i < ys.length→J i F W→(∀ ν,eo W (fun _=>False) (fun _=>none) ν (ys.getD i []) vs.toList)→YieldAt Fence.wide 0 P l vs W fun e W'=>∃ F',(∀ b,F' b→F b∨W.heap.size≤b)∧(∀ b,F' b→b < W'.heap.size)∧Kept W W' F∧((e=.returned (.bool true)∧J (i+1) F' W')∨(e=.returned (.bool false)∧Jx F' W'))
variable {P : Program} {fi : FuncId} {nt : Nat} {ys : List (List AV)}
def uY.yv (X:uY P fi nt ys):Value:=.func (.yield X.l) #[] #[]
structure uY.Rt (X:uY P fi nt ys) (F:Nat→Prop) (C:Cx):Prop where
 dl:C.dl=[]
 sz:X.w0.heap.size≤C.w0.heap.size
 sub:∀ b,X.S b→C.S0 b
 dis:∀ b,C.S0 b→¬ F b
 GJ:∀ b,F b→b < C.w0.heap.size
 own:∀ b,C.T0 b→¬ F b∧X.w0.heap.size≤b
def uY.H (X:uY P fi nt ys) (i:Nat) (C:Cx):Prop:=∃ F,X.Rt F C∧X.J i F C.w0
def uY.acH (X:uY P fi nt ys) (C:Cx):Prop:=∃ F,X.Rt F C∧X.Jx F C.w0
def uY.Fin (X:uY P fi nt ys) (cs:List Frame) (m:Machine):Prop:=∃ v w' fr,((∃ F,X.J ys.length F w')∨∃ F,X.Jx F w')∧Steps P m (lone fr cs w')∧fr.fn=fi∧fr.leaving P w' (.returned v)
theorem uY.Fin.steps {X:uY P fi nt ys} {cs:List Frame} {m m':Machine} (hs:Steps P m m') (h:X.Fin cs m'):X.Fin cs m :=
 let ⟨v,w',fr,q1,q2,q3⟩:=h
 ⟨v,w',fr,q1,hs.trans q2,q3⟩
def uY.g (X:uY P fi nt ys) (T:List (Nat × TI)) (fn:Func) (H:Cx→Prop):Goal :=
 ⟨P,T,nt,fi,fn,.any,[],2,[0],#[X.yv],fun C _ cs m=>H C→X.Fin cs m,fun _ _ cs m m' hs hz h=>.steps hs (hz h)⟩
theorem uY.Rt.still {X:uY P fi nt ys} {F:Nat→Prop} {C:Cx} {A:M} {a:Act} {w:World} {S:Nat→Prop} {μ:Mu} {ν:Nat→Bool} (hF:X.Rt F C) (h:dG C A a w S μ ν):Kept C.w0 w (fun b=>X.w0.heap.size≤b∧¬ F b∧¬ X.S b) :=
 h.kept.Bv fun b hb=>⟨(hF.own b hb).2,(hF.own b hb).1,fun hs=>C.dis b (hF.sub b hs) hb⟩
theorem uY.yield {X:uY P fi nt ys} {F:Nat→Prop} {C:Cx} {A:M} {a:Act} {w:World} {S:Nat→Prop} {μ:Mu} {i:Nat} (dy:∀ ν,dG C A a w S μ ν) (hF:X.Rt F C) (hJ:X.J i F C.w0) (hi:i < ys.length) {vs:Array Value}
  (hr:∀ ν,eo w (fun _=>False) (fun _=>none) ν (ys.getD i []) vs.toList):YieldAt Fence.wide 0 P X.l vs w fun e W'=>∃ C',C'.P=C.P∧C'.nt=C.nt∧(∀ ν,dG C' A a W' S μ ν)∧((e=.returned (.bool true)∧X.H (i+1) C')∨(e=.returned (.bool false)∧X.acH C')):=by
 have h0:=dy fun _=>false
 obtain ⟨fn,tmps,Q6,body,h1,h2⟩:=X.yl i F w vs hi (X.jk _ _ _ _ hJ (hF.still h0)) hr
 refine ⟨fn,tmps,Q6,body,h1,h2.mono ?_⟩
 rintro e W' ⟨F',q1,q2,q3,q4⟩
 have kN:=h0.kept.size
 have nS:∀ b,S b→¬ F b:=fun b hb hf=>by
  rcases h0.fresh b hb with h | h | h
  ·exact hF.dis b h hf
  ·have:=hF.GJ b hf; omega
  ·exact (hF.own b h).1 hf
 have nO:∀ b,ug A μ b→¬ F b:=fun b hb hf=>by
  rcases h0.TS hb with h | h
  ·have:=hF.GJ b hf; omega
  ·exact (hF.own b h).1 hf
 have hS:∀ b,S b→W'.heap[b]? = w.heap[b]?:=fun b hb=>q3.block b (h0.bound b hb) (nS b hb)
 have vQ:∀ ν,Core A a.tmps W' S μ ν:=fun ν=>(dy ν).core.keep (fun _=>.inr rfl) hS (fun q hq=>q3.block q (by obtain ⟨_,_,hb⟩:=h0.core.tM hq; exact hb.lt) (nO q hq)) q3.size
 have ady:kO W' S:=h0.Bw.mono (fun _ x=>x) hS
 have hrt:X.Rt F' (Cx.at C.P C.nt W' S A μ ady (vQ fun _=>false).mem (vQ fun _=>false).bound [] (fun d h=>by cases h) List.nodup_nil):=by
  refine ⟨rfl,Nat.le_trans hF.sz (Nat.le_trans kN q3.size),fun b hb=>h0.fU b (hF.sub b hb),fun b hb hf=>?_,q2,fun b hb=>⟨fun hf=>?_,?_⟩⟩
  ·rcases q1 b hf with h | h
   ·exact nS b hb h
   ·have:=h0.bound b hb; omega
  ·rcases q1 b hf with h | h
   ·exact nO b hb h
   ·obtain ⟨_,_,pn⟩:=h0.core.tM hb
    have:=pn.lt
    omega
  ·rcases h0.TS hb with h | h
   ·exact Nat.le_trans hF.sz h
   ·exact (hF.own b h).2
 refine ⟨Cx.at C.P C.nt W' S A μ ady (vQ fun _=>false).mem (vQ fun _=>false).bound [] (fun d h=>by cases h) List.nodup_nil,rfl,rfl,fun ν=>(vQ ν).sim h0.tmps _ _ _ _ _ _ (h0.defers.trans hF.dl),?_⟩
 exact q4.imp (fun ⟨a,b⟩=>⟨a,F',hrt,b⟩) (fun ⟨a,b⟩=>⟨a,F',hrt,b⟩)
def YW (X:uY P fi nt ys) (k:List Item) (ops:Array Oper) (H:Cx→Prop) (ya:List Nat) (kn:Option (Nat × Bool)) (l:List Nat) (st:St):Prop :=
 ∀ C:Cx,C.P=P→C.nt=nt→H C→∀ a w,(∀ u,u∈ya→a.tmps.getD u undef=X.yv)→(∀ s b,kn=some (s,b)→s < nt∧a.tmps.getD s undef=.bool b)→kW C st a w →
  wpOpsIn Fence.wide 0 P ops (fun e a' w'=>e=.normal∧∀ (b:Frame) (cs:List Frame),b.fn=fi→b.kind=.normal→b.roundOf=none→X.Fin cs (lone (b.atR a' k) cs w')) l a w
variable {X : uY P fi nt ys} {k : List Item} {ops : Array Oper} {H : Cx → Prop} {ya : List Nat} {kn : Option (Nat × Bool)} {l : List Nat} {st st' : St}
theorem YW.le (h:NV st st') (hg:YW X k ops H ya kn l st'):YW X k ops H ya kn l st:=fun C h1 h2 h3 a w h4 h5 h6=>hg C h1 h2 h3 a w h4 h5 (h C a w h6)
theorem YW.nil {T:List (Nat × TI)} {fn:Func} (h0:0∈ya) (h:G (X.g T fn H) k st):YW X k ops H ya kn [] st:=fun C h1 h2 h3 a w h4 _ h6 =>
 ⟨rfl,fun b cs e1 e2 e3=>h C h1 h2 a w (fun u hu=>by
  have hu:u=0:=by simpa [uY.g] using hu
  subst hu
  exact h4 0 h0) h6 b cs e1 e2 ⟨fun _=>by show (2:Nat)≠1; decide,fun _=>e3⟩ h3⟩
theorem P8 {P:Program} {o o':Oper} {a:Act} {w:World} {next next':Act→World→Prop} {Q Q':Exit→Act→World→Prop} {n:Nat} (ho:o'.op=o.op) (hd':o'.dst=o.dst) (ht:o'.type=o.type) (hd:∀ c,o.op≠.defer c) (hn:∀ a w,next a w→next' a w) (hq:∀ e a w,Q e a w→e=.normal) (h:o'.wp P a w next Q):o.wpIn Fence.wide n P a w next' Q':=by
 refine ⟨fun _ _=>trivial,?_⟩
 rw [Oper.semAt_eq _ _ _ hd]
 unfold Oper.wp at h
 have he:execOp a.eval o'=execOp a.eval o:=by
  unfold execOp
  rw [ho,ht]
 rw [he] at h
 generalize (execOp a.eval o).run P w=r at *
 have no:¬ LetsOut Q:=fun ⟨_,_,q⟩=>by cases hq _ _ _ q
 have hdp:(Fence.wide.depth.isSome=true→1≤n):=fun h=>by simp [Fence.wide] at h
 cases r with
 | ok x w' =>
  cases x <;> simp only [Oper.upon,Oper.uponIn,hd'] at h ⊢ <;>
   first
    | exact hn _ _ h
    | exact ⟨hdp,(callsIn_wide.2 h).mono (fun e Z7 he=>by cases e <;> first | exact hn _ _ he | exact absurd (hq _ _ _ he) (by simp) | exact absurd he no)⟩
    | exact ⟨hdp,fun c cs _=>by obtain ⟨v,Z7,q,s⟩:=h c cs; exact ⟨v,Z7,hn _ _ q,stepsIn_wide.2 s⟩⟩
 | halt x w'=>cases x <;> simp only [Oper.upon,Oper.uponIn] at h ⊢ <;> first | exact h.elim | exact absurd (hq _ _ _ h) (by simp)
theorem T6 {P:Program} {pre ops:Array Oper} {Q Q':Exit→Act→World→Prop} {l:List Nat} (QK:∀ i,i < pre.size→ops[i]? = pre[i]?) (hg:(pre.toList.all fun o=>match o.guard with | some (j,_)=>Nat.blt j pre.size | none=>true)=true) (hd:na pre=true) (hq:∀ e a w,Q e a w→e=.normal) :
  ∀ (is:List Nat),(∀ i,i∈is→i < pre.size)→∀ a w,wpOps P pre Q is a w→(∀ a' w',Q .normal a' w'→wpOpsIn Fence.wide 0 P ops Q' l a' w')→wpOpsIn Fence.wide 0 P ops Q' (is++l) a w
 | [],_,a,w,h,hk=>hk a w h
 | i :: is,hi,a,w,h,hk=>by
  have gI:=hi i (by simp)
  have ih:=T6 (P:=P) (l:=l) (Q':=Q') QK hg hd hq is (fun j hj=>hi j (by simp [hj]))
  simp only [wpOps,List.cons_append,wpOpsIn] at h ⊢
  rw [QK i gI]
  cases ho:pre[i]? with
  | none=>rw [ho] at h; exact ih a w h hk
  | some o =>
   rw [ho] at h
   simp only at h ⊢
   have hw:Region.wanted o (yielded ops a.tmps)=Region.wanted o (yielded pre a.tmps):=by
    unfold Region.wanted
    cases hgd:o.guard with
    | none=>rfl
    | some jw =>
     obtain ⟨j,want⟩:=jw
     simp only [List.all_eq_true] at hg
     have:=hg o (by obtain ⟨hi,rfl⟩:=Array.getElem?_eq_some_iff.1 ho; simp)
     rw [hgd] at this
     have hj:j < pre.size:=by simpa using this
     simp only [yielded,QK j hj]
   rw [hw]
   split
   ·rename_i hw
    rw [if_pos hw] at h
    rcases h with h | ⟨_,_,_,q⟩
    ·exact P8 rfl rfl rfl (vP hd ho) (fun a' w' hh=>ih a' w' hh hk) hq h
    ·cases hq _ _ _ q
   ·rename_i hw
    rw [if_neg hw] at h
    exact ⟨fun _ _=>trivial,ih _ w h hk⟩
theorem G9 {l:List Nat} {o:Oper} (h:uK l #[o]=true) {a:Act} {v:Value} {u:Nat} (hu:u∈l):(a.put o.dst v).tmps.getD u undef=a.tmps.getD u undef:=by
 simp only [uK,List.all_eq_true] at h
 have h1:=h u hu o (by simp)
 cases hd:o.dst with
 | none=>rfl
 | some d =>
  rw [hd] at h1
  exact dw _ _ _ _ (fun e=>by subst e; simp at h1)
theorem T7 {l:List Nat} {pre:Array Oper} (h:uK l pre=true) {K:Array Value→Prop} (hK:∀ t t':Array Value,(∀ u,u∈l→t'.getD u undef=t.getD u undef)→K t→K t'):TH pre K:=fun i o a v ho hk =>
 hK _ _ (fun u hu=>G9 (l:=l) (by
  simp only [uK,List.all_eq_true] at h ⊢
  intro t ht o' Xv
  have:o'=o:=by simpa using Xv
  subst this
  exact h t ht o' (by obtain ⟨hi,rfl⟩:=Array.getElem?_eq_some_iff.1 ho; simp)) hu) hk
def knL:Option (Nat × Bool)→List Nat
 | some (s,_)=>[s]
 | none=>[]
theorem YW.pre {T:List (Nat × TI)} (hT:pk P T) (hm:P.follows .mixedOrders=true) {pre:Array Oper} {kX:List C0} {ob:Ob} (QK:∀ i,i < pre.size→ops[i]? = pre[i]?) (hg:(pre.toList.all fun o=>match o.guard with | some (j,_)=>Nat.blt j pre.size | none=>true)=true) (hd:na pre=true) (hya:uK ya pre=true)
  (hr:rz P T nt pre false none st kX=some (st',ob)) (cD:ob.den) (h:YW X k ops H ya none l st'):YW X k ops H ya none (List.range pre.size++l) st:=by
 intro C h1 h2 h3 a w h4 h5 h6
 have hw:=Ej (C:=C) (T:=T) (by rw [h1]; exact hT) (by rw [h1]; exact hm) (by rw [h1,h2]; exact hr) cD h6
 rcases hw with ⟨-,hw⟩ | ⟨e,-⟩
 ·rw [h1] at hw
  have hw:=vw (K:=fun t=>∀ u,u∈ya→t.getD u undef=X.yv) (T7 hya fun t t' he hk u hu=>(he u hu).trans (hk u hu)) (fun e a w h=>h.1) _ a w h4 hw
  exact T6 QK hg hd (fun e a w h=>h.1.1) _ (fun i hi=>List.mem_range.1 hi) a w hw fun a' w' hh=>h C h1 h2 h3 a' w' hh.2 (fun s b e=>by cases e) hh.1.2
 ·cases e
def FA (ops:Array Oper) (kn:Option (Nat × Bool)) (o:Oper):Option Bool :=
 match o.guard with
 | none=>some true
 | some (j,w)=>(match C3 ops j,kn with
  | some s,some (s',b)=>bif Nat.beq s s' then some (b == w) else none
  | _,_=>none)
theorem yW {o:Oper} {b:Bool} (h:FA ops kn o=some b) {a:Act} (hk:∀ s b,kn=some (s,b)→s < a.tmps.size∧a.tmps.getD s undef=.bool b):Region.wanted o (yielded ops a.tmps)=b:=by
 unfold FA at h
 unfold Region.wanted
 cases hgd:o.guard with
 | none=>rw [hgd] at h; simpa using h
 | some jw =>
  obtain ⟨j,want⟩:=jw
  rw [hgd] at h
  simp only at h ⊢
  split at h
  ·rename_i s s' b' hs
   rw [Bool.cond_eq_ite] at h
   split at h
   ·rename_i he
    have he:=Nat.eq_of_beq_eq_true he
    subst he
    obtain ⟨q1,q2⟩:=hk _ _ rfl
    rw [TE hs q1,q2]
    simp only [Option.some.injEq] at h
    subst h
    cases b' <;> cases want <;> rfl
   ·cases h
  ·cases h
theorem kW.drop {C:Cx} {a:Act} {w:World} {d:Nat} (h:kW C st a w) (hd:d < C.nt) (v:Value):kW C ⟨aY [d] st.sl,st.lb⟩ (a.put (some d) v) w:=by
 obtain ⟨S,μ,hs⟩:=h
 refine ⟨S,μ,fun ν=>?_⟩
 have:=(hs ν).put (dst:=some d) (x:=.any) (v:=v) (fun t e=>by cases e; exact hd) (.any _)
 refine this.weaken (fun u x hx=>?_) (fun κ b hb=>⟨b,hb,fun _ h=>h⟩)
 simp only [St.gL,M.yH,M.put] at hx ⊢
 by_cases e:u=d
 ·subst e
  have:St.get (aY [u] st.sl) u=.any:=by simp [St.get,nI]
  rw [this]
  exact .any _
 ·simp only [e,if_false] at hx
  have:St.get (aY [d] st.sl) u=St.get st.sl u:=by simp [St.get,nI,e]
  rw [this]
  exact hx
theorem kW.agb {C:Cx} {a:Act} {w:World} {d:Nat} (h:kW C st a w) (hd:d < C.nt) {x:AV} {v:Value} (hx:∀ S μ,(∀ ν,dG C st.gL a w S μ ν)→∀ ν,Rel w S μ ν x v):kW C ⟨(d,x) :: aY [d] st.sl,st.lb⟩ (a.put (some d) v) w:=by
 obtain ⟨S,μ,hs⟩:=h
 refine ⟨S,μ,fun ν=>?_⟩
 have:=(hs ν).put (dst:=some d) (x:=x) (v:=v) (fun t e=>by cases e; exact hd) (hx S μ hs ν)
 refine this.weaken (fun u y hy=>?_) (fun κ b hb=>⟨b,hb,fun _ h=>h⟩)
 simp only [St.gL,M.yH,M.put] at hy ⊢
 rw [KA]
 by_cases e:u=d
 ·subst e; simpa using hy
 ·rw [if_neg (fun h=>e h.symm)]; simpa [e] using hy
theorem LL {o:Oper} (h:uK (ya++knL kn) #[o]=true) {a:Act} (v:Value) (h4:∀ u,u∈ya→a.tmps.getD u undef=X.yv) (h5:∀ s b,kn=some (s,b)→s < nt∧a.tmps.getD s undef=.bool b) :
  (∀ u,u∈ya→(a.put o.dst v).tmps.getD u undef=X.yv)∧∀ s b,kn=some (s,b)→s < nt∧(a.put o.dst v).tmps.getD s undef=.bool b :=
 ⟨fun u hu=>(G9 h (by simp [hu])).trans (h4 u hu),fun s b e=>⟨(h5 s b e).1,(G9 h (by simp [knL,e])).trans (h5 s b e).2⟩⟩
theorem uZ {P:Program} {Q:Exit→Act→World→Prop} {i:Nat} {o:Oper} {a:Act} {w:World} (ho:ops[i]? = some o) (hw:Region.wanted o (yielded ops a.tmps)=true) (h:o.wpIn Fence.wide 0 P a w (wpOpsIn Fence.wide 0 P ops Q l) Q):wpOpsIn Fence.wide 0 P ops Q (i :: l) a w:=by
 simp only [wpOpsIn,ho,hw,if_true]
 exact h
theorem YW.op {T:List (Nat × TI)} (hT:pk P T) (hm:P.follows .mixedOrders=true) {i:Nat} {o:Oper} {ob:Ob} (ho:ops[i]? = some o) (hw:FA ops kn o=some true) (hd:na #[o]=true) (hya:uK (ya++knL kn) #[o]=true)
  (hr:rz P T nt #[{ o with guard:=none }] false none st []=some (st',ob)) (cD:ob.den) (h:YW X k ops H ya kn l st'):YW X k ops H ya kn (i :: l) st:=by
 intro C h1 h2 h3 a w h4 h5 h6
 have kN:a.tmps.size=nt:=by obtain ⟨S,μ,hs⟩:=h6; exact (hs fun _=>false).tmps.trans h2
 refine uZ ho (yW hw fun s b e=>⟨kN ▸ (h5 s b e).1,(h5 s b e).2⟩) ?_
 have hw:=Ej (C:=C) (T:=T) (by rw [h1]; exact hT) (by rw [h1]; exact hm) (by rw [h1,h2]; exact hr) cD h6
 rcases hw with ⟨-,hw⟩ | ⟨e,-⟩
 ·rw [h1] at hw
  have hw:=vw (K:=fun t=>(∀ u,u∈ya→t.getD u undef=X.yv)∧∀ s b,kn=some (s,b)→s < nt∧t.getD s undef=.bool b) (fun j o' a v Xv hk=>by
   have e:o' = { o with guard:=none }:=by
    match j,Xv with
    | 0,Xv=>simpa using Xv.symm
    | j+1,Xv=>simp at Xv
   subst e
   exact LL (o:=o) hya v hk.1 hk.2) (fun e a w h=>h.1) _ a w ⟨h4,h5⟩ hw
  have e1:List.range (#[{ o with guard:=none }]:Array Oper).size=[0]:=rfl
  rw [e1] at hw
  simp only [wpOps,Region.wanted] at hw
  rcases hw with hw | ⟨_,_,_,q⟩
  ·exact P8 (o':={ o with guard:=none }) rfl rfl rfl (vP (ops:=#[o]) hd (i:=0) rfl) (fun a' w' hh=>h C h1 h2 h3 a' w' hh.2.1 hh.2.2 hh.1.2) (fun e a w h=>h.1.1) hw
  ·cases q.1.1
 ·cases e
theorem YW.skip {i d:Nat} {o:Oper} (ho:ops[i]? = some o) (hw:FA ops kn o=some false) (hd:o.dst=some d) (hdn:d < nt) (hya:uK (ya++knL kn) #[o]=true) (h:YW X k ops H ya kn l ⟨aY [d] st.sl,st.lb⟩):YW X k ops H ya kn (i :: l) st:=by
 intro C h1 h2 h3 a w h4 h5 h6
 have kN:a.tmps.size=nt:=by obtain ⟨S,μ,hs⟩:=h6; exact (hs fun _=>false).tmps.trans h2
 have hw:=yW hw (a:=a) fun s b e=>⟨kN ▸ (h5 s b e).1,(h5 s b e).2⟩
 obtain ⟨q1,q2⟩:=LL hya undef h4 h5
 simp only [wpOpsIn,ho,hw]
 exact ⟨fun _ _=>trivial,h C h1 h2 h3 _ w q1 q2 (by rw [hd]; exact h6.drop (by rw [h2]; exact hdn) _)⟩
theorem YW.value {i d:Nat} {o:Oper} {x:AV} (ho:ops[i]? = some o) (hw:FA ops kn o=some true) (hd:o.dst=some d) (hdn:d < nt) (hdf:na #[o]=true) (hya:uK (ya++knL kn) #[o]=true)
  (hx:∀ (a:Act) (w:World),(∀ u,u∈ya→a.tmps.getD u undef=X.yv)→(∀ s b,kn=some (s,b)→s < nt∧a.tmps.getD s undef=.bool b)→∃ v,(execOp a.eval o).run P w=.ok (.value v) w∧∀ C S μ,C.P=P→(∀ ν,dG C st.gL a w S μ ν)→∀ ν,Rel w S μ ν x v)
  (h:YW X k ops H ya kn l ⟨(d,x) :: aY [d] st.sl,st.lb⟩):YW X k ops H ya kn (i :: l) st:=by
 intro C h1 h2 h3 a w h4 h5 h6
 have kN:a.tmps.size=nt:=by obtain ⟨S,μ,hs⟩:=h6; exact (hs fun _=>false).tmps.trans h2
 refine uZ ho (yW hw fun s b e=>⟨kN ▸ (h5 s b e).1,(h5 s b e).2⟩) ⟨fun _ _=>trivial,?_⟩
 obtain ⟨v,q1,q2⟩:=hx a w h4 h5
 obtain ⟨q3,q4⟩:=LL hya v h4 h5
 rw [Oper.semAt_eq _ _ _ (vP (ops:=#[o]) (o:=o) hdf (i:=0) rfl),q1]
 simp only [Oper.uponIn]
 exact h C h1 h2 h3 _ w q3 q4 (by rw [hd]; exact h6.agb (by rw [h2]; exact hdn) (fun S μ hs=>q2 C S μ h1 hs))
theorem YW.mv {i d u:Nat} {o:Oper} (ho:ops[i]? = some o) (hw:FA ops kn o=some true) (hd:o.dst=some d) (hdn:d < nt) (hya:uK (ya++knL kn) #[o]=true) (zP:o.op=.move (.tmp u)) (hu:u∈ya) (h:YW X k ops H (d :: ya) kn l ⟨aY [d] st.sl,st.lb⟩):YW X k ops H ya kn (i :: l) st:=by
 intro C h1 h2 h3 a w h4 h5 h6
 have kN:a.tmps.size=nt:=by obtain ⟨S,μ,hs⟩:=h6; exact (hs fun _=>false).tmps.trans h2
 refine uZ ho (yW hw fun s b e=>⟨kN ▸ (h5 s b e).1,(h5 s b e).2⟩) ⟨fun _ _=>trivial,?_⟩
 obtain ⟨q3,q4⟩:=LL hya X.yv h4 h5
 have hv:a.eval (.tmp u)=X.yv:=h4 u hu
 have he:(execOp a.eval o).run P w=.ok (.value X.yv) w:=by
  simp only [execOp,zP,hv]
  rfl
 rw [Oper.semAt_eq _ _ _ (fun c e=>by rw [zP] at e; cases e),he]
 simp only [Oper.uponIn]
 refine h C h1 h2 h3 _ w (fun u' hu'=>?_) q4 (by rw [hd]; exact h6.drop (by rw [h2]; exact hdn) _)
 rcases List.mem_cons.1 hu' with e | e
 ·subst e
  rw [hd]
  exact iX _ _ _ (by rw [kN]; exact hdn)
 ·exact q3 u' e
theorem YW.yl {i d u n:Nat} {o:Oper} {c:Call} {ts:List Nat} {y:List AV} (ho:ops[i]? = some o) (hw:FA ops kn o=some true) (hd:o.dst=some d) (hdn:d < nt) (hya:uK (ya++knL kn) #[o]=true) (zP:o.op=.call c) (hc:c.callee=.value (.tmp u)) (hu:u∈ya)
  (hn:ys[n]? = some y) (ha:c.args.toList=ts.map .tmp) (hy:ts.map (St.get st.sl)=y) (hf:y.all gK=true)
  (hon:YW X k ops (X.H (n+1)) ya kn l ⟨(d,.d (.v (.bool true))) :: aY [d] st.sl,st.lb⟩) (aet:YW X k ops X.acH ya kn l ⟨(d,.d (.v (.bool false))) :: aY [d] st.sl,st.lb⟩):YW X k ops (X.H n) ya kn (i :: l) st:=by
 intro C h1 h2 h3 a w h4 h5 h6
 have kN:a.tmps.size=nt:=by obtain ⟨S,μ,hs⟩:=h6; exact (hs fun _=>false).tmps.trans h2
 refine uZ ho (yW hw fun s b e=>⟨kN ▸ (h5 s b e).1,(h5 s b e).2⟩) ⟨fun _ _=>trivial,?_⟩
 obtain ⟨S,μ,dy⟩:=h6
 obtain ⟨F,hF,hJ⟩:=h3
 have gI:n < ys.length:=(List.getElem?_eq_some_iff.1 hn).1
 have hyn:ys.getD n []=y:=by simp [List.getD,hn]
 have lr:(c.args.map a.eval).toList=ts.map fun t=>a.tmps.getD t undef:=by
  rw [Array.toList_map,ha,List.map_map]
  rfl
 have hrel:∀ ν,eo w (fun _=>False) (fun _=>none) ν (ys.getD n []) (c.args.map a.eval).toList:=fun ν=>by
  rw [hyn,lr]
  subst hy
  refine ⟨by simp,fun j hj=>?_⟩
  have Iu:j < ts.length:=by simpa using hj
  have h1:=(dy ν).fa ts[j]
  have h2:gK (St.get st.sl ts[j])=true:=by
   simp only [List.all_eq_true] at hf
   exact hf _ (List.mem_map.2 ⟨_,List.getElem_mem Iu,rfl⟩)
  have h3:=PQ h2 (w':=w) (S':=fun _=>False) (μ':=fun _=>none) (ν':=ν) h1
  simpa [List.getD,Iu,St.gL] using h3
 have hv:a.eval (.tmp u)=X.yv:=h4 u hu
 obtain ⟨fn,tmps,Q6,body,q1,q2⟩:=X.yield dy hF hJ gI hrel
 have he:(execOp a.eval o).run P w=(Instr.yield X.l (c.args.map a.eval)).run P w:=by
  simp only [execOp,zP,resolve,hc,hv,uY.yv,Deferred.ofValue]
  simp [invoke,go_sem]
 rw [Oper.semAt_eq _ _ _ (fun c e=>by rw [zP] at e; cases e),he,q1]
 refine ⟨fun h=>by simp [Fence.wide] at h,q2.mono ?_⟩
 rintro e W' ⟨C',c1,c2,c3,c4⟩
 have fin:∀ (b:Bool) (H':Cx→Prop),H' C'→YW X k ops H' ya kn l ⟨(d,.d (.v (.bool b))) :: aY [d] st.sl,st.lb⟩→wpOpsIn Fence.wide 0 P ops (fun e a' w'=>e=.normal∧∀ (b:Frame) (cs:List Frame),b.fn=fi→b.kind=.normal→b.roundOf=none→X.Fin cs (lone (b.atR a' k) cs w')) l (a.put o.dst (.bool b)) W':=by
  intro b H' hH hYW
  obtain ⟨q3,q4⟩:=LL hya (.bool b) h4 h5
  exact hYW C' (c1.trans h1) (c2.trans h2) hH _ W' q3 q4 (by rw [hd]; exact kW.agb ⟨S,μ,c3⟩ (by rw [c2,h2]; exact hdn) (fun S μ _ ν=>iJ rfl))
 rcases c4 with ⟨rfl,hH⟩ | ⟨rfl,hH⟩
 ·exact fin true _ hH hon
 ·exact fin false _ hH aet
def evC (P:Program) (T:List (Nat × TI)) (nt:Nat) (pre:Array Oper) (st:St) (kX:List C0) (kV:Option Prop) (J:St):CT :=
 match rz P T nt pre false none st kX with
 | some (st',ob)=>.two ob.eqs (.two (.po ob.prop kV) (N8 st' J))
 | none=>.bad
theorem aa3 {P:Program} {T:List (Nat × TI)} {nt:Nat} {pre:Array Oper} {kX:List C0} {kV:Option Prop} {J:St} (h:(evC P T nt pre st kX kV J).ok) (hc:∀ p,kV=some p→p):∃ st' ob,rz P T nt pre false none st kX=some (st',ob)∧ob.den∧NV st' J:=by
 unfold evC at h
 split at h
 ·rename_i st' ob hr
  obtain ⟨h1,h2,h3⟩:=h
  have h2:ob.prop=kV:=h2
  exact ⟨st',ob,hr,Ob.G3 h1 (fun p hp=>hc p (h2 ▸ hp)),xl h3⟩
 ·exact h.elim
def preB (ya:List Nat) (pre:Array Oper):Bool:=(pre.toList.all fun o=>match o.guard with | some (j,_)=>Nat.blt j pre.size | none=>true)&&na pre&&uK ya pre
theorem YW.ahY {T:List (Nat × TI)} (hT:pk P T) (hm:P.follows .mixedOrders=true) {α:Type} (cl:bH α) (j:Nat) (J:α→St) (hb:preB ya ((ops.toList.take j).toArray)=true) (hj:j≤ops.size)
  (h:∀ x,evC P T nt ((ops.toList.take j).toArray) st (cl.kX x) (cl.kV x) (J x)=(evC P T nt ((ops.toList.take j).toArray) st (cl.kX x) (cl.kV x) (J x)).diag) (hp:cl.pre) (hk:YW X k ops H ya none (List.range' j (ops.size - j)) (J cl.v)):YW X k ops H ya none (List.range ops.size) st:=by
 obtain ⟨st',ob,hr,cD,hle⟩:=aa3 (CT.BP (h cl.v)) (fun p e=>cl.pf hp p e)
 simp only [preB,Bool.and_eq_true] at hb
 have kN:((ops.toList.take j).toArray).size=j:=by simp; omega
 have:=YW.pre (ops:=ops) (H:=H) (k:=k) (l:=List.range' j (ops.size - j)) hT hm (pre:=(ops.toList.take j).toArray) (fun i hi=>by
  rw [kN] at hi
  simp [List.getElem?_take,hi]) hb.1.1 hb.1.2 hb.2 hr cD (hk.le hle)
 rw [kN] at this
 have e:List.range ops.size=List.range j++List.range' j (ops.size - j):=by
  rw [List.range_eq_range',List.range_eq_range']
  have:=List.range'_append (s:=0) (m:=j) (n:=ops.size - j) (step:=1)
  simp only [Nat.zero_add,Nat.one_mul] at this
  rw [this]
  congr 1
  omega
 rw [e]
 exact this
theorem YW.ahZ {s:Nat} {b:Bool} (hs:St.get st.sl s=.d (.v (.bool b))) (gI:s < nt) (h:YW X k ops H ya (some (s,b)) l st):YW X k ops H ya none l st:=by
 intro C h1 h2 h3 a w h4 h5 h6
 refine h C h1 h2 h3 a w h4 (fun s' b' e=>?_) h6
 simp only [Option.some.injEq,Prod.mk.injEq] at e
 obtain ⟨rfl,rfl⟩:=e
 obtain ⟨S,μ,dy⟩:=h6
 have:=(dy fun _=>false).fa s
 simp only [St.gL,hs] at this
 exact ⟨gI,pE this⟩
def tlB (ops:Array Oper) (nt i:Nat) (ya:List Nat) (kn:Option (Nat × Bool)) (want:Bool):Bool :=
 match ops[i]? with
 | some o=>(match FA ops kn o,o.dst with | some b,some d=>(b == want)&&Nat.ble (d+1) nt | _,_=>false)&&uK (ya++knL kn) #[o]&&na #[o]
 | none=>false
theorem LM {nt i:Nat} {want:Bool} (h:tlB ops nt i ya kn want=true):∃ o d,ops[i]? = some o∧FA ops kn o=some want∧o.dst=some d∧d < nt∧uK (ya++knL kn) #[o]=true∧na #[o]=true:=by
 unfold tlB at h
 split at h
 ·rename_i o ho
  simp only [Bool.and_eq_true] at h
  obtain ⟨⟨h1,h2⟩,h3⟩:=h
  split at h1
  ·rename_i b d hb hd
   simp only [Bool.and_eq_true,beq_iff_eq] at h1
   obtain ⟨rfl,h1⟩:=h1
   exact ⟨o,d,ho,hb,hd,Nat.le_of_ble_eq_true h1,h2,h3⟩
  ·cases h1
 ·cases h
theorem YW.opC {T:List (Nat × TI)} (hT:pk P T) (hm:P.follows .mixedOrders=true) {i:Nat} {o:Oper} (J:St) (ho:ops[i]? = some o) (hb:tlB ops nt i ya kn true=true)
  (h:evC P T nt #[{ o with guard:=none }] st [] none J=(evC P T nt #[{ o with guard:=none }] st [] none J).diag) (hk:YW X k ops H ya kn l J):YW X k ops H ya kn (i :: l) st:=by
 obtain ⟨o',d,q1,q2,q3,q4,q5,q6⟩:=LM hb
 rw [ho] at q1
 cases q1
 obtain ⟨st',ob,hr,cD,hle⟩:=aa3 (CT.BP h) (fun p e=>by cases e)
 exact YW.op hT hm ho q2 q6 q5 hr cD (hk.le hle)
theorem YW.T9 {i d:Nat} {o:Oper} (ho:ops[i]? = some o) (hd:o.dst=some d) (hb:tlB ops nt i ya kn false=true) (hk:YW X k ops H ya kn l ⟨aY [d] st.sl,st.lb⟩):YW X k ops H ya kn (i :: l) st:=by
 obtain ⟨o',d',q1,q2,q3,q4,q5,q6⟩:=LM hb
 rw [ho] at q1
 cases q1
 rw [hd] at q3
 cases q3
 exact YW.skip ho q2 hd q4 q5 hk
theorem YW.mvC {i d u:Nat} {o:Oper} (ho:ops[i]? = some o) (hd:o.dst=some d) (zP:o.op=.move (.tmp u)) (hu:u∈ya) (hb:tlB ops nt i ya kn true=true) (hk:YW X k ops H (d :: ya) kn l ⟨aY [d] st.sl,st.lb⟩):YW X k ops H ya kn (i :: l) st:=by
 obtain ⟨o',d',q1,q2,q3,q4,q5,q6⟩:=LM hb
 rw [ho] at q1
 cases q1
 rw [hd] at q3
 cases q3
 exact YW.mv ho q2 hd q4 q5 zP hu hk
def adz (sl:List (Nat × AV)):Operand→AV
 | .tmp t=>St.get sl t
 | .const v=>.d (.v v)
 | _=>.any
theorem YW.aa4 {i d s:Nat} {b:Bool} {o:Oper} {x y:Operand} (e:Bool) (ho:ops[i]? = some o) (hd:o.dst=some d) (zP:o.op=.pick (.tmp s) x y) (hb:tlB ops nt i ya (some (s,b)) true=true) (he:adz st.sl (bif b then x else y)=.d (.v (.bool e)))
  (hk:YW X k ops H ya (some (s,b)) l ⟨(d,.d (.v (.bool e))) :: aY [d] st.sl,st.lb⟩):YW X k ops H ya (some (s,b)) (i :: l) st:=by
 obtain ⟨o',d',q1,q2,q3,q4,q5,q6⟩:=LM hb
 rw [ho] at q1
 cases q1
 rw [hd] at q3
 cases q3
 refine YW.value ho q2 hd q4 q6 q5 (fun a w h4 h5=>?_) hk
 obtain ⟨hs,hv⟩:=h5 s b rfl
 have hv:a.eval (.tmp s)=.bool b:=hv
 refine ⟨a.eval (bif b then x else y),?_,fun C S μ hC dy ν=>?_⟩
 ·simp only [execOp,zP,hv]
  cases b <;> simp [asBool,go_sem]
 ·generalize (bif b then x else y)=z at he
  rw [← he]
  cases z with
  | tmp t=>exact (dy ν).fa t
  | const v =>
   simp only [adz] at he ⊢
   cases he
   exact iJ rfl
  | _=>exact .any _
theorem YW.ylC {i d u n:Nat} {o:Oper} {c:Call} {ts:List Nat} {y:List AV} (ho:ops[i]? = some o) (hd:o.dst=some d) (zP:o.op=.call c) (hc:c.callee=.value (.tmp u)) (hu:u∈ya) (hb:tlB ops nt i ya kn true=true)
  (hn:ys[n]? = some y) (ha:c.args.toList=ts.map .tmp) (hy:ts.map (St.get st.sl)=y) (hf:y.all gK=true)
  (hon:YW X k ops (X.H (n+1)) ya kn l ⟨(d,.d (.v (.bool true))) :: aY [d] st.sl,st.lb⟩) (aet:YW X k ops X.acH ya kn l ⟨(d,.d (.v (.bool false))) :: aY [d] st.sl,st.lb⟩):YW X k ops (X.H n) ya kn (i :: l) st:=by
 obtain ⟨o',d',q1,q2,q3,q4,q5,q6⟩:=LM hb
 rw [ho] at q1
 cases q1
 rw [hd] at q3
 cases q3
 exact YW.yl ho q2 hd q4 q5 zP hc hu hn ha hy hf hon aet
theorem G.yr {T:List (Nat × TI)} {fn:Func} {id:Nat} (h:YW X k ops H [0] none (List.range ops.size) st):G (X.g T fn H) (.code (.region id ops false) :: k) st:=by
 intro C h1 h2 a w hk hs b cs e1 e2 e3 h3
 have hr:b.roundOf=none:=e3.2 (by show (2:Nat)≠1; decide)
 have hw:(Code.region id ops false).wpIn Fence.wide 0 P _ a w:=wpIn_region (h C h1 h2 h3 a w (fun u hu=>by
  have:u=0:=by simpa using hu
  subst this
  exact hk 0 (by simp [uY.g])) (fun s b e=>by cases e) hs)
 obtain ⟨e,a',w',⟨q1,q2⟩,aaC⟩:=hw b k cs hr trivial (room_wide _)
 subst q1
 exact .steps (StepsIn.steps aaC) (q2 b cs e1 e2 hr)
theorem uY.X3 {T:List (Nat × TI)} {fn:Func} (hf:P.funcs[fi]? = some fn) (hrs:fn.results = #[]) {C:Cx} {F:Nat→Prop} (h1:C.P=P) {a:Act} {w:World} (hs:kW C st a w) (hF:X.Rt F C) (hJ:X.J ys.length F w∨X.Jx F w)
  {todo:List Item} (lX:∀ (b:Frame) (cs:List Frame),b.roundOf=none→Steps P (lone (b.atR a todo) cs w) (lone { b.atR a todo with mode:=.returning } cs w)) (b:Frame) (cs:List Frame) (XM:b.fn=fi) (GK:b.kind=.normal) (Z0:b.roundOf=none):X.Fin cs (lone (b.atR a todo) cs w):=by
 obtain ⟨S,μ,dy⟩:=hs
 have h0:=dy fun _=>false
 have hr:(results fn a.tmps).run P w=.ok (.tuple #[]) w:=by
  have:=xk (C:=C) (fn:=fn) (a:=a) (w:=w) (vs:=[]) (by rw [hrs]; simp)
  rw [h1] at this
  exact this
 refine ⟨.tuple #[],w,{ b.atR a todo with mode:=.returning },hJ.imp (fun h=>⟨F,h⟩) (fun h=>⟨F,h⟩),lX b cs Z0,XM,rfl,h0.defers.trans hF.dl,GK,fn,?_,hr⟩
 show P.funcs[b.fn]? = _
 rw [XM]; exact hf
theorem uY.ret {T:List (Nat × TI)} {fn:Func} (hf:P.funcs[fi]? = some fn) (hrs:fn.results = #[]) (hH:∀ C,H C→X.H ys.length C∨X.acH C):G (X.g T fn H) [] st∧∀ k,G (X.g T fn H) (.code .ret :: k) st:=by
 have key:∀ (C:Cx) (a:Act) (w:World),H C→kW C st a w→∃ F,X.Rt F C∧(X.J ys.length F w∨X.Jx F w):=by
  intro C a w hC hs
  obtain ⟨S,μ,dy⟩:=hs
  have h0:=dy fun _=>false
  rcases hH C hC with ⟨F,hF,hJ⟩ | ⟨F,hF,hJ⟩
  ·exact ⟨F,hF,.inl (X.jk _ _ _ _ hJ (hF.still h0))⟩
  ·exact ⟨F,hF,.inr (X.jxk _ _ _ hJ (hF.still h0))⟩
 exact ⟨fun C h1 h2 a w _ hs b cs e1 e2 e3 hC=>by
   obtain ⟨F,hF,hJ⟩:=key C a w hC hs
   exact uY.X3 (T:=T) hf hrs h1 hs hF hJ (fun b cs hb=>.one (stepR_end hb)) b cs e1 e2 (e3.2 (by show (2:Nat)≠1; decide)),
  fun k C h1 h2 a w _ hs b cs e1 e2 e3 hC=>by
   obtain ⟨F,hF,hJ⟩:=key C a w hC hs
   exact uY.X3 (T:=T) hf hrs h1 hs hF hJ (fun b cs hb=>.one (stepR_ret hb)) b cs e1 e2 (e3.2 (by show (2:Nat)≠1; decide))⟩
theorem Y9.intro {P:Program} {T:List (Nat × TI)} {f:FuncId} {fn:Func} {body:Code} {cY:List AV} {ys:List (List AV)} (hf:P.funcs[f]? = some fn) (hb:fn.body=some body) (hc:ga P f=true) (hn:cY.length+1≤fn.ntmps)
  (h:∀ X:uY P f fn.ntmps ys,G (X.g T fn (X.H 0)) [.code body] ⟨dJ 1 cY,[]⟩):Y9 P f cY ys:=by
 refine ⟨hc,fun w0 S μ CZ l J Jx F0 hS YL YV hSF hF hJk ah0 XA hJ cs=>?_⟩
 let X:uY P f fn.ntmps ys:=⟨l,w0,S,J,Jx,hJk,ah0,XA⟩
 let C:Cx:=⟨P,w0,S,fun _=>False,fn.ntmps,YL,fun b hb h=>h.elim,hS,[],fun d h=>(by cases h),List.nodup_nil⟩
 let b:Frame:={ (default:Frame) with fn:=f,kind:=.normal,roundOf:=none }
 let vs:Array Value:=#[.func (.yield l) #[] #[]]++CZ
 have hl:CZ.size=cY.length:=by have:=(YV fun _=>false).1; simpa using this
 have hvs:vs.size=cY.length+1:=by simp [vs,hl]; omega
 have Ls:Frame.enter P f vs .normal=b.atR { tmps:=vs++Array.replicate (fn.ntmps - vs.size) undef,defers:=[] } [.code body]:=by
  simp [Frame.enter,Frame.atR,hf,hb,b]
 have dy:kW C ⟨dJ 1 cY,[]⟩ { tmps:=vs++Array.replicate (fn.ntmps - vs.size) undef,defers:=[] } w0:=by
  refine ⟨S,μ,fun ν=>⟨by simp only [C,Array.size_append,Array.size_replicate]; omega,rfl,fun t=>?_,fun κ b h=>by simp [St.gL,look] at h,fun κ κ' b b' g c c' h=>by simp [St.gL,look] at h,fun κ bk q c h1 h2=>by simp [St.gL,look] at h1,fun _ hb=>hb,fun _ hb=>.inl hb,hS,Kept.refl _ _⟩⟩
  simp only [St.gL,St.get,s7]
  by_cases ht:1≤t∧t - 1 < cY.length
  ·rw [if_pos ht.1,List.getElem?_eq_getElem ht.2]
   have h2:=(YV ν).2 (t - 1) ht.2
   rw [show cY.getD (t - 1) default=cY[t - 1] from by simp [List.getD,ht.2]] at h2
   have e:(vs++Array.replicate (fn.ntmps - vs.size) undef).getD t undef=CZ.toList.getD (t - 1) undef:=by
    rw [← cZ]
    simp only [Array.getD_eq_getD_getElem?]
    rw [Array.getElem?_append_left (by omega)]
    simp only [vs]
    rw [Array.getElem?_append_right (by simp; omega)]
    simp
   rw [e]
   exact h2
  ·by_cases h1:1≤t
   ·rw [if_pos h1,List.getElem?_eq_none (by omega)]
    exact .any _
   ·rw [if_neg h1]
    exact .any _
 obtain ⟨v,w',fr,q1,q2,q3,q4⟩:=h X C rfl rfl _ _ (fun u hu=>by
  have:u=0:=by simpa [uY.g] using hu
  subst this
  simp only [uY.g,uY.yv,Array.getD_eq_getD_getElem?]
  rw [Array.getElem?_append_left (by omega)]
  simp only [vs,X]
  rw [Array.getElem?_append_left (by simp)]) dy b cs rfl rfl ⟨fun _=>by show (2:Nat)≠1; decide,fun _=>rfl⟩
  ⟨F0,⟨rfl,Nat.le_refl _,fun _ h=>h,hSF,hF,fun b h=>h.elim⟩,hJ⟩
 exact ⟨.returned v,w',fr,⟨⟨v,rfl⟩,q1⟩,by show Steps _ _ _; rw [Ls]; exact q2,q3,q4⟩
theorem X4 {st st':St} (h:N8 st st'=(N8 st st').diag):NV st st':=xl (CT.BP h)
def cA:Code→Code
 | .seq x _=>x
 | .cond _ x _=>x
 | .block _ x=>x
 | .loop x=>x
 | c=>c
def cB:Code→Code
 | .seq _ y=>y
 | .cond _ _ y=>y
 | c=>c
def opsOf:Code→Array Oper
 | .region _ ops _=>ops
 | _=>#[]
theorem uY.sk {T:List (Nat × TI)} {fn:Func} (hT:pk P T) (hm:P.follows .mixedOrders=true) (hf:P.funcs[fi]? = some fn) {α:Type} (todo:List Item) (sk:Sk α) (L:α→aaW) (n:Nat) (h:rl P T nt fn.results.toList 0 2 [0] n todo st L sk=(rl P T nt fn.results.toList 0 2 [0] n todo st L sk).diag) (ho:sk.bC fun _=>True)
  (hL:∀ a,a=sk.val→Wr (X.g T fn H) (L a)):G (X.g T fn H) todo st :=
 yS n (g:=X.g T fn H) hT hm hf (fun h=>(by cases h)) 0 todo st L sk (fun _=>True) (CT.BP h) ho (fun a e _=>hL a e)
theorem G.aa5 {g:Goal} {c:Code} (h:G g (.code c :: .inLoop c :: k) st):G g (.code (.loop c) :: k) st:=fun C h1 h2 a w hk hs=>(h C h1 h2 a w hk hs).step fun _ _=>.one stepR_loop
end
section
open Go Go.Sort
def jZ (l:List Int):List Int:=l.mergeSort fun x y=>decide (x≤y)
variable {w : World} {S : Nat → Prop} {μ : Mu} {e g c : Nat} {L : List Int}
theorem P9 (h:eH w S μ (bw e 1 bI L) g c):Holds (Value.int .i64) w g 0 L.toArray∧∃ cur,w.heap[g]? = some (.cells cur e (0,0))∧L.length≤c∧c≤maxLen∧cur.size=c:=by
 obtain ⟨cur,hg,uJ,Fb,VZ,SL,ru⟩:=h
 refine ⟨fun j hj=>?_,cur,hg,VZ,SL,by omega⟩
 have Iu:j < L.length:=by simpa using hj
 refine ⟨?_,by simp [World.frozen?,hg]⟩
 obtain ⟨x,hx,hr⟩:=(ru j Iu).2 0 (by omega)
 have hx:cur[j]? = some x:=by simpa using hx
 have hr:Rd w S (.v (.int .i64 (L.getD j default))) x:=by simpa [bI,dI] using hr
 cases hr
 simp only [World.cell?,hg,Nat.zero_add]
 simp only [Option.isSome_none,Bool.false_eq_true,if_false,hx]
 simp [List.getD,Iu]
theorem X5 {k:Nat} {os:Array Obj} {d L':List Int} (h:eH w S μ (bw e 1 bI L) g c) (hd:d.length≤c) (hl:L'.length≤d.length) (he:∀ i,i < L'.length→d.getD i default=L'.getD i default) :
  eH (grow (putRow (Value.int .i64) (Sort.ahead w k) g 0 d.toArray) os) S μ (bw e 1 bI L') g c:=by
 obtain ⟨cur,hg,uJ,Fb,VZ,SL,ru⟩:=h
 refine ⟨_,heap_sortedI d.toArray hg,uJ,by simpa [putCells] using Fb,by omega,SL,fun i hi=>⟨rfl,fun j hj=>?_⟩⟩
 have hj0:j=0:=by omega
 subst hj0
 have hid:i < d.length:=by omega
 have hic:i < cur.size:=by omega
 refine ⟨.int .i64 (L'.getD i default),?_,Rd.v _ rfl⟩
 have:=he i hi
 simp only [putCells,Nat.mul_one,Nat.add_zero,Nat.zero_le,Nat.zero_add,Nat.sub_zero,true_and,Array.getElem?_mapIdx,List.size_toArray,hid,if_true]
 rw [Array.getElem?_eq_getElem hic]
 simp only [Option.map_some,Option.some.injEq,Value.int.injEq,true_and]
 rw [← this]
 simp [List.getD,hid]
theorem IG {k:Nat} {os:Array Obj} {d:Array Int} {κ:Nat} (h:μ κ=some (some (g,c))):Kept w (grow (putRow (Value.int .i64) (Sort.ahead w k) g 0 d) os) (fun q=>∃ c,μ κ=some (some (q,c))):=by
 have hb:=grownBy_sortedI (w:=w) (g:=g) (n:=k) (os:=os) d
 exact ⟨hb.os,hb.tape,hb.output,hb.size,fun b gI pn=>hb.block b gI (fun e=>by cases e; exact pn ⟨c,h⟩)⟩
theorem aa6 {P:Program} {f:FuncId} (hc:ga P f=true)
  (h1:∀ (blk off cap:Nat) (zs:List Int) (w:World),Holds (Value.int .i64) w blk off zs.toArray→blk < w.heap.size→zs.length < 4611686018427387904 →
   Calls P f #[.slice (some ⟨blk,off,none⟩) zs.length cap] w fun e w'=>e=.returned (.tuple #[])∧∃ n os,w'=grow (putRow (Value.int .i64) (Sort.ahead w n) blk off (zs.mergeSort fun x y=>decide (x≤y)).toArray) os)
  (h0:∀ (p:Option Addr) (cap:Nat) (w:World),Calls P f #[.slice p 0 cap] w fun e w'=>e=.returned (.tuple #[])∧w'=w) (κ e:Nat) (L:List Int) (hL:L.length < 4611686018427387904) :
  FnS P f [ow κ L] κ (bw e 1 bI L) (bw e 1 bI (jZ L)):=by
 refine ⟨hc,fun w S μ vs hS hg hr hb=>?_⟩
 obtain ⟨v,rfl⟩:∃ v,vs = #[v]:=by
  have:=(hr fun _=>false).1
  match vs,this with
  | ⟨[v]⟩,_=>exact ⟨v,rfl⟩
 have hv:Rel w S μ (fun _=>false) (.own κ L.length) v:=by simpa using (hr fun _=>false).2 0 (by simp)
 have VG:(jZ L).length=L.length:=by simp [jZ]
 generalize hn:L.length=n at hv
 cases hv with
 | dt hm =>
  refine (h0 _ _ w).mono ?_
  rintro e' w' ⟨rfl,rfl⟩
  refine ⟨⟨_,rfl⟩,?_,Kept.refl _ _⟩
  rw [hm]
  show (jZ L).length=0
  omega
 | @own _ _ g cap hm =>
  rw [hm] at hb
  have VT:eH w S μ (bw e 1 bI L) g cap:=hb
  obtain ⟨q1,cur,q2,q3,q4,q5⟩:=P9 VT
  subst hn
  refine (h1 g 0 cap L w q1 (Array.getElem?_eq_some_iff.1 q2).1 hL).mono ?_
  rintro e' w' ⟨rfl,k,os,rfl⟩
  refine ⟨⟨_,rfl⟩,?_,IG hm⟩
  rw [hm]
  exact X5 (d:=jZ L) (L':=jZ L) VT (by omega) (Nat.le_refl _) (fun _ _=>rfl)
theorem Ua {P:Program} {f:FuncId} (hc:ga P f=true) (L L':List Int) (hl:L'.length≤L.length)
  (h1:∀ (blk cap:Nat) (w:World),Holds (Value.int .i64) w blk 0 L.toArray→L.length≤9223372036854775807→L.length≤cap →
   Calls P f #[.slice (some ⟨blk,0,none⟩) L.length cap] w fun e w'=>e=.returned (.slice (some ⟨blk,0,none⟩) L'.length cap)∧∃ q,w'=putRow (Value.int .i64) (Sort.ahead w q) blk 0 (L'++List.replicate (L.length - L'.length) 0).toArray)
  (h0:∀ (p:Option Addr) (cap:Nat) (w:World),Calls P f #[.slice p 0 cap] w fun e w'=>e=.returned (.slice p 0 cap)∧w'=w) (κ κ' e:Nat) :
  gR P f [ow κ L] [(κ,bw e 1 bI L)] (ow κ' L') [(κ',bw e 1 bI L')]:=by
 refine ⟨hc,fun w S μ vs hS hg hr hb hi=>?_⟩
 obtain ⟨v,rfl⟩:∃ v,vs = #[v]:=by
  have:=(hr fun _=>false).1
  match vs,this with
  | ⟨[v]⟩,_=>exact ⟨v,rfl⟩
 have hv:Rel w S μ (fun _=>false) (.own κ L.length) v:=by simpa using (hr fun _=>false).2 0 (by simp)
 have hb:=hb κ (bw e 1 bI L) (by simp [look])
 have lk:∀ k b,look [(κ',bw e 1 bI L')] k=some b→k=κ'∧b=bw e 1 bI L':=fun k b h=>by
  simp only [ca] at h
  split at h
  ·rename_i e'; exact ⟨e'.symm,by simpa using h.symm⟩
  ·cases h
 have inj:∀ μ':Mu,XD [(κ',bw e 1 bI L')] μ':=fun μ' k1 k2 b1 b2 g c c' h1 h2 _ _=>((lk _ _ h1).1).trans ((lk _ _ h2).1).symm
 generalize hn:L.length=n at hv
 cases hv with
 | @dt _ ad hm =>
  refine (h0 _ _ w).mono ?_
  rintro e' w' ⟨rfl,rfl⟩
  have hz:L'.length=0:=by omega
  refine ⟨_,S,fun k=>if k=κ' then some none else none,rfl,⟨fun ν=>?_,fun k b h=>?_,inj _,fun k b g c h Bt=>?_,fun _ h=>h,fun _ h=>.inl h,hS,Kept.refl _ _⟩⟩
  ·show Rel _ _ _ _ (.own κ' L'.length) _
   rw [hz]
   exact .dt (by simp)
  ·obtain ⟨rfl,rfl⟩:=lk k b h
   simp only [if_true]
   exact hz
  ·obtain ⟨rfl,rfl⟩:=lk k b h
   simp at Bt
 | @own _ _ g cap hm =>
  rw [hm] at hb
  have VT:eH w S μ (bw e 1 bI L) g cap:=hb
  obtain ⟨q1,cur,q2,q3,q4,q5⟩:=P9 VT
  subst hn
  have h4:=q4
  simp only [maxLen] at h4
  refine (h1 g cap w q1 (by omega) q3).mono ?_
  rintro e' w' ⟨rfl,k,rfl⟩
  have adA:∀ W:World,W=grow W #[]:=fun W=>by simp [grow]
  have ah1:eH (putRow (Value.int .i64) (Sort.ahead w k) g 0 (L'++List.replicate (L.length - L'.length) 0).toArray) S (fun k=>if k=κ' then some (some (g,cap)) else none) (bw e 1 bI L') g cap:=by
   rw [adA (putRow _ _ _ _ _)]
   exact X5 (d:=L'++List.replicate (L.length - L'.length) 0) (L':=L') VT (by simp; omega) (by simp) (fun i hi=>by simp [List.getD,List.getElem?_append_left hi])
  have hk:Kept w (putRow (Value.int .i64) (Sort.ahead w k) g 0 (L'++List.replicate (L.length - L'.length) 0).toArray) (Handed [(κ,bw e 1 bI L)] μ):=by
   rw [adA (putRow _ _ _ _ _)]
   exact (IG hm).Bv (fun q ⟨c,hq⟩=>⟨κ,bw e 1 bI L,c,by simp [look],hq⟩)
  refine ⟨_,S,fun k=>if k=κ' then some (some (g,cap)) else none,rfl,⟨fun ν=>.own (by simp),fun k b h=>?_,inj _,fun k b g' c h Bt=>?_,fun _ h=>h,fun _ h=>.inl h,fun b pn=>Nat.lt_of_lt_of_le (hS b pn) hk.size,hk⟩⟩
  ·obtain ⟨rfl,rfl⟩:=lk k b h
   simp only [if_true]
   exact ah1
  ·obtain ⟨rfl,rfl⟩:=lk k b h
   simp only [if_true,Option.some.injEq,Prod.mk.injEq] at Bt
   obtain ⟨rfl,rfl⟩:=Bt
   exact .inr ⟨κ,bw e 1 bI L,cap,by simp [look],hm⟩
end
end Go.Av
