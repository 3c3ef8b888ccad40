/- Sketches: what a piece of code computes, told once; the check that the code does so, by computation. -/
import Derived.Test.YtgmnlkccjlnnbaaGreatDoorLc
import Derived.Maps.RangeRun
import Derived.Sort.OwnSortedInts
import Derived.Shelf.SlSortCmp.WholeK
set_option linter.unusedSimpArgs false
set_option linter.unusedVariables false
set_option linter.unusedSectionVars false
namespace Go.Av
noncomputable section
open Go
variable [zl]
inductive CT:Type 1 where
 | nil
 | bad
 | bb (a b:Bool)
 | nn (a b:Nat)
 | zz (a b:Int)
 | dd (a b:D)
 | ll (a b:List D)
 | vv (a b:AV)
 | ff (f g:Nat→List D)
 | mm (f g:Nat→Value × D)
 | ss (a b:List Nat)
 | po (a b:Option Prop)
 | td (a b:List Item)
 | qq (a b:List (Int × Int)→Prop)
 | two (a b:CT)
 | pi {β:Type} (f:β→CT)
def CT.ok:CT→Prop
 | .nil=>True
 | .bad=>False
 | .bb a b=>a=b
 | .nn a b=>a=b
 | .zz a b=>a=b
 | .dd a b=>a=b
 | .ll a b=>a=b
 | .vv a b=>a=b
 | .ff f g=>f=g
 | .mm f g=>f=g
 | .ss a b=>a=b
 | .po a b=>a=b
 | .td a b=>a=b
 | .qq a b=>a=b
 | .two a b=>a.ok∧b.ok
 | .pi f=>∀ b,(f b).ok
def CT.diag:CT→CT
 | .nil=>.nil
 | .bad=>.nil
 | .bb _ b=>.bb b b
 | .nn _ b=>.nn b b
 | .zz _ b=>.zz b b
 | .dd _ b=>.dd b b
 | .ll _ b=>.ll b b
 | .vv _ b=>.vv b b
 | .ff _ g=>.ff g g
 | .mm _ g=>.mm g g
 | .ss _ b=>.ss b b
 | .po _ b=>.po b b
 | .td _ b=>.td b b
 | .qq _ b=>.qq b b
 | .two a b=>.two a.diag b.diag
 | .pi f=>.pi fun b=>(f b).diag
theorem CT.A2:∀ {t:CT},t=t.diag→t.ok
 | .nil,_=>trivial
 | .bad,h=>by cases h
 | .bb a b,h=>by simpa [CT.diag,CT.ok] using h
 | .nn a b,h=>by simpa [CT.diag,CT.ok] using h
 | .zz a b,h=>by simpa [CT.diag,CT.ok] using h
 | .dd a b,h=>by simpa [CT.diag,CT.ok] using h
 | .ll a b,h=>by simpa [CT.diag,CT.ok] using h
 | .vv a b,h=>by simpa [CT.diag,CT.ok] using h
 | .ff a b,h=>by simpa [CT.diag,CT.ok] using h
 | .mm a b,h=>by simpa [CT.diag,CT.ok] using h
 | .ss a b,h=>by simpa [CT.diag,CT.ok] using h
 | .po a b,h=>by simp only [CT.diag,CT.po.injEq] at h; exact h.1
 | .td a b,h=>by simpa [CT.diag,CT.ok] using h
 | .qq a b,h=>by simpa [CT.diag,CT.ok] using h
 | .two a b,h=>by
  simp only [CT.diag,CT.two.injEq] at h
  exact ⟨CT.A2 h.1,CT.A2 h.2⟩
 | .pi f,h=>by
  simp only [CT.diag] at h
  have h1:f=fun b=>(f b).diag:=by injection h
  exact fun b=>CT.A2 (congrFun h1 b)
def Ob.eqs:Ob→CT
 | .tt=>.nil
 | .pr _=>.nil
 | .be a b=>.bb a b
 | .ne a b=>.nn a b
 | .ze a b=>.zz a b
 | .fe f g=>.ff f g
 | .me f g=>.mm f g
 | .ve a b=>.vv a b
 | .two a b=>.two a.eqs b.eqs
 | .wh _ _ a=>a.eqs
def Co:Option Prop→Option Prop→Option Prop
 | none,x=>x
 | x,none=>x
 | some p,some q=>some (p∧q)
def Ob.prop:Ob→Option Prop
 | .pr p=>some p
 | .two a b=>Co a.prop b.prop
 | .wh e w a=>(match a.prop with | none=>none | some p=>some (e=w→p))
 | _=>none
theorem Q6 {x y:Option Prop} (h:∀ p,Co x y=some p→p):(∀ p,x=some p→p)∧∀ p,y=some p→p:=by
 cases x with
 | none=>exact ⟨fun p hp=>(by cases hp),fun p hp=>h p (by simpa [Co] using hp)⟩
 | some a =>
  cases y with
  | none=>exact ⟨fun p hp=>h p (by simpa [Co] using hp),fun p hp=>(by cases hp)⟩
  | some b =>
   have:=h (a∧b) rfl
   exact ⟨fun p hp=>(by cases hp; exact this.1),fun p hp=>(by cases hp; exact this.2)⟩
theorem Ob.Cp:∀ {ob:Ob},ob.eqs.ok→(∀ p,ob.prop=some p→p)→ob.den
 | .tt,_,_=>trivial
 | .pr p,_,h=>h p rfl
 | .be _ _,h,_=>h
 | .ne _ _,h,_=>h
 | .ze _ _,h,_=>h
 | .fe _ _,h,_=>h
 | .me _ _,h,_=>h
 | .ve _ _,h,_=>h
 | .two a b,h,hp=>⟨Ob.Cp h.1 (Q6 hp).1,Ob.Cp h.2 (Q6 hp).2⟩
 | .wh e w a,h,hp=>fun he=>Ob.Cp h (fun p hq=>hp (e=w→p) (by simp [Ob.prop,hq]) he)
def zT (ob:Ob):CT:=match ob.prop with | none=>ob.eqs | some _=>.bad
theorem rl {ob:Ob} (h:(zT ob).ok):ob.den:=by
 unfold zT at h
 split at h
 ·rename_i hn
  exact Ob.Cp h (fun p hp=>by rw [hn] at hp; cases hp)
 ·exact h.elim
def cEq:D→D→CT
 | .v (.slice none 0 0),.sl n _=>.nn n 0
 | x,y=>.dd x y
def Uk:List D→List D→CT
 | [],[]=>.nil
 | c :: cs,d :: ds=>.two (cEq c d) (Uk cs ds)
 | _,_=>.bad
def dEq:D→D→CT
 | .agg cs,.agg ds=>Uk cs ds
 | x,y=>cEq x y
theorem Ul {x y:D} (h:(cEq x y).ok):pQ x y:=by
 unfold cEq at h
 split at h
 ·have h:_=0:=h
  subst h
  exact pQ.nil _
 ·exact pQ.of_eq h
theorem Fg:∀ {cs ds:List D},(Uk cs ds).ok→cs.length=ds.length∧∀ i,i < cs.length→pQ (cs.getD i default) (ds.getD i default)
 | [],[],_=>⟨rfl,fun i hi=>absurd hi (by simp)⟩
 | c :: cs,d :: ds,h=>by
  obtain ⟨h1,h2⟩:=Fg h.2
  refine ⟨by simp [h1],fun i hi=>?_⟩
  cases i with
  | zero=>simpa using Ul h.1
  | succ i=>simpa using h2 i (by simpa using hi)
 | [],_ :: _,h=>h.elim
 | _ :: _,[],h=>h.elim
theorem Yx {x y:D} (h:(dEq x y).ok):pQ x y:=by
 unfold dEq at h
 split at h
 ·exact pQ.agg (Fg h).1 (Fg h).2
 ·exact Ul h
mutual
def PC (ρ:Ren):AV→AV→CT
 | _,.any=>.nil
 | .d x,.d y=>dEq x y
 | .own κ n,.own κ' n'=>.two (.bb (py ρ κ' κ) true) (.nn n n')
 | .d (.v (.slice none 0 0)),.own κ' n'=>.two (.bb (Nb ρ κ') true) (.nn n' 0)
 | .ptr κ o,.ptr κ' o'=>.bb (py ρ κ' κ&&Nat.beq o o') true
 | .ref cs,.ref zQ=>.ll cs zQ
 | .fn f l,.fn f' l'=>.two (.bb (Nat.beq f f') true) (A3 ρ l l')
 | .eD l,.eD l'=>A3 ρ l l'
 | .ag l,.ag l'=>A3 ρ l l'
 | .sj κ,.sj κ'=>.bb (py ρ κ' κ) true
 | .yg n f,.yg n' f'=>.two (.nn n n') (.mm f f')
 | .wG n f,.wG n' f'=>.two (.nn n n') (.ff f f')
 | .wG n f,.d (.sl n' f')=>.two (.nn n n') (.ff f f')
 | .uS κ k i o,.uS κ' k' i' o'=>.two (.bb (py ρ κ' κ&&Nat.beq k k'&&Nat.beq o o') true) (.nn i i')
 | _,_=>.bad
def A3 (ρ:Ren):List AV→List AV→CT
 | [],[]=>.nil
 | x :: r,y :: s=>.two (PC ρ x y) (A3 ρ r s)
 | _,_=>.bad
end
def Yy (ρ:Ren):ba→ba→CT
 | .box cs,.box zQ=>A3 ρ cs zQ
 | .row e k n f,.row e' k' n' f'=>.two (.bb (Nat.beq e e'&&Nat.beq k k') true) (.two (.nn n n') (.ff f f'))
 | .mp n f,.mp n' f'=>.two (.nn n n') (.mm f f')
 | .it mk n s,.it mk' n' s'=>.two (.bb (py ρ mk' mk) true) (.two (.nn n n') (.ss s s'))
 | .mx q,.mx q'=>.qq q q'
 | _,_=>.bad
def Wd (ρ:Ren) (sl:List (Nat × AV)):List (Nat × AV)→CT
 | []=>.nil
 | (t,x) :: r=>.two (PC ρ (St.get sl t) x) (Wd ρ sl r)
def PD (ρ:Ren) (lb:List (Nat × ba)):List (Nat × ba)→CT
 | []=>.nil
 | (κ,b) :: r=>(match look ρ κ with
  | some (some o)=>(match look lb o with | some c=>.two (Yy ρ c b) (PD ρ lb r) | none=>.bad)
  | some none=>(match b with | .row _ _ n _=>.two (.nn n 0) (PD ρ lb r) | _=>.bad)
  | none=>.bad)
mutual
theorem A4 {ρ:Ren}:∀ (x y:AV),(PC ρ x y).ok→∃ p,pz ρ x y=some p∧p
 | x,y,h=>by
  unfold PC at h
  split at h
  ·exact ⟨True,by unfold pz; rfl,trivial⟩
  ·exact ⟨_,by unfold pz; rfl,Yx h⟩
  ·obtain ⟨h1,h2⟩:=h
   have h1:py ρ _ _=true:=h1
   exact ⟨_,by unfold pz; rw [h1]; rfl,h2⟩
  ·obtain ⟨h1,h2⟩:=h
   have h1:Nb ρ _=true:=h1
   exact ⟨_=0,by simp [pz,h1],h2⟩
  ·have h:(py ρ _ _&&Nat.beq _ _)=true:=h
   exact ⟨True,by unfold pz; rw [h]; rfl,trivial⟩
  ·exact ⟨_,by unfold pz; rfl,h⟩
  ·rename_i f l f' l'
   obtain ⟨h1,h2⟩:=h
   have h1:Nat.beq f f'=true:=h1
   obtain ⟨p,hp,hq⟩:=xf l l' h2
   exact ⟨p,by unfold pz; rw [h1]; exact hp,hq⟩
  ·rename_i l l'
   obtain ⟨p,hp,hq⟩:=xf l l' h
   exact ⟨p,by unfold pz; exact hp,hq⟩
  ·rename_i l l'
   obtain ⟨p,hp,hq⟩:=xf l l' h
   exact ⟨p,by unfold pz; exact hp,hq⟩
  ·have h:py ρ _ _=true:=h
   exact ⟨True,by unfold pz; rw [h]; rfl,trivial⟩
  ·rename_i n f n' f'
   exact ⟨n=n'∧f=f',by unfold pz; rfl,h.1,h.2⟩
  ·rename_i n f n' f'
   exact ⟨n=n'∧f=f',by unfold pz; rfl,h.1,h.2⟩
  ·rename_i n f n' f'
   exact ⟨n=n'∧f=f',by unfold pz; rfl,h.1,h.2⟩
  ·rename_i κ k i o κ' k' i' o'
   obtain ⟨h1,h2⟩:=h
   have h1:(py ρ κ' κ&&Nat.beq k k'&&Nat.beq o o')=true:=h1
   exact ⟨i=i',by unfold pz; rw [h1]; rfl,h2⟩
  ·exact h.elim
theorem xf {ρ:Ren}:∀ (x y:List AV),(A3 ρ x y).ok→∃ p,tZ ρ x y=some p∧p
 | [],[],_=>⟨True,by unfold tZ; rfl,trivial⟩
 | x :: r,y :: s,h=>by
  unfold A3 at h
  obtain ⟨p,h1,h2⟩:=A4 x y h.1
  obtain ⟨q,h3,h4⟩:=xf r s h.2
  exact ⟨p∧q,by unfold tZ; rw [h1,h3],h2,h4⟩
 | [],_ :: _,h=>by unfold A3 at h; exact h.elim
 | _ :: _,[],h=>by unfold A3 at h; exact h.elim
end
theorem We {ρ:Ren} {b c:ba} (h:(Yy ρ b c).ok):∃ p,kF ρ b c=some p∧p:=by
 unfold Yy at h
 split at h
 ·rename_i cs zQ
  obtain ⟨p,h1,h2⟩:=xf cs zQ h
  exact ⟨p,h1,h2⟩
 ·rename_i e k n f e' k' n' f'
  obtain ⟨h1,h2,h3⟩:=h
  have h1:(Nat.beq e e'&&Nat.beq k k')=true:=h1
  have h3:f=f':=h3
  exact ⟨n=n'∧∀ i,i < n→f i=f' i,by unfold kF; dsimp only; rw [h1]; rfl,h2,fun i _=>by rw [h3]⟩
 ·rename_i n f n' f'
  exact ⟨n=n'∧f=f',rfl,h.1,h.2⟩
 ·rename_i mk n s mk' n' s'
  obtain ⟨h1,h2,h3⟩:=h
  have h1:py ρ mk' mk=true:=h1
  exact ⟨n=n'∧s=s',by unfold kF; dsimp only; rw [h1]; rfl,h2,h3⟩
 ·rename_i q q'
  exact ⟨q=q',rfl,h⟩
 ·exact h.elim
theorem K5 {ρ:Ren} {sl:List (Nat × AV)}:∀ {l:List (Nat × AV)},(Wd ρ sl l).ok→∃ p,FZ ρ sl l=some p∧p
 | [],_=>⟨True,rfl,trivial⟩
 | (t,x) :: r,h=>by
  obtain ⟨p,h1,h2⟩:=A4 _ _ h.1
  obtain ⟨q,h3,h4⟩:=K5 h.2
  exact ⟨p∧q,by unfold FZ; rw [h1,h3],h2,h4⟩
theorem A5 {ρ:Ren} {lb:List (Nat × ba)}:∀ {l:List (Nat × ba)},(PD ρ lb l).ok→∃ p,D9 ρ lb l=some p∧p
 | [],_=>⟨True,rfl,trivial⟩
 | (κ,b) :: r,h=>by
  unfold PD at h
  split at h
  ·rename_i o ho
   split at h
   ·rename_i c hc
    obtain ⟨p,h1,h2⟩:=We h.1
    obtain ⟨q,h3,h4⟩:=A5 h.2
    exact ⟨p∧q,by unfold D9; rw [ho,h3]; simp only [hc,h1],h2,h4⟩
   ·exact h.elim
  ·rename_i ho
   split at h
   ·obtain ⟨q,h3,h4⟩:=A5 h.2
    exact ⟨_∧q,by unfold D9; rw [ho,h3]; rfl,h.1,h4⟩
   ·exact h.elim
  ·exact h.elim
def Cq (κ:Nat) (o:Option Nat) (ρ:Ren):Ren:=match look ρ κ with | some _=>ρ | none=>(κ,o) :: ρ
mutual
def J6:AV→AV→Ren→Ren
 | .own κ _,.own κ' _,ρ=>Cq κ' (some κ) ρ
 | .d _,.own κ' _,ρ=>Cq κ' none ρ
 | .ptr κ _,.ptr κ' _,ρ=>Cq κ' (some κ) ρ
 | .sj κ,.sj κ',ρ=>Cq κ' (some κ) ρ
 | .uS κ _ _ _,.uS κ' _ _ _,ρ=>Cq κ' (some κ) ρ
 | .fn _ l,.fn _ l',ρ=>F8 l l' ρ
 | .eD l,.eD l',ρ=>F8 l l' ρ
 | .ag l,.ag l',ρ=>F8 l l' ρ
 | _,_,ρ=>ρ
def F8:List AV→List AV→Ren→Ren
 | x :: r,y :: s,ρ=>F8 r s (J6 x y ρ)
 | _,_,ρ=>ρ
end
def Um (sl:List (Nat × AV)):List (Nat × AV)→Ren→Ren
 | [],ρ=>ρ
 | (t,x) :: r,ρ=>Um sl r (J6 (St.get sl t) x ρ)
def F9 (lb:List (Nat × ba)):List (Nat × ba)→Ren→Ren
 | [],ρ=>ρ
 | (κ,b) :: r,ρ=>F9 lb r (match look ρ κ with
  | some (some o)=>(match look lb o,b with | some (.box cs),.box zQ=>F8 cs zQ ρ | some (.it m _ _),.it m' _ _=>Cq m' (some m) ρ | _,_=>ρ)
  | _=>ρ)
def Un (st st':St):Ren:=F9 st.lb st'.lb (F9 st.lb st'.lb (Um st.sl st'.sl []))
def Ih (st st':St):CT:=.two (.bb (AZ (Un st st')) true) (.two (Wd (Un st st') st.sl st'.sl) (PD (Un st st') st.lb st'.lb))
theorem sI {st st':St} (h:(Ih st st').ok):HW st st':=by
 obtain ⟨h1,h2,h3⟩:=h
 obtain ⟨p,q1,q2⟩:=K5 h2
 obtain ⟨p',q3,q4⟩:=A5 h3
 exact HW.of _ h1 q1 q2 q3 q4
def Yz (t:Nat):Nat:=Nat.shiftLeft 1 t
def Ga:Operand→Nat
 | .tmp t=>Yz t
 | _=>0
def J7:List Operand→Nat
 | []=>0
 | x :: r=>Nat.lor (Ga x) (J7 r)
def Uo:List Oper→Nat
 | []=>0
 | o :: r=>Nat.lor (J7 o.op.operands.toList) (Uo r)
def zq:Code→Nat
 | .region _ ops _=>Uo ops.toList
 | .seq a b=>Nat.lor (zq a) (zq b)
 | .cond c a b=>Nat.lor (Ga c) (Nat.lor (zq a) (zq b))
 | .block _ c=>zq c
 | .loop c=>zq c
 | .rangeFunc f _ a b=>Nat.lor (Ga f) (Nat.lor (zq a) (zq b))
 | _=>0
def ju:List Item→Nat
 | []=>0
 | .code c :: r=>Nat.lor (zq c) (ju r)
 | .inLoop c :: r=>Nat.lor (zq c) (ju r)
 | _ :: r=>ju r
def A6:List ResultVar→Nat
 | []=>0
 | .tmp t :: r=>Nat.lor (Yz t) (A6 r)
 | .cell t _ :: r=>Nat.lor (Yz t) (A6 r)
def Gb (m t:Nat):Bool:=Nat.beq (Nat.land (Nat.shiftRight m t) 1) 1
def qe (m:Nat):List (Nat × AV)→List (Nat × AV)
 | []=>[]
 | (t,x) :: r=>bif Gb m t then (t,x) :: qe m r else qe m r
theorem Gc (m:Nat):∀ (l:List (Nat × AV)) (t:Nat),look (qe m l) t=bif Gb m t then look l t else none
 | [],t=>by cases Gb m t <;> rfl
 | (k,x) :: r,t=>by
  have ih:=Gc m r t
  simp only [qe]
  cases hk:Gb m k with
  | true =>
   simp only [cond_true,bq]
   by_cases e:k=t
   ·subst e; simp [hk]
   ·simp only [e,if_false]; exact ih
  | false =>
   simp only [cond_false,bq]
   by_cases e:k=t
   ·subst e; rw [ih,hk]; rfl
   ·simp only [e,if_false]; exact ih
def St.keep (m:Nat) (st:St):St:=⟨qe m st.sl,st.lb⟩
theorem HW.keep (m:Nat) (st:St):HW st (st.keep m):=by
 rintro C a w ⟨S,μ,hs⟩
 refine ⟨S,μ,fun ν=>(hs ν).weaken (fun t v hv=>?_) (fun κ b hb=>⟨b,hb,fun _ h=>h⟩)⟩
 simp only [St.eE,St.get,St.keep,Gc] at hv ⊢
 cases Gb m t with
 | true=>exact hv
 | false=>exact .any _
def K6 (lb:List (Nat × ba)):List Nat→List Nat
 | []=>[]
 | k :: r=>(match look lb k with | some b=>b.keys++K6 lb r | none=>K6 lb r)
def Uq:List (Nat × AV)→List Nat
 | []=>[]
 | (_,x) :: r=>x.keys++Uq r
def Gd (ks:List Nat):List (Nat × ba)→List (Nat × ba)
 | []=>[]
 | (k,b) :: r=>bif ks.any (fun q=>Nat.beq q k) then (k,b) :: Gd ks r else Gd ks r
structure Tg where
 sl:List (Nat × AV):=[]
 lb:List (Nat × ba):=[]
def St.wK (st:St) (m:Nat) (u:Tg):St :=
 let sl:=u.sl++qe m (aL (u.sl.map (·.1)) st.sl)
 let lb:=u.lb++aL (u.lb.map (·.1)) st.lb
 let k0:=Uq sl
 let k1:=K6 lb k0
 let k2:=K6 lb k1
 ⟨sl,Gd (k0++k1++k2) lb⟩
structure aY (β:Type) where
 v:β
 ij:β→List yn
 ja:β→Option Prop
 pre:Prop
 pf:pre→∀ p,ja v=some p→p
 post:β→Prop
 hp:post v
def iter {α ι:Type} (f:ι→α ⊕ ι) (d:α):Nat→ι→α
 | 0,_=>d
 | n+1,i=>match f i with | .inl a=>a | .inr j=>iter f d n j
def ki {α β:Type}:α ⊕ β→(β→α)→α
 | .inl a,_=>a
 | .inr b,f=>f b
def nU {α β:Type} (L:α→Prop) (J:β→Prop):α ⊕ β→Prop
 | .inl a=>L a
 | .inr b=>J b
def fL {α ι:Type} (L:α→Prop) (J:ι→Prop):α ⊕ ι→Prop
 | .inl a=>L a
 | .inr j=>J j
structure ItC (Y:Type) where
 P:Program
 gf:FuncId
 bZ:List AV
 ys:List Y
 enc:Y→List AV
 pre:Prop
 pf:pre→Sg P gf bZ (ys.map enc)
inductive Sk:Type→Type 1 where
 | fin {α:Type} (a:α):Sk α
 | br {α:Type} (e:Bool) (x y:Sk α):Sk α
 | r {α β:Type} (id:Nat) (c:aY β) (k:β→Sk α):Sk α
 | wi {α:Type} (t:Nat) (m n:Int) (k:Sk α):Sk α
 | wn {α:Type} (κ n n':Nat) (k:Sk α):Sk α
 | HZ {α:Type} (k:Sk α):Sk α
 | H0 {α:Type} (k:Sk α):Sk α
 | dead {α:Type} (a:α):Sk α
 | zC {α:Type} (t j n:Nat) (k:Sk α):Sk α
 | Q7 {α:Type} (t:Nat) (c:Bool) (x y:AV) (k1 k2:Sk α):Sk α
 | O2 {α:Type} (t n:Nat) (k1 k2:Sk α):Sk α
 | fz {α:Type} (κ:Nat) (k:Sk α):Sk α
 | op {α:Type} (κ:Nat) (k:List (Int × Int)→Sk α):Sk α
 | cl {α:Type} (κ:Nat) (m:List (Int × Int)) (k:Sk α):Sk α
 | oq {α:Type} (κ:Nat) (q:List (Int × Int)→Prop) (k:List (Int × Int)→Sk α):Sk α
 | cq {α:Type} (κ:Nat) (m:List (Int × Int)) (q:List (Int × Int)→Prop) (k:Sk α):Sk α
 | K1 {α:Type} (id:Nat) (x:Int) (c:qc) (k:Sk α):Sk α
 | mr {α γ:Type} (n:Nat) (V:γ→Prop) (init:γ) (u:γ→List Nat→Tg) (v:γ→Tg) (b:γ→Nat→Sk γ) (k:γ→Sk α):Sk α
 | bind {α β:Type} (blk:Bool) (J:β→Prop) (s:Sk (α ⊕ β)) (u:β→Tg) (k:β→Sk α):Sk α
 | loop {α ι:Type} (d:α) (I:ι→Prop) (m:ι→Nat) (i0:ι) (u:ι→Tg) (b:ι→Sk (α ⊕ ι)):Sk α
 | rf {α σ β Y:Type} (it:ItC Y) (I:Nat→σ→Prop) (B:β→Prop) (id:Nat) (s0:σ) (u:σ→List (Nat × ba)) (v:β→List (Nat × ba)) (b:σ→Y→Sk (β ⊕ σ)) (k:β ⊕ σ→Sk α):Sk α
abbrev Sk.bt {α β:Type} (s:Sk (α ⊕ β)) (u:β→Tg) (k:β→Sk α):Sk α:=.bind true (fun _=>True) s u k
abbrev Sk.lt {α:Type} (t j i n:Nat) (x y:Sk α):Sk α:=.zC t j n (.br (decide ((i:Int) < (n:Int))) x y)
def canon (q:List (Int × Int)→Prop):List (Int × Int):=open Classical in if h:∃ m,q m then h.choose else []
theorem Ge {q:List (Int × Int)→Prop} (h:∃ m,q m):q (canon q):=by
 unfold canon
 rw [dif_pos h]
 exact h.choose_spec
abbrev mxT:List (Int × Int)→Prop:=fun _=>True
def Sk.val:{α:Type}→Sk α→α
 | _,.fin a=>a
 | _,.br e x y=>bif e then x.val else y.val
 | _,.r _ c k=>(k c.v).val
 | _,.wi _ _ _ k=>k.val
 | _,.wn _ _ _ k=>k.val
 | _,.HZ k=>k.val
 | _,.H0 k=>k.val
 | _,.dead a=>a
 | _,.zC _ _ _ k=>k.val
 | _,.Q7 _ c _ _ x y=>bif c then x.val else y.val
 | _,.O2 _ _ _ k=>k.val
 | _,.fz _ k=>k.val
 | _,.op _ k=>(k []).val
 | _,.cl _ _ k=>k.val
 | _,.oq _ q k=>(k (canon q)).val
 | _,.cq _ _ _ k=>k.val
 | _,.K1 _ _ _ k=>k.val
 | _,.mr n _ init _ _ b k=>(k ((List.range n).foldr (fun i g=>(b g i).val) init)).val
 | _,.bind _ _ s _ k=>ki s.val fun b=>(k b).val
 | _,.loop d _ m i0 _ b=>iter (fun i=>(b i).val) d (m i0+1) i0
 | _,.rf it _ _ _ s0 _ _ b k=>(k (mS (fun s y=>(b s y).val) it.ys s0)).val
def Sk.cC:{α:Type}→Sk α→(α→Prop)→Prop
 | _,.fin a,L=>L a
 | _,.br e x y,L=>(e=true→x.cC L)∧(e=false→y.cC L)
 | _,.r _ c k,L=>∀ x,x=c.v→c.post x→(k x).cC L
 | _,.wi _ _ _ k,L=>k.cC L
 | _,.wn _ _ _ k,L=>k.cC L
 | _,.HZ k,L=>k.cC L
 | _,.H0 k,L=>k.cC L
 | _,.dead a,L=>L a
 | _,.zC _ _ _ k,L=>k.cC L
 | _,.Q7 _ c _ _ x y,L=>(c=true→x.cC L)∧(c=false→y.cC L)
 | _,.O2 _ _ _ k,L=>k.cC L
 | _,.fz _ k,L=>k.cC L
 | _,.op _ k,L=>(k []).cC L
 | _,.cl _ _ k,L=>k.cC L
 | _,.oq _ q k,L=>(∃ m,q m)∧∀ m,q m→(k m).cC L
 | _,.cq _ _ _ k,L=>k.cC L
 | _,.K1 _ _ _ k,L=>k.cC L
 | _,.mr n V init _ _ b k,L=>V init∧(∀ g i,V g→i < n→(b g i).cC V)∧∀ g,g=(List.range n).foldr (fun i g=>(b g i).val) init→V g→(k g).cC L
 | _,.bind _ J s _ k,L=>s.cC (nU L J)∧∀ b,s.val=.inr b→J b→(k b).cC L
 | _,.loop _ I m i0 _ b,L=>I i0∧∀ i,I i→(b i).cC (fL L fun j=>I j∧m j < m i)
 | _,.rf it I B _ s0 _ _ b k,L=>I 0 s0∧(∀ i s y,I i s→it.ys[i]? = some y→(b s y).cC (fL B (I (i+1))))∧∀ r,r=mS (fun s y=>(b s y).val) it.ys s0→fL B (I it.ys.length) r→(k r).cC L
def Sk.aZ:{α:Type}→Sk α→(α→Prop)→Prop
 | _,.fin a,L=>L a
 | _,.br e x y,L=>(e=true→x.aZ L)∧(e=false→y.aZ L)
 | _,.r _ c k,L=>c.pre∧∀ x,x=c.v→c.post x→(k x).aZ L
 | _,.wi _ m n k,L=>m=n∧k.aZ L
 | _,.wn _ n n' k,L=>n=n'∧k.aZ L
 | _,.HZ k,L=>k.aZ L
 | _,.H0 k,L=>k.aZ L
 | _,.dead _,_=>False
 | _,.zC _ _ n k,L=>n≤maxLen→k.aZ L
 | _,.Q7 _ c _ _ x y,L=>(c=true→x.aZ L)∧(c=false→y.aZ L)
 | _,.O2 _ n k1 k2,L=>(n=0→k1.aZ L∧k1.val=k2.val)∧k2.aZ L
 | _,.fz _ k,L=>k.aZ L
 | _,.op _ k,L=>∀ m,(k m).val=(k []).val∧(k m).aZ L
 | _,.cl _ _ k,L=>k.aZ L
 | _,.oq _ q k,L=>∀ m,q m→(k m).val=(k (canon q)).val∧(k m).aZ L
 | _,.cq _ m q k,L=>q m∧k.aZ L
 | _,.K1 _ x c k,L=>(0≤x∧x≤(c.n:Int))∧k.aZ L
 | _,.mr n V init _ _ b k,L=>V init∧(∀ g i,V g→i < n→(b g i).cC V∧(b g i).aZ fun _=>True)∧(∀ g i j,V g→i < n→j < n→i≠j→(b (b g j).val i).val=(b (b g i).val j).val)∧∀ g,g=(List.range n).foldr (fun i g=>(b g i).val) init→V g→(k g).aZ L
 | _,.bind _ J s _ k,L=>s.aZ (nU L J)∧∀ b,s.val=.inr b→J b→(k b).aZ L
 | _,.loop _ I m i0 _ b,L=>I i0∧∀ i,I i→(b i).aZ (fL L fun j=>I j∧m j < m i)
 | _,.rf it I B _ s0 _ _ b k,L=>it.pre∧I 0 s0∧(∀ i s y,I i s→it.ys[i]? = some y→(b s y).cC (fL B (I (i+1)))∧(b s y).aZ (fL B (I (i+1))))∧∀ r,r=mS (fun s y=>(b s y).val) it.ys s0→fL B (I it.ys.length) r→(k r).aZ L
theorem J8 {σ β Y:Type} {f:σ→Y→β ⊕ σ} {I:Nat→σ→Prop} {B:β→Prop} (l:List Y) (h:∀ i s y,I i s→l[i]? = some y→fL B (I (i+1)) (f s y)) (s:σ) (hs:I 0 s):fL B (I l.length) (mS f l s):=by
 have:=F3 (f:=f) (I:=I) (B:=B) l 0 (fun i s y hs hy=>by
  rw [Nat.zero_add] at hs ⊢
  have:=h i s y hs hy
  cases e:f s y <;> rw [e] at this <;> exact this) s hs
 rw [Nat.zero_add] at this
 cases e:mS f l s <;> rw [e] at this <;> exact this
theorem ub {γ:Type} {V:γ→Prop} {f:γ→Nat→γ} {n:Nat} (hf:∀ g i,V g→i < n→V (f g i)) {init:γ} (h0:V init):∀ (s:List Nat),(∀ i,i∈s→i < n)→V (s.foldr (fun i g=>f g i) init)
 | [],_=>h0
 | i :: s,h=>hf _ i (ub hf h0 s (fun j hj=>h j (List.mem_cons_of_mem _ hj))) (h i List.mem_cons_self)
theorem PE {γ:Type} {V:γ→Prop} {f:γ→Nat→γ} {n:Nat} (hf:∀ g i,V g→i < n→V (f g i)) (hc:∀ g i j,V g→i < n→j < n→i≠j→f (f g j) i=f (f g i) j) {init:γ} (h0:V init) {s t:List Nat} (h:s.Perm t) :
  (∀ i,i∈s→i < n)→s.foldr (fun i g=>f g i) init=t.foldr (fun i g=>f g i) init:=by
 induction h with
 | nil=>intro _; rfl
 | cons x _ ih=>intro hs; simp only [List.foldr_cons]; rw [ih (fun i hi=>hs i (List.mem_cons_of_mem _ hi))]
 | swap x y l =>
  intro hs
  simp only [List.foldr_cons]
  by_cases e:x=y
  ·rw [e]
  ·exact hc _ y x (ub hf h0 l (fun i hi=>hs i (by simp [hi]))) (hs y (by simp)) (hs x (by simp)) (fun e'=>e e'.symm)
 | trans h1 _ ih1 ih2=>intro hs; rw [ih1 hs,ih2 (fun i hi=>hs i (h1.mem_iff.2 hi))]
theorem J9 {α ι:Type} {f:ι→α ⊕ ι} {d:α} {L:α→Prop} {I:ι→Prop} {m:ι→Nat} (h:∀ i,I i→fL L (fun j=>I j∧m j < m i) (f i)):∀ (n:Nat) (i:ι),I i→m i < n→L (iter f d n i)
 | 0,i,_,hn=>absurd hn (by omega)
 | n+1,i,hi,hn=>by
  have:=h i hi
  simp only [iter]
  cases hf:f i with
  | inl a=>rw [hf] at this; exact this
  | inr j=>rw [hf] at this; exact J9 h n j this.1 (by have:=this.2; omega)
theorem Sk.cZ:{α:Type}→(s:Sk α)→{L:α→Prop}→s.cC L→L s.val
 | _,.fin a,_,h=>h
 | _,.br e x y,L,h=>by
  cases e with
  | true=>exact x.cZ (h.1 rfl)
  | false=>exact y.cZ (h.2 rfl)
 | _,.r _ c k,L,h=>(k c.v).cZ (h _ rfl c.hp)
 | _,.wi _ _ _ k,L,h=>k.cZ (L:=L) h
 | _,.wn _ _ _ k,L,h=>k.cZ (L:=L) h
 | _,.HZ k,L,h=>k.cZ (L:=L) h
 | _,.H0 k,L,h=>k.cZ (L:=L) h
 | _,.dead _,_,h=>h
 | _,.zC _ _ n k,L,h=>k.cZ (L:=L) h
 | _,.Q7 _ c _ _ x y,L,h=>by
  cases c with
  | true=>exact x.cZ (h.1 rfl)
  | false=>exact y.cZ (h.2 rfl)
 | _,.O2 _ _ _ k,L,h=>k.cZ (L:=L) h
 | _,.fz _ k,L,h=>k.cZ (L:=L) h
 | _,.op _ k,L,h=>(k []).cZ (L:=L) h
 | _,.cl _ _ k,L,h=>k.cZ (L:=L) h
 | _,.oq _ q k,L,h=>(k (canon q)).cZ (L:=L) (h.2 _ (Ge h.1))
 | _,.cq _ _ _ k,L,h=>k.cZ (L:=L) h
 | _,.K1 _ _ _ k,L,h=>k.cZ (L:=L) h
 | _,.mr n V init _ _ b k,L,h=>(k _).cZ (h.2.2 _ rfl (ub (fun g i hg hi=>(b g i).cZ (h.2.1 g i hg hi)) h.1 _ (fun i hi=>List.mem_range.1 hi)))
 | _,.bind _ J s _ k,L,h=>by
  have h1:=s.cZ h.1
  show L (ki s.val fun b=>(k b).val)
  cases hs:s.val with
  | inl a=>rw [hs] at h1; exact h1
  | inr b=>rw [hs] at h1; exact (k b).cZ (h.2 b hs h1)
 | _,.loop d I m i0 _ b,L,h=>J9 (f:=fun i=>(b i).val) (fun i hi=>(b i).cZ (h.2 i hi)) (m i0+1) i0 h.1 (Nat.lt_succ_self _)
 | _,.rf it I B _ s0 _ _ b k,L,h=>(k _).cZ (h.2.2 _ rfl (J8 it.ys (fun i s y hs hy=>(b s y).cZ (h.2.1 i s y hs hy)) s0 h.1))
def wnA (κ n':Nat):AV→AV
 | .own k m=>bif Nat.beq k κ then .own k n' else .own k m
 | x=>x
def wnC (κ n:Nat):AV→CT
 | .own k m=>bif Nat.beq k κ then .nn m n else .nil
 | _=>.nil
def Wf (κ n':Nat):List AV→List AV
 | []=>[]
 | x :: r=>wnA κ n' x :: Wf κ n' r
def YA (κ n:Nat):List AV→CT
 | []=>.nil
 | x :: r=>.two (wnC κ n x) (YA κ n r)
def Wg (κ n':Nat):List (Nat × AV)→List (Nat × AV)
 | []=>[]
 | (t,x) :: r=>(t,wnA κ n' x) :: Wg κ n' r
def Ur (κ n:Nat):List (Nat × AV)→CT
 | []=>.nil
 | (_,x) :: r=>.two (wnC κ n x) (Ur κ n r)
def Ii (κ n':Nat):List (Nat × ba)→List (Nat × ba)
 | []=>[]
 | (k,.box cs) :: r=>(k,.box (Wf κ n' cs)) :: Ii κ n' r
 | (k,.row e q n f) :: r=>(k,.row e q (bif Nat.beq k κ then n' else n) f) :: Ii κ n' r
 | (k,b) :: r=>(k,b) :: Ii κ n' r
def DG (κ n:Nat) (n':Nat):List (Nat × ba)→CT
 | []=>.nil
 | (_,.box cs) :: r=>.two (YA κ n cs) (DG κ n n' r)
 | (k,.row _ _ m _) :: r=>.two (bif Nat.beq k κ then .nn m n' else .nil) (DG κ n n' r)
 | (_,_) :: r=>DG κ n n' r
theorem Us {κ n:Nat} {x:AV} (h:(wnC κ n x).ok):wnA κ n x=x:=by
 unfold wnC at h
 split at h
 ·rename_i k m
  show (bif Nat.beq k κ then AV.own k n else AV.own k m)=AV.own k m
  cases hb:Nat.beq k κ with
  | true =>
   rw [hb] at h
   have h:m=n:=h
   subst h
   rfl
  | false=>rfl
 ·rename_i RW
  cases x <;> first | rfl | exact absurd rfl (RW _ _)
theorem Q8 {κ n:Nat}:∀ {l:List AV},(YA κ n l).ok→Wf κ n l=l
 | [],_=>rfl
 | x :: r,h=>by simp only [Wf,Us h.1,Q8 h.2]
theorem Q9 {κ n:Nat}:∀ {l:List (Nat × AV)},(Ur κ n l).ok→Wg κ n l=l
 | [],_=>rfl
 | (t,x) :: r,h=>by simp only [Wg,Us h.1,Q9 h.2]
theorem yt {κ n:Nat}:∀ {l:List (Nat × ba)},(DG κ n n l).ok→Ii κ n l=l
 | [],_=>rfl
 | (k,.box cs) :: r,h=>by simp only [Ii,Q8 h.1,yt h.2]
 | (k,.row e q m f) :: r,h=>by
  simp only [Ii,yt h.2]
  have h1:=h.1
  cases hb:Nat.beq k κ with
  | false=>rfl
  | true =>
   rw [hb] at h1
   have h1:m=n:=h1
   subst h1
   rfl
 | (k,.mp _ _) :: r,h=>by have h:(DG κ n n r).ok:=h; simp only [Ii,yt h]
 | (k,.it _ _ _) :: r,h=>by have h:(DG κ n n r).ok:=h; simp only [Ii,yt h]
 | (k,.mx _) :: r,h=>by have h:(DG κ n n r).ok:=h; simp only [Ii,yt h]
def Ka (lb:List (Nat × ba)):AV→Option Nat
 | .d (.sl q _)=>some q
 | .own κ _=>(match look lb κ with | some (.row _ _ q _)=>some q | _=>none)
 | _=>none
def Nk (st:St) (t j:Nat):Option Nat :=
 match St.get st.sl t with
 | .ptr κ _=>(match look st.lb κ with | some (.box cs)=>bif Nat.ble (j+1) cs.length then Ka st.lb (cs.getD j default) else none | _=>none)
 | .ref cs=>bif Nat.ble (j+1) cs.length then Ka st.lb (.d (cs.getD j default)) else none
 | .d (.agg cs)=>bif Nat.ble (j+1) cs.length then Ka st.lb (.d (cs.getD j default)) else none
 | x=>Ka st.lb x
def Wh (κ:Nat) (f:Nat→List D):AV→AV
 | .own k m=>bif Nat.beq k κ then .d (.sl m f) else .own k m
 | x=>x
def ZH (κ n:Nat):AV→CT
 | .own k m=>bif Nat.beq k κ then .nn m n else .nil
 | x=>.bb (x.keys.any fun k=>Nat.beq k κ) false
def PF (κ:Nat) (f:Nat→List D):List AV→List AV
 | []=>[]
 | x :: r=>Wh κ f x :: PF κ f r
def YB (κ n:Nat):List AV→CT
 | []=>.nil
 | x :: r=>.two (ZH κ n x) (YB κ n r)
def Ut (κ:Nat) (f:Nat→List D):List (Nat × AV)→List (Nat × AV)
 | []=>[]
 | (t,x) :: r=>(t,Wh κ f x) :: Ut κ f r
def Ra (κ n:Nat):List (Nat × AV)→CT
 | []=>.nil
 | (_,x) :: r=>.two (ZH κ n x) (Ra κ n r)
def fzB (κ:Nat) (f:Nat→List D):ba→ba
 | .box cs=>.box (PF κ f cs)
 | b=>b
def aaG (κ n:Nat):ba→CT
 | .box cs=>YB κ n cs
 | .it m _ _=>.bb (Nat.beq m κ) false
 | _=>.nil
def PG (κ:Nat) (f:Nat→List D):List (Nat × ba)→List (Nat × ba)
 | []=>[]
 | (k,b) :: r=>bif Nat.beq k κ then PG κ f r else (k,fzB κ f b) :: PG κ f r
def Rb (κ n:Nat):List (Nat × ba)→CT
 | []=>.nil
 | (k,b) :: r=>.two (bif Nat.beq k κ then .nil else aaG κ n b) (Rb κ n r)
theorem Nl (κ n:Nat) (f:Nat→List D):∀ (l:List (Nat × AV)) (t:Nat),(Ra κ n l).ok→St.get (Ut κ f l) t=Wh κ f (St.get l t)∧(ZH κ n (St.get l t)).ok
 | [],t,_=>⟨rfl,rfl⟩
 | (k,x) :: r,t,h=>by
  obtain ⟨i1,i2⟩:=Nl κ n f r t h.2
  simp only [St.get,Ut,bq] at i1 i2 ⊢
  by_cases e:k=t
  ·simp only [e,if_true]
   exact ⟨trivial,h.1⟩
  ·simp only [e,if_false]
   exact ⟨i1,i2⟩
theorem qQ (κ n:Nat) (f:Nat→List D):∀ (l:List (Nat × ba)) (κ':Nat) (b:ba),(Rb κ n l).ok→look (PG κ f l) κ'=some b→κ'≠κ∧∃ c,look l κ'=some c∧b=fzB κ f c∧(aaG κ n c).ok
 | [],κ',b,_,h=>by simp [PG,look] at h
 | (k,c) :: r,κ',b,h,hl=>by
  have h1:=h.1
  simp only [PG] at hl
  cases hb:Nat.beq k κ with
  | true =>
   rw [hb] at hl
   simp only [cond_true] at hl
   obtain ⟨q1,d,q2,q3⟩:=qQ κ n f r κ' b h.2 hl
   have hk:=Nat.eq_of_beq_eq_true hb
   refine ⟨q1,d,?_,q3⟩
   rw [bq,if_neg (fun e=>q1 (by omega))]
   exact q2
  | false =>
   rw [hb] at hl h1
   simp only [cond_false,bq] at hl h1
   split at hl
   ·rename_i e
    subst e
    simp only [Option.some.injEq] at hl
    subst hl
    refine ⟨fun e=>(by rw [e,Nat.beq_refl] at hb; cases hb),c,(by rw [bq,if_pos rfl]),rfl,h1⟩
   ·rename_i e
    obtain ⟨q1,d,q2,q3⟩:=qQ κ n f r κ' b h.2 hl
    exact ⟨q1,d,by rw [bq,if_neg e]; exact q2,q3⟩
theorem HW.fz {st:St} {κ e k n:Nat} {f:Nat→List D} (hl:look st.lb κ=some (.row e k n f)) (h1:(Ra κ n st.sl).ok) (h2:(Rb κ n st.lb).ok):HW st ⟨Ut κ f st.sl,PG κ f st.lb⟩:=by
 rintro C a w ⟨S,μ,hs⟩
 have Cm:=hs fun _=>false
 have hm:=Cm.mem κ _ hl
 let S':Nat→Prop:=fun q=>S q∨∃ c,μ κ=some (some (q,c))
 have hS:∀ q,S q→S' q:=fun _ h=>.inl h
 have main:∀ {ν:Nat→Bool} {x:AV} {v:Value},(ZH κ n x).ok→Rel w S μ ν x v→Rel w S' μ ν (Wh κ f x) v:=by
  intro ν x v hc hr
  have other:Wh κ f x=x→Rel w S' μ ν (Wh κ f x) v:=fun e=>by rw [e]; exact hr.mono hS (fun _ _=>rfl) (fun _ _ e=>e)
  cases x with
  | own q m =>
   cases hb:Nat.beq q κ with
   | false=>exact other (by simp [Wh,hb])
   | true =>
    have e:=Nat.eq_of_beq_eq_true hb
    subst e
    simp only [ZH,hb,cond_true] at hc
    have hc:m=n:=hc
    subst hc
    simp only [Wh,hb,cond_true]
    cases hr with
    | @cu _ ad hμ =>
     cases ad with
     | none=>exact .d (.nil f)
     | some ad=>exact .d (.sl 0 f ad 0 0 (fun _ _=>undef) (Nat.le_refl _) (by simp [maxLen]) (.inl rfl) (fun i hi=>absurd hi (by omega)) (fun i j hi=>absurd hi (by omega)) (fun i j hi=>absurd hi (by omega)))
    | @own _ _ g cap hμ =>
     rw [hμ] at hm
     obtain ⟨cur,hg,_,gS,hn,hcp,lh⟩:=hm.at
     refine .d (.sl m f ⟨g,0,none⟩ cap k (fun i j=>(cur[i * k+j]?).getD undef) hn hcp (.inr rfl) (fun i hi=>(lh i hi).1) (fun i j hi hj=>⟨.inr ⟨cap,hμ⟩,?_⟩) (fun i j hi hj=>?_))
     ·obtain ⟨u,hu,_⟩:=(lh i hi).2 j hj
      rw [Nat.zero_add,fC w g _ cur e _ hg,hu]
      rfl
     ·obtain ⟨u,hu,Pe⟩:=(lh i hi).2 j hj
      rw [hu]
      exact Pe.mono hS (fun _ _=>rfl)
  | any=>exact other rfl
  | d=>exact other rfl
  | ptr=>exact other rfl
  | uS=>exact other rfl
  | ref=>exact other rfl
  | wG=>exact other rfl
  | sj=>exact other rfl
  | yg=>exact other rfl
  | fn=>exact other rfl
  | eD=>exact other rfl
  | ag=>exact other rfl
  | g=>exact other rfl
 refine ⟨S',μ,fun ν=>?_⟩
 have Th:=hs ν
 refine ⟨Th.tmps,Th.defers,fun t=>?_,fun κ' b hb=>?_,fun κ1 κ2 b1 b2 g c c' q1 q2 q3 q4=>?_,fun κ' b g c q1 q2=>?_,fun b hb=>.inl (Th.dG b hb),fun b hb=>?_,fun b hb=>?_,Th.kept⟩
 ·obtain ⟨e1,e2⟩:=Nl κ n f st.sl t h1
  simp only [St.eE]
  rw [e1]
  exact main e2 (Th.df t)
 ·obtain ⟨qW,c,hc,rfl,Mp⟩:=qQ κ n f st.lb κ' b h2 hb
  have zo:=Th.mem κ' c hc
  have hnS:∀ g cc,μ κ'=some (some (g,cc))→¬ S' g:=fun g cc TL Z0=>by
   rcases Z0 with h | ⟨c2,B6⟩
   ·rw [TL] at zo; exact zo.at.not h
   ·exact qW (Th.inj κ' κ c _ g cc c2 hc hl TL B6)
  have Rc:=zo.mono (S':=S') hS (fun _ _=>rfl) (fun _ _ e=>e) (fun g cc e=>⟨rfl,hnS g cc e⟩)
  cases c with
  | box cs =>
   cases TL:μ κ' with
   | none=>rw [TL] at zo; exact zo.elim
   | some y =>
    cases y with
    | none=>rw [TL] at zo; exact zo.elim
    | some gc =>
     obtain ⟨g,cc⟩:=gc
     rw [TL] at zo
     obtain ⟨cur,e0,x1,x2,x3,x4⟩:=zo.at
     have hlen:∀ (l:List AV),(PF κ f l).length=l.length:=fun l=>by induction l with | nil=>rfl | cons _ _ ih=>simp [PF,ih]
     have Ph:∀ (l:List AV) (j:Nat),j < l.length→(YB κ n l).ok→(PF κ f l).getD j default=Wh κ f (l.getD j default)∧(ZH κ n (l.getD j default)).ok:=fun l=>by
      induction l with
      | nil=>intro j hj; exact absurd hj (by simp)
      | cons x r ih =>
       intro j hj hk
       cases j with
       | zero=>exact ⟨rfl,hk.1⟩
       | succ j=>simpa [PF] using ih j (by simpa using hj) hk.2
     refine cD.ok (b:=.box (PF κ f cs)) ⟨cur,e0,x1,hnS g cc TL,by rw [hlen]; exact x3,fun j hj=>?_⟩
     rw [hlen] at hj
     obtain ⟨x,y1,y2⟩:=x4 j hj
     obtain ⟨z1,z2⟩:=Ph cs j hj Mp
     exact ⟨x,y1,fun ν'=>by rw [z1]; exact main z2 (y2 ν')⟩
  | row=>exact Rc
  | mp=>exact Rc
  | it=>exact Rc
  | mx=>exact Rc
 ·obtain ⟨_,d1,e1,_⟩:=qQ κ n f st.lb κ1 b1 h2 q1
  obtain ⟨_,d2,e2,_⟩:=qQ κ n f st.lb κ2 b2 h2 q2
  exact Th.inj κ1 κ2 d1 d2 g c c' e1 e2 q3 q4
 ·obtain ⟨_,d1,e1,_⟩:=qQ κ n f st.lb κ' b h2 q1
  exact Th.own κ' d1 g c e1 q2
 ·rcases hb with h | ⟨c,hc⟩
  ·exact Th.fresh b h
  ·rcases Th.own κ _ b c hl hc with h | h
   ·exact .inr (.inl h)
   ·exact .inr (.inr h)
 ·rcases hb with h | ⟨c,hc⟩
  ·exact Th.bound b h
  ·rw [hc] at hm
   exact hm.at.lt
def PH (ops:Array Oper):Option (Nat × Nat × Nat) :=
 match ops.toList with
 | [o1,o2]=>(match o1.op,o1.dst,o1.guard,o2.op,o2.dst,o2.guard with
  | .next (.tmp it) false,some d1,none,.extract (.tmp Tf) 0,some d2,none=>bif Nat.beq d1 Tf then some (it,d1,d2) else none
  | _,_,_,_,_,_=>none)
 | _=>none
def mo:Code→Option (Array Oper × List Item)
 | .seq x y=>(match mo x with | some (ops,l)=>some (ops,l++[.code y]) | none=>none)
 | .region _ ops false=>some (ops,[])
 | _=>none
def PI (st:St) (d1 d2 κi κ n i:Nat) (s:List Nat):St:=⟨(d2,.d (.v (.bool true))) :: aL [d1,d2] st.sl,(κi,.it κ n (i :: s)) :: aL [κi] st.lb⟩
def Gf (st:St) (d1 d2 it:Nat):St:=⟨(d2,.d (.v (.bool false))) :: aL [d1,d2,it] st.sl,st.lb⟩
inductive Uu where
 | ret (x:AV) (cz:List (Nat × ba))
 | V2 (x:AV) (cz:List (Nat × ba)) (kD:List (Nat × Nat))
 | go (todo:List Item) (st:St)
 | brk (id:Nat) (st:St)
def PJ (g:Goal):Uu→Prop
 | .ret x cz=>g.Vw∧g.res=x∧g.cz=cz
 | .V2 x cz kD=>g.Pv kD∧g.res=x∧g.cz=cz
 | .go todo st=>G g todo st
 | .brk id st=>∀ k,exitTo id k=none→G g (.code (.exit id) :: k) st
def Wi (T:List (Nat × TI)) (rs:List ResultVar) (st:St) (x:AV) (cz:List (Nat × ba)):CT :=
 match sG T st rs with
 | some (l,_,ob)=>(match cz with
  | []=>(match tW st.lb l with | some (l',_,AE)=>.two (zT ob) (.two (zT AE) (PC [] (pv l') x)) | none=>.bad)
  | cz=>.two (zT ob) (.two (.bb (AZ (F9 st.lb cz (J6 (pv l) x []))) true) (.two (PC (F9 st.lb cz (J6 (pv l) x [])) (pv l) x) (PD (F9 st.lb cz (J6 (pv l) x [])) st.lb cz))))
 | none=>.bad
def aaH (kD:List (Nat × Nat)):List (Nat × AV):=kD.map fun p=>(p.1,.ptr p.2 0)
def Wj (st:St) (x:AV) (cz:List (Nat × ba)) (kD:List (Nat × Nat)) (l:List AV):Ren:=F9 st.lb cz (Um st.sl (aaH kD) (J6 (pv l) x []))
def Re (T:List (Nat × TI)) (rs:List ResultVar) (st:St) (x:AV) (cz:List (Nat × ba)) (kD:List (Nat × Nat)):CT :=
 match sG T st rs with
 | some (l,_,ob)=>.two (zT ob) (.two (.bb (AZ (Wj st x cz kD l)) true) (.two (PC (Wj st x cz kD l) (pv l) x) (.two (Wd (Wj st x cz kD l) st.sl (aaH kD)) (PD (Wj st x cz kD l) st.lb cz))))
 | none=>.bad
def mq (P:Program) (T:List (Nat × TI)) (nt:Nat) (rm:Nat) (md:Nat) (pr:List Nat) (todo:List Item) (st:St):Option (List Item × St × CT) :=
 match todo with
 | .code (.seq x y) :: k=>some (.code x :: .code y :: k,st,.nil)
 | .code .skip :: k=>some (k,st,.nil)
 | .code (.label _) :: k=>some (k,st,.nil)
 | .code (.cond (.const (.bool e)) x y) :: k=>some (.code (bif e then x else y) :: k,st,.nil)
 | .code (.block id c) :: k=>some (.code c :: .inBlock id :: k,st,.nil)
 | .inBlock _ :: k=>some (k,st,.nil)
 | .code (.exit id) :: k=>(match exitTo id k with | some k'=>some (k',st,.nil) | none=>none)
 | .code (.region _ ops draw) :: k=>(match mR P T nt ops draw none st [] with
  | some (st',ob)=>some (k,st'.keep (Nat.lor rm (ju k)),.two (.bb (D8 md pr ops) true) (zT ob))
  | none=>none)
 | _=>none
def Wk (c:Bool):AV→AV→AV
 | .d x,.d y=>.d (bif c then x else y)
 | x,y=>bif c then x else y
theorem Wl (c:Bool) (x y:AV):Wk c x y=bif c then x else y:=by
 unfold Wk
 split
 ·cases c <;> rfl
 ·rfl
def Mh (rm:Nat) (todo:List Item):Nat:=Nat.lor rm (ju todo)
def Uv (P:Program) (T:List (Nat × TI)) (nt:Nat) (rm:Nat) (md:Nat) (pr:List Nat):Nat→List Item→St→Option (List Item × St × CT)
 | 0,_,_=>none
 | n+1,todo,st=>(match todo with
  | .beginRound :: k=>some (.beginRound :: k,st,.nil)
  | todo=>(match mq P T nt rm md pr todo st with
   | some (k,st1,c)=>(match Uv P T nt rm md pr n k st1 with
    | some (k',st2,c')=>some (k',st2,.two c c')
    | none=>none)
   | none=>none))
def Uw (P:Program) (T:List (Nat × TI)) (nt:Nat) (rm:Nat) (md:Nat) (pr:List Nat) (n:Nat) (todo:List Item) (st:St):St:=match Uv P T nt rm md pr n todo st with | some (_,st2,_)=>st2 | none=>⟨[],[]⟩
def aaI (P:Program) (T:List (Nat × TI)) (nt:Nat) (rm:Nat) (md:Nat) (pr:List Nat) (n:Nat) (todo:List Item) (st:St) (k:List Item):CT:=match Uv P T nt rm md pr n todo st with | some (k',_,c)=>.two c (.td k' k) | none=>.bad
def YC (m:List (Int × Int)):Nat→Value × D:=fun i=>(.int .i64 (m.getD i default).1,.v (.int .i64 (m.getD i default).2))
def mK (P:Program) (T:List (Nat × TI)) (nt:Nat) (rs:List ResultVar) (rm:Nat) (md:Nat) (pr:List Nat):Nat→{α:Type}→List Item→St→(α→Uu)→Sk α→CT
 | 0,_,_,_,_,_=>.bad
 | n+1,_,todo,st,L,sk =>
  match sk with
  | .op κ k=>(match look st.lb κ with
   | some (.mx _)=>.pi fun m=>mK P T nt rs rm md pr n todo ⟨st.sl,(κ,.mp m.length (YC m)) :: aL [κ] st.lb⟩ L (k m)
   | _=>.bad)
  | .oq κ q k=>(match look st.lb κ with
   | some (.mx q')=>.two (.qq q' q) (.pi fun m=>mK P T nt rs rm md pr n todo ⟨st.sl,(κ,.mp m.length (YC m)) :: aL [κ] st.lb⟩ L (k m))
   | _=>.bad)
  | .cq κ m q' k=>(match look st.lb κ with
   | some (.mp q f)=>.two (.nn q m.length) (.two (.mm f (YC m)) (mK P T nt rs rm md pr n todo ⟨st.sl,(κ,.mx q') :: aL [κ] st.lb⟩ L k))
   | _=>.bad)
  | .cl κ m k=>(match look st.lb κ with
   | some (.mp q f)=>.two (.nn q m.length) (.two (.mm f (YC m)) (mK P T nt rs rm md pr n todo ⟨st.sl,(κ,.mx mxT) :: aL [κ] st.lb⟩ L k))
   | _=>.bad)
  | .K1 id x c k=>(match todo with
   | .code (.region i ops false) :: K=>bif Nat.beq i id then (match Ug ops with
    | some (ts,ti,ty,d1,d2,d3)=>(match St.get st.sl ts,St.get st.sl ti,look T ty with
     | .own κ m,.d (.v (.int .i64 xx)),some { kind:=.slice e',.. }=>(match look st.lb κ,look T e' with
      | some (.row e q m2 f),some i=>.two (.bb (Nat.ble (d1+1) nt&&Nat.ble (d2+1) nt&&Nat.ble (d3+1) nt&&D8 md pr ops&&Nat.beq e e'&&Nat.beq q i.size&&i.zero.all wu&&!Nat.beq ts d1&&!Nat.beq ts d2&&!Nat.beq ts d3) true)
        (.two (.zz xx x) (.two (.nn m m2) (.two (.nn m c.n) (.two (.ff (vg xx.toNat f i.zero) c.f)
        (mK P T nt rs rm md pr n K (St.keep (Nat.lor rm (ju K)) ⟨(ts,.own κ c.n') :: aL [ts,d1,d2,d3] st.sl,(κ,.row e q c.n' c.f') :: aL [κ] st.lb⟩) L k)))))
      | _,_=>.bad)
     | _,_,_=>.bad)
    | none=>.bad)
    else (match mq P T nt rm md pr (.code (.region i ops false) :: K) st with | some (k0,st1,c0)=>.two c0 (mK P T nt rs rm md pr n k0 st1 L (.K1 id x c k)) | none=>.bad)
   | todo=>(match mq P T nt rm md pr todo st with | some (k0,st1,c0)=>.two c0 (mK P T nt rs rm md pr n k0 st1 L (.K1 id x c k)) | none=>.bad))
  | .wi t a b k=>.two (.vv (St.get st.sl t) (.d (.v (.int .i64 a)))) (mK P T nt rs rm md pr n todo ⟨(t,.d (.v (.int .i64 b))) :: aL [t] st.sl,st.lb⟩ L k)
  | .zC t j m k=>(match Nk st t j with
   | some q=>.two (.nn q m) (mK P T nt rs rm md pr n todo st L k)
   | none=>.bad)
  | .wn κ a b k=>.two (Ur κ a st.sl) (.two (DG κ a b st.lb) (mK P T nt rs rm md pr n todo ⟨Wg κ b st.sl,Ii κ b st.lb⟩ L k))
  | .dead _=>.nil
  | .O2 t m k1 k2=>(match St.get st.sl t with
   | .d (.sl q f)=>.two (.nn q m) (.two (mK P T nt rs rm md pr n todo ⟨(t,.d (.v (.slice none 0 0))) :: aL [t] st.sl,st.lb⟩ L k1) (mK P T nt rs rm md pr n todo ⟨(t,.wG q f) :: aL [t] st.sl,st.lb⟩ L k2))
   | _=>.bad)
  | .fz κ k=>(match look st.lb κ with
   | some (.row _ _ q f)=>.two (Ra κ q st.sl) (.two (Rb κ q st.lb) (mK P T nt rs rm md pr n todo ⟨Ut κ f st.sl,PG κ f st.lb⟩ L k))
   | _=>.bad)
  | .mr m V init u v b k=>(match todo with
   | .code (.loop c) :: K=>(match mo c with
    | some (ops,l)=>(match PH ops with
     | some (it,d1,d2)=>bif Nat.ble (d1+1) nt&&Nat.ble (d2+1) nt&&D8 md pr ops then
       .two (Ih st (st.wK (Nat.lor rm (ju (.inLoop c :: K))) (u init [])))
       (.two (.pi fun g=>.pi fun s=>(match St.get (st.wK (Nat.lor rm (ju (.inLoop c :: K))) (u g s)).sl it with
        | .ptr κi 0=>(match look (st.wK (Nat.lor rm (ju (.inLoop c :: K))) (u g s)).lb κi with
         | some (.it κ m1 s1)=>(match look (st.wK (Nat.lor rm (ju (.inLoop c :: K))) (u g s)).lb κ with
          | some (.mp m2 _)=>.two (.nn m1 m) (.two (.nn m2 m) (.two (.ss s1 s) (.two
            (Ih (Gf (st.wK (Nat.lor rm (ju (.inLoop c :: K))) (u g s)) d1 d2 it) ((Gf st d1 d2 it).wK (Nat.lor rm (ju (l++.inLoop c :: K))) (v g)))
            (.pi fun i=>mK P T nt rs rm md pr n (l++.inLoop c :: K) (PI (st.wK (Nat.lor rm (ju (.inLoop c :: K))) (u g s)) d1 d2 κi κ m i s) (fun g'=>.go (.inLoop c :: K) (st.wK (Nat.lor rm (ju (.inLoop c :: K))) (u g' (i :: s)))) (b g i)))))
          | _=>.bad)
         | _=>.bad)
        | _=>.bad))
       (.pi fun g=>mK P T nt rs rm md pr n (l++.inLoop c :: K) ((Gf st d1 d2 it).wK (Nat.lor rm (ju (l++.inLoop c :: K))) (v g)) L (k g))) else .bad
     | none=>.bad)
    | none=>.bad)
   | todo=>(match mq P T nt rm md pr todo st with | some (k0,st1,c)=>.two c (mK P T nt rs rm md pr n k0 st1 L (.mr m V init u v b k)) | none=>.bad))
  | .HZ x=>(match todo with
   | .code (.cond (.tmp c) p _) :: k=>.two (.vv (St.get st.sl c) (.d (.v (.bool true)))) (mK P T nt rs rm md pr n (.code p :: k) st L x)
   | todo=>(match mq P T nt rm md pr todo st with | some (k,st1,c)=>.two c (mK P T nt rs rm md pr n k st1 L (.HZ x)) | none=>.bad))
  | .H0 x=>(match todo with
   | .code (.cond (.tmp c) _ q) :: k=>.two (.vv (St.get st.sl c) (.d (.v (.bool false)))) (mK P T nt rs rm md pr n (.code q :: k) st L x)
   | todo=>(match mq P T nt rm md pr todo st with | some (k,st1,c)=>.two c (mK P T nt rs rm md pr n k st1 L (.H0 x)) | none=>.bad))
  | .Q7 t c x y k1 k2=>.two (.vv (St.get st.sl t) (Wk c x y)) (.two (mK P T nt rs rm md pr n todo ⟨(t,x) :: aL [t] st.sl,st.lb⟩ L k1) (mK P T nt rs rm md pr n todo ⟨(t,y) :: aL [t] st.sl,st.lb⟩ L k2))
  | .fin a=>(match L a with
   | .go FY st'=>bif Nat.beq todo.length FY.length then .two (.td todo FY) (Ih st st') else
     (match mq P T nt rm md pr todo st with | some (k,st1,c)=>.two c (mK P T nt rs rm md pr n k st1 L (.fin a)) | none=>.bad)
   | .brk id st'=>(match todo with
    | .code (.exit id') :: k=>bif Nat.beq id id'&&(exitTo id' k).isNone then Ih st st' else
     (match mq P T nt rm md pr (.code (.exit id') :: k) st with | some (k,st1,c)=>.two c (mK P T nt rs rm md pr n k st1 L (.fin a)) | none=>.bad)
    | todo=>(match mq P T nt rm md pr todo st with | some (k,st1,c)=>.two c (mK P T nt rs rm md pr n k st1 L (.fin a)) | none=>.bad))
   | .ret x cz=>(match todo with
    | []=>Wi T rs st x cz
    | .code .ret :: _=>Wi T rs st x cz
    | todo=>(match mq P T nt rm md pr todo st with | some (k,st1,c)=>.two c (mK P T nt rs rm md pr n k st1 L (.fin a)) | none=>.bad))
   | .V2 x cz kD=>(match todo with
    | []=>Re T rs st x cz kD
    | .code .ret :: _=>Re T rs st x cz kD
    | todo=>(match mq P T nt rm md pr todo st with | some (k,st1,c)=>.two c (mK P T nt rs rm md pr n k st1 L (.fin a)) | none=>.bad)))
  | .br e x y=>(match todo with
   | .code (.cond (.tmp c) p q) :: k=>.two (.vv (St.get st.sl c) (.d (.v (.bool e)))) (.two (mK P T nt rs rm md pr n (.code p :: k) st L x) (mK P T nt rs rm md pr n (.code q :: k) st L y))
   | todo=>(match mq P T nt rm md pr todo st with | some (k,st1,c)=>.two c (mK P T nt rs rm md pr n k st1 L (.br e x y)) | none=>.bad))
  | .r id cl kk=>(match todo with
   | .code (.region i ops draw) :: k=>bif Nat.beq i id then
     .pi fun x=>(match mR P T nt ops draw none st (cl.ij x) with
      | some (st',ob)=>.two (.bb (D8 md pr ops) true) <| .two ob.eqs (.two (.po ob.prop (cl.ja x)) (mK P T nt rs rm md pr n k (st'.keep (Nat.lor rm (ju k))) L (kk x)))
      | none=>.bad)
    else (match mq P T nt rm md pr (.code (.region i ops draw) :: k) st with | some (k,st1,c)=>.two c (mK P T nt rs rm md pr n k st1 L (.r id cl kk)) | none=>.bad)
   | todo=>(match mq P T nt rm md pr todo st with | some (k,st1,c)=>.two c (mK P T nt rs rm md pr n k st1 L (.r id cl kk)) | none=>.bad))
  | .bind true J s u kk=>(match todo with
   | .code (.block id c) :: k=>.two (mK P T nt rs rm md pr n (.code c :: .inBlock id :: k) st (fun q=>match q with | .inl a=>L a | .inr b=>.go k (st.wK (Nat.lor rm (ju k)) (u b))) s) (.pi fun b=>mK P T nt rs rm md pr n k (st.wK (Nat.lor rm (ju k)) (u b)) L (kk b))
   | todo=>(match mq P T nt rm md pr todo st with | some (k,st1,c)=>.two c (mK P T nt rs rm md pr n k st1 L (.bind true J s u kk)) | none=>.bad))
  | .bind false J s u kk=>(match todo with
   | .code (.cond (.tmp c) p q) :: k=>.two (mK P T nt rs rm md pr n (.code (.cond (.tmp c) p q) :: k) st (fun q=>match q with | .inl a=>L a | .inr b=>.go k (st.wK (Nat.lor rm (ju k)) (u b))) s) (.pi fun b=>mK P T nt rs rm md pr n k (st.wK (Nat.lor rm (ju k)) (u b)) L (kk b))
   | todo=>(match mq P T nt rm md pr todo st with | some (k,st1,c)=>.two c (mK P T nt rs rm md pr n k st1 L (.bind false J s u kk)) | none=>.bad))
  | .loop d I m i0 u b=>(match todo with
   | .code (.loop c) :: k=>.two (Ih st (st.wK (Nat.lor rm (ju (.inLoop c :: k))) (u i0))) (.pi fun i=>mK P T nt rs rm md pr n (.code c :: .inLoop c :: k) (st.wK (Nat.lor rm (ju (.inLoop c :: k))) (u i)) (fun q=>match q with | .inl a=>L a | .inr j=>.go (.inLoop c :: k) (st.wK (Nat.lor rm (ju (.inLoop c :: k))) (u j))) (b i))
   | todo=>(match mq P T nt rm md pr todo st with | some (k,st1,c)=>.two c (mK P T nt rs rm md pr n k st1 L (.loop d I m i0 u b)) | none=>.bad))
  | .rf it I B id s0 u v b kk=>(match todo with
   | .code (.rangeFunc (.tmp t) ps Fe body) :: k =>
     .two (.bb (Nat.beq md 0) true) <|
     .two (.vv (St.get (qe (Mh rm todo) (aL [] st.sl)) t) (.fn it.gf it.bZ)) <|
     .two (.bb (so.lx it.bZ) true) <|
     .two (.po (some (Sg P it.gf it.bZ (it.ys.map it.enc))) (some (Sg it.P it.gf it.bZ (it.ys.map it.enc)))) <|
     .two (.bb (Px nt ((qe (Mh rm todo) (aL [] st.sl)).map (·.1)) ps.toList) true) <|
     .two (Ih st (st.wK (Mh rm todo) ⟨[],u s0⟩)) <|
     .two (.pi fun y=>.nn ps.toList.length (it.enc y).length) <|
     .two (.pi fun s=>.pi fun y=>.two
      (aaI P T nt (Mh rm todo) 1 ((qe (Mh rm todo) (aL [] st.sl)).map (·.1)) n [.code Fe,.beginRound,.code body] ⟨v7 ps.toList (it.enc y)++qe (Mh rm todo) (aL [] st.sl),(st.wK (Mh rm todo) ⟨[],u s⟩).lb⟩ [.beginRound,.code body])
      (mK P T nt rs (Mh rm todo) 1 ((qe (Mh rm todo) (aL [] st.sl)).map (·.1)) n [.code body] (Uw P T nt (Mh rm todo) 1 ((qe (Mh rm todo) (aL [] st.sl)).map (·.1)) n [.code Fe,.beginRound,.code body] ⟨v7 ps.toList (it.enc y)++qe (Mh rm todo) (aL [] st.sl),(st.wK (Mh rm todo) ⟨[],u s⟩).lb⟩)
       (fun q=>match q with | .inl a=>.brk id (st.wK (Mh rm todo) ⟨[],v a⟩) | .inr j=>.go [] (st.wK (Mh rm todo) ⟨[],u j⟩)) (b s y))) <|
     .two (.pi fun s=>mK P T nt rs rm md pr n k (st.wK (Mh rm todo) ⟨[],u s⟩) L (kk (.inr s))) (.pi fun a=>mK P T nt rs rm md pr n (.code (.exit id) :: k) (st.wK (Mh rm todo) ⟨[],v a⟩) L (kk (.inl a)))
   | todo=>(match mq P T nt rm md pr todo st with | some (k,st1,c)=>.two c (mK P T nt rs rm md pr n k st1 L (.rf it I B id s0 u v b kk)) | none=>.bad))
section
variable {g : Goal}
theorem G.keep (m:Nat) {k:List Item} {st:St} (h:G g k (st.keep m)):G g k st:=.le (.keep m st) h
theorem Rf (hn:g.Vw) (hT:la g.P g.T) (hf:g.P.funcs[g.f]? = some g.fn) {st:St} {x:AV} {cz:List (Nat × ba)} (h:(Wi g.T g.fn.results.toList st x cz).ok) (hx:g.res=x) (hl:g.cz=cz):G g [] st∧∀ k,G g (.code .ret :: k) st:=by
 subst hx
 subst hl
 unfold Wi at h
 split at h
 ·rename_i l ro ob hr
  split at h
  ·rename_i hl
   split at h
   ·rename_i l' JX AE hb
    obtain ⟨h1,h2,h3⟩:=h
    obtain ⟨p,q1,q2⟩:=A4 _ _ h3
    have hle:sq (pv l') g.res:=fun w S μ ν v hv=>by
     exact (ua (ρ:=[]) (pv l') g.res p q1 q2 v hv).mono (fun _ h=>h) (fun _ _=>rfl) (fun k y hk=>by simp [tY,look] at hk)
    exact G.ret hn hT hf hl hr (rl h1) hb (rl h2) hle
   ·exact h.elim
  ·obtain ⟨h1,h2,h3,h4⟩:=h
   obtain ⟨p,q1,q2⟩:=A4 _ _ h3
   obtain ⟨p',q3,q4⟩:=A5 h4
   exact G.ach hn hT hf _ hr (rl h1) h2 q1 q2 q3 q4
 ·exact h.elim
theorem Nn {kD:List (Nat × Nat)} (hn:g.Pv kD) (hT:la g.P g.T) (hf:g.P.funcs[g.f]? = some g.fn) {st:St} {x:AV} {cz:List (Nat × ba)} (h:(Re g.T g.fn.results.toList st x cz kD).ok) (hx:g.res=x) (hl:g.cz=cz):G g [] st∧∀ k,G g (.code .ret :: k) st:=by
 subst hx
 subst hl
 unfold Re at h
 split at h
 ·rename_i l ro ob hr
  obtain ⟨h1,h2,h3,h4,h5⟩:=h
  obtain ⟨p,q1,q2⟩:=A4 _ _ h3
  obtain ⟨p',q3,q4⟩:=A5 h5
  obtain ⟨p'',q5,q6⟩:=K5 h4
  exact G.V2 hn hT hf _ hr (rl h1) h2 q1 q2 q3 q4 q5 q6
 ·exact h.elim
theorem eB (hT:la g.P g.T) (hm:g.P.follows .mixedOrders=true) {rm:Nat} {todo k:List Item} {st st':St} {c:CT} (h:mq g.P g.T g.nt rm g.md g.pr todo st=some (k,st',c)) (hc:c.ok) (hg:G g k st'):G g todo st:=by
 unfold mq at h
 split at h
 ·simp only [Option.some.injEq,Prod.mk.injEq] at h; obtain ⟨rfl,rfl,-⟩:=h; exact .seq hg
 ·simp only [Option.some.injEq,Prod.mk.injEq] at h; obtain ⟨rfl,rfl,-⟩:=h; exact .skip hg
 ·simp only [Option.some.injEq,Prod.mk.injEq] at h; obtain ⟨rfl,rfl,-⟩:=h; exact .label hg
 ·simp only [Option.some.injEq,Prod.mk.injEq] at h; obtain ⟨rfl,rfl,-⟩:=h; exact .aao hg
 ·simp only [Option.some.injEq,Prod.mk.injEq] at h; obtain ⟨rfl,rfl,-⟩:=h; exact .block hg
 ·simp only [Option.some.injEq,Prod.mk.injEq] at h; obtain ⟨rfl,rfl,-⟩:=h; exact .inBlock hg
 ·split at h
  ·rename_i k' he
   simp only [Option.some.injEq,Prod.mk.injEq] at h; obtain ⟨rfl,rfl,-⟩:=h; exact .exit he hg
  ·cases h
 ·split at h
  ·rename_i st1 ob hr
   simp only [Option.some.injEq,Prod.mk.injEq] at h
   obtain ⟨rfl,rfl,rfl⟩:=h
   exact .region hT hm hc.1 hr (rl hc.2) (.keep _ hg)
  ·cases h
 ·cases h
theorem HW.put {st:St} (t:Nat) {x y:AV} (hx:St.get st.sl t=x) (h:sq x y):HW st ⟨(t,y) :: aL [t] st.sl,st.lb⟩:=by
 rintro C a w ⟨S,μ,hs⟩
 refine ⟨S,μ,fun ν=>(hs ν).weaken (fun u v hv=>?_) (fun κ b hb=>⟨b,hb,fun _ h=>h⟩)⟩
 simp only [St.eE] at hv ⊢
 rw [Fa]
 split
 ·rename_i e
  subst e
  rw [hx] at hv
  exact h _ _ _ _ _ hv
 ·exact hv
theorem A7 {C:Cx} {A:M} {a:Act} {w:World} {S:Nat→Prop} {μ:Mu} {ν:Nat→Bool} {lb:List (Nat × ba)} (hs:cE C A a w S μ ν) (hA:A.lb=look lb) {x:AV} {v:Value} {q:Nat} (h:Ka lb x=some q) (hr:Rel w S μ ν x v):q≤maxLen:=by
 unfold Ka at h
 split at h
 ·simp only [Option.some.injEq] at h
  subst h
  cases gq.1 hr with
  | nil=>simp [maxLen]
  | sl _ _ _ _ _ _ hc hm=>omega
 ·rename_i κ n
  split at h
  ·rename_i e k q' f hl
   simp only [Option.some.injEq] at h
   subst h
   have hm:=hs.mem κ _ (by rw [hA]; exact hl)
   cases hμ:μ κ with
   | none=>rw [hμ] at hm; exact hm.elim
   | some y =>
    rw [hμ] at hm
    cases y with
    | none=>have:q'=0:=hm; simp [this]
    | some gc =>
     obtain ⟨g,c⟩:=gc
     obtain ⟨cur,_,_,_,q4,q5,_⟩:=hm.at
     omega
  ·cases h
 ·cases h
theorem cE.Np {C:Cx} {A B:M} {a:Act} {w:World} {S:Nat→Prop} {μ:Mu} {ν:Nat→Bool} (h:cE C A a w S μ ν) (ME:∀ t,B.sl t=A.sl t) (OZ:∀ κ b',B.lb κ=some b'→∃ b,A.lb κ=some b∧(fT w S μ b (μ κ)→fT w S μ b' (μ κ))):cE C B a w S μ ν:=by
 refine ⟨h.tmps,h.defers,fun t=>by rw [ME]; exact h.df t,fun κ b hb=>?_,fun κ κ' b b' g c c' hb kC hm zo=>?_,fun κ b g c hb hm=>?_,h.dG,h.fresh,h.bound,h.kept⟩
 ·obtain ⟨d,h1,h2⟩:=OZ κ b hb
  exact h2 (h.mem κ d h1)
 ·obtain ⟨d,h1,_⟩:=OZ κ b hb
  obtain ⟨d',h1',_⟩:=OZ κ' b' kC
  exact h.inj κ κ' d d' g c c' h1 h1' hm zo
 ·obtain ⟨d,h1,_⟩:=OZ κ b hb
  exact h.own κ d g c h1 hm
theorem Xu (st:St) (κ:Nat) (b:ba) (k:Nat):(St.eE ⟨st.sl,(κ,b) :: aL [κ] st.lb⟩).lb k=if κ=k then some b else st.eE.lb k:=by
 simp only [St.eE,bq,kh]
 split
 ·rfl
 ·rename_i h
  rw [if_neg (by simp; exact fun e=>h e.symm)]
theorem G.cl {g:Goal} {k:List Item} {st:St} {κ n:Nat} {f:Nat→Value × D} {m:List (Int × Int)} {q:List (Int × Int)→Prop} (hl:look st.lb κ=some (.mp n f)) (hn:n=m.length) (hf:f=YC m) (hq:q m) (h:G g k ⟨st.sl,(κ,.mx q) :: aL [κ] st.lb⟩):G g k st:=by
 subst hn
 subst hf
 refine .le (fun C a w hs=>?_) h
 obtain ⟨S,μ,hs⟩:=hs
 refine ⟨S,μ,fun ν=>(hs ν).Np (fun _=>rfl) (fun κ' b' hb=>?_)⟩
 rw [Xu] at hb
 split at hb
 ·rename_i e
  subst e
  simp only [Option.some.injEq] at hb
  subst hb
  refine ⟨_,hl,fun hy=>?_⟩
  generalize μ κ=y at hy ⊢
  match y,hy with
  | some (some (g,c)),hy=>exact ⟨m,hq,hy⟩
 ·exact ⟨b',hb,fun h=>h⟩
theorem G.op {g:Goal} {k:List Item} {st:St} {κ:Nat} {q:List (Int × Int)→Prop} (hl:look st.lb κ=some (.mx q)) (h:∀ m,q m→G g k ⟨st.sl,(κ,.mp m.length (YC m)) :: aL [κ] st.lb⟩):G g k st:=by
 intro C h1 h2 a w O0 hs
 obtain ⟨S,μ,hs⟩:=hs
 have hm:=(hs fun _=>false).mem κ _ hl
 obtain ⟨m,hq,zo⟩:∃ m:List (Int × Int),q m∧fT w S μ (.mp m.length (YC m)) (μ κ):=by
  generalize μ κ=y at hm ⊢
  match y,hm with
  | some (some (g,c)),hm=>obtain ⟨m,hq,hm⟩:=hm; exact ⟨m,hq,hm⟩
 refine h m hq C h1 h2 a w O0 ⟨S,μ,fun ν=>(hs ν).Np (fun _=>rfl) (fun κ' b' hb=>?_)⟩
 rw [Xu] at hb
 split at hb
 ·rename_i e
  subst e
  simp only [Option.some.injEq] at hb
  subst hb
  exact ⟨_,hl,fun _=>zo⟩
 ·exact ⟨b',hb,fun h=>h⟩
theorem G.Nk {k:List Item} {st:St} {t j q:Nat} (h:Nk st t j=some q) (hg:q≤maxLen→G g k st):G g k st:=by
 intro C h1 h2 a w O0 hs
 have Cm:=hs
 obtain ⟨S,μ,cG⟩:=hs
 refine hg ?_ C h1 h2 a w O0 Cm
 have hs:=cG fun _=>false
 have hr:=hs.df t
 simp only [St.eE] at hr
 unfold Go.Av.Nk at h
 split at h
 ·rename_i κ o hx
  split at h
  ·rename_i cs hl
   rw [Bool.cond_eq_ite] at h
   split at h
   ·rename_i hj
    have hj:=Nat.le_of_ble_eq_true hj
    rw [hx] at hr
    generalize a.tmps.getD t undef=v at hr
    cases hr with
    | ptr hμ =>
     have hm:=hs.mem κ _ hl
     rw [hμ] at hm
     obtain ⟨cur,e,_,_,gS,hc⟩:=hm.at
     obtain ⟨x,_,hx⟩:=hc j hj
     exact A7 hs rfl h (hx fun _=>false)
   ·cases h
  ·cases h
 ·rename_i cs hx
  rw [Bool.cond_eq_ite] at h
  split at h
  ·rename_i hj
   have hj:=Nat.le_of_ble_eq_true hj
   rw [hx] at hr
   generalize a.tmps.getD t undef=v at hr
   cases hr with
   | ref eV bG hh=>exact A7 hs rfl h (.d (hh j hj))
  ·cases h
 ·rename_i cs hx
  rw [Bool.cond_eq_ite] at h
  split at h
  ·rename_i hj
   have hj:=Nat.le_of_ble_eq_true hj
   rw [hx] at hr
   generalize a.tmps.getD t undef=v at hr
   cases gq.1 hr with
   | agg _ vs hl hh=>exact A7 hs rfl h (.d (hh j hj))
  ·cases h
 ·exact A7 hs rfl h hr
theorem G.O2 {k:List Item} {st:St} {t n:Nat} {f:Nat→List D} (ht:St.get st.sl t=.d (.sl n f)) (h1:n=0→G g k ⟨(t,.d (.v (.slice none 0 0))) :: aL [t] st.sl,st.lb⟩) (h2:G g k ⟨(t,.wG n f) :: aL [t] st.sl,st.lb⟩):G g k st:=by
 intro C c1 c2 a w O0 hs
 obtain ⟨S,μ,cG⟩:=hs
 have hr:=(cG fun _=>false).df t
 simp only [St.eE,ht] at hr
 have put:∀ y:AV,(∀ ν,Rel w S μ ν y (a.tmps.getD t undef))→iH C ⟨(t,y) :: aL [t] st.sl,st.lb⟩ a w:=fun y hy=>by
  refine ⟨S,μ,fun ν=>?_⟩
  have h:=cG ν
  refine ⟨h.tmps,h.defers,fun u=>?_,h.mem,h.inj,h.own,h.dG,h.fresh,h.bound,h.kept⟩
  simp only [St.eE]
  rw [Fa]
  split
  ·rename_i e
   subst e
   exact hy ν
  ·exact h.df u
 cases hv:a.tmps.getD t undef with
 | slice ad m cap =>
  rw [hv] at hr
  cases ad with
  | none =>
   cases gq.1 hr with
   | nil=>exact h1 rfl C c1 c2 a w O0 (put _ (fun ν=>by rw [hv]; exact fB rfl))
  | some ad=>exact h2 C c1 c2 a w O0 (put _ (fun ν=>by rw [hv]; exact .wG (gq.1 hr)))
 | _=>rw [hv] at hr; cases gq.1 hr
theorem G.mo:∀ {c:Code} {ops:Array Oper} {l K:List Item} {st:St},Go.Av.mo c=some (ops,l)→(∀ id,G g (.code (.region id ops false) :: (l++K)) st)→G g (.code c :: K) st
 | .seq x y,ops,l,K,st,h,hg=>by
  simp only [Go.Av.mo] at h
  split at h
  ·rename_i acA l' hx
   simp only [Option.some.injEq,Prod.mk.injEq] at h
   obtain ⟨rfl,rfl⟩:=h
   exact .seq (G.mo hx (fun id=>by have:=hg id; rwa [List.append_assoc] at this))
  ·cases h
 | .region id acA false,ops,l,K,st,h,hg=>by
  simp only [Go.Av.mo,Option.some.injEq,Prod.mk.injEq] at h
  obtain ⟨rfl,rfl⟩:=h
  exact hg id
 | .region _ _ true,_,_,_,_,h,_=>by simp [Go.Av.mo] at h
 | .skip,_,_,_,_,h,_=>by simp [Go.Av.mo] at h
 | .cond ..,_,_,_,_,h,_=>by simp [Go.Av.mo] at h
 | .block ..,_,_,_,_,h,_=>by simp [Go.Av.mo] at h
 | .loop ..,_,_,_,_,h,_=>by simp [Go.Av.mo] at h
 | .rangeFunc ..,_,_,_,_,h,_=>by simp [Go.Av.mo] at h
 | .exit ..,_,_,_,_,h,_=>by simp [Go.Av.mo] at h
 | .scope ..,_,_,_,_,h,_=>by simp [Go.Av.mo] at h
 | .label ..,_,_,_,_,h,_=>by simp [Go.Av.mo] at h
 | .goto ..,_,_,_,_,h,_=>by simp [Go.Av.mo] at h
 | .ret,_,_,_,_,h,_=>by simp [Go.Av.mo] at h
 | .refuse ..,_,_,_,_,h,_=>by simp [Go.Av.mo] at h
theorem iH.aaJ {C:Cx} {st:St} {a:Act} {w:World} {S:Nat→Prop} {μ:Mu} (cG:∀ ν,cE C st.eE a w S μ ν) {d1 d2:Nat} (Te:d1 < C.nt) (Vx:d2 < C.nt) (x:Value) (b:Bool) (ds:List Nat) (h1:d1∈ds) (h2:d2∈ds) :
  ∀ ν,cE C (St.eE ⟨(d2,.d (.v (.bool b))) :: aL ds st.sl,st.lb⟩) ((a.put (some d1) x).put (some d2) (.bool b)) w S μ ν:=fun ν=>by
 have h:=cG ν
 refine ⟨by simp [Act.put,h.tmps],h.defers,fun u=>?_,h.mem,h.inj,h.own,h.dG,h.fresh,h.bound,h.kept⟩
 simp only [St.eE,St.get,bq]
 by_cases c2:d2=u
 ·subst c2
  simp only [if_true,Act.put]
  rw [fK _ _ _ (by simp [h.tmps]; exact Vx)]
  exact fB rfl
 ·simp only [c2,if_false,kh]
  split
  ·rename_i x hx
   split at hx
   ·cases hx
   ·rename_i hn
    have n1:u≠d1:=fun e=>hn (e ▸ h1)
    have n2:u≠d2:=fun e=>hn (e ▸ h2)
    simp only [Act.put]
    rw [cw _ _ _ _ n2,cw _ _ _ _ n1]
    have:=h.df u
    simp only [St.eE,St.get,hx] at this
    exact this
  ·exact .any _
theorem G.next (hm:g.P.follows .mixedOrders=true) {K:List Item} {st:St} {id:Nat} {ops:Array Oper} {it d1 d2 κi κ n:Nat} {f:Nat→Value × D} {s:List Nat} (Pt:D8 g.md g.pr ops=true) (mT:PH ops=some (it,d1,d2)) (Te:d1 < g.nt) (Vx:d2 < g.nt)
  (Vu:St.get st.sl it=.ptr κi 0) (VU:look st.lb κi=some (.it κ n s)) (hl:look st.lb κ=some (.mp n f))
  (tU:∀ i,i < n→i ∉ s→G g K (PI st d1 d2 κi κ n i s)) (V5:(∀ i,i < n→i∈s)→G g K (Gf st d1 d2 it)):G g (.code (.region id ops false) :: K) st:=by
 intro C c1 c2 a w O0 hs
 suffices hw:wpOps C.P ops (fun e a' w'=>e=.normal∧((∃ i,i < n∧i ∉ s∧iH C (PI st d1 d2 κi κ n i s) a' w')∨((∀ i,i < n→i∈s)∧iH C (Gf st d1 d2 it) a' w'))) (List.range ops.size) a w by
  rw [c1] at hw
  refine G.ops hm Pt O0 (.inl ⟨rfl,hw⟩) (fun a' w' eW wO=>?_)
  rcases wO with ⟨i,hi,hn,wO⟩ | ⟨he,wO⟩
  ·exact tU i hi hn C c1 c2 a' w' eW wO
  ·exact V5 he C c1 c2 a' w' eW wO
 obtain ⟨S,μ,cG⟩:=hs
 have h0:=cG fun _=>false
 rw [← c2] at Te Vx
 unfold PH at mT
 split at mT
 ·rename_i o1 o2 V7
  split at mT
  ·rename_i it' Tf e1 d2' q1 q2 q3 q4 q5 q6
   rw [Bool.cond_eq_ite] at mT
   split at mT
   ·rename_i heq
    have heq:=Nat.eq_of_beq_eq_true heq
    subst heq
    simp only [Option.some.injEq,Prod.mk.injEq] at mT
    obtain ⟨rfl,rfl,rfl⟩:=mT
    have mT:ops = #[o1,o2]:=by cases ops; simpa using V7
    subst mT
    show wpOps C.P #[o1,o2] _ [0,1] a w
    have w1:∀ y,Region.wanted o1 y=true:=fun y=>by simp [Region.wanted,q3]
    have w2:∀ y,Region.wanted o2 y=true:=fun y=>by simp [Region.wanted,q6]
    have hr:=h0.df it'
    simp only [St.eE,Vu] at hr
    generalize Tc:a.tmps.getD it' undef=iv at hr
    cases hr with
    | @ptr _ _ gi ci hμi =>
     have Xe:=h0.mem κi _ VU
     rw [hμi] at Xe
     have acB:=Xe.at
     obtain ⟨mg,c,hμ,hgi,aag⟩:=acB
     have Ib:=h0.mem κ _ hl
     rw [hμ] at Ib
     obtain ⟨cur,hg,oO,gS,bG⟩:=Ib.at
     have Yc:a.eval (.tmp it')=.pointer (some ⟨gi,0,none⟩):=Tc
     have Xv:∀ x,x∈cur.toList→x.born < n:=fun x hx=>by
      obtain ⟨q,hq,rfl⟩:=List.getElem_of_mem hx
      have hqn:q < n:=by simpa [gS] using hq
      obtain ⟨e,y1,_,_,y4,_⟩:=bG q hqn
      have:cur.toList[q]=e:=by simpa using (Array.getElem?_eq_some_iff.1 y1).2
      rw [this,y4]; exact hqn
     have ext:∀ (a':Act) (w':World) (b:Bool) (rest:List Value),a'.eval (.tmp Tf)=.tuple (#[.bool b]++rest.toArray)→(execOp a'.eval o2).run C.P w'=.ok (.value (.bool b)) w':=fun a' w' b rest hh=>by
      simp [execOp,q4,hh,Instr.extract]
     have Si:∀ (x:Value),(a.put (some Tf) x).eval (.tmp Tf)=x:=fun x=>by
      show (a.tmps.setIfInBounds Tf x).getD Tf undef=x
      exact fK _ _ _ (by rw [h0.tmps]; exact Te)
     rcases run_next_at (P:=C.P) w o1.type gi mg n n s.reverse.toArray cur n hgi hg Xv (Nat.le_refl _) with ⟨hz,dH⟩ | ⟨e,he,wd,hwd,dH⟩
     ·simp only [wpOps,List.getElem?_toArray,List.getElem?_cons_zero,List.getElem?_cons_succ,w1,w2,if_true]
      left
      unfold Oper.wp
      have hx:(execOp a.eval o1).run C.P w=.ok (.value (.tuple #[.bool false])) w:=by
       simp only [execOp,q1,Yc,Sem.run_bind,dH,Result.andThen_ok,Sem.run_pure]
      rw [hx,Oper.upon_value,q2]
      left
      rw [ext (a.put (some Tf) (.tuple #[.bool false])) w false [] (by rw [Si]; rfl),Oper.upon_value,q5]
      refine ⟨trivial,.inr ⟨fun i hi=>?_,⟨S,μ,iH.aaJ cG Te Vx _ false [Tf,d2',it'] (by simp) (by simp)⟩⟩⟩
      have:∀ x,x∈cur.toList→x.born∈s:=fun x hx=>by
       have hz':leftOf cur s.reverse.toArray = #[]:=Array.eq_empty_of_size_eq_zero hz
       unfold leftOf at hz'
       rw [Array.filter_eq_empty_iff] at hz'
       have:=hz' x (by simpa using hx)
       simpa using this
      obtain ⟨e,y1,_,_,y4,_⟩:=bG i hi
      have hm:e∈cur.toList:=by
       have:=(Array.getElem?_eq_some_iff.1 y1)
       obtain ⟨di,rfl⟩:=this
       simp
      have:=this e hm
      rwa [y4] at this
     ·simp only [wpOps,List.getElem?_toArray,List.getElem?_cons_zero,List.getElem?_cons_succ,w1,w2,if_true]
      left
      unfold Oper.wp
      have hx:(execOp a.eval o1).run C.P w=.ok (.value (.tuple #[.bool true,e.key,e.val])) (ChangeMaps.setBlock wd gi (.mapIter (some mg) n (s.reverse.toArray.push e.born) n)):=by
       simp only [execOp,q1,Yc,Sem.run_bind,dH,Result.andThen_ok,Sem.run_pure]
      rw [hx,Oper.upon_value,q2]
      left
      rw [ext (a.put (some Tf) (.tuple #[.bool true,e.key,e.val])) _ true [e.key,e.val] (by rw [Si]; rfl),Oper.upon_value,q5]
      have iG:e∈cur.toList∧e.born ∉ s:=by
       unfold leftOf at he
       simpa using he
      refine ⟨trivial,.inl ⟨e.born,Xv e iG.1,iG.2,?_⟩⟩
      have acC:Kept w wd (fun _=>False):=by
       rcases hwd with rfl | rfl
       ·exact Kept.refl _ _
       ·exact ⟨rfl,rfl,rfl,Nat.le_refl _,fun _ _ _=>rfl⟩
      have acD:wd.heap[gi]? = some (.mapIter (some mg) n s.reverse.toArray n):=by rcases hwd with rfl | rfl <;> exact hgi
      have Ue:∀ ν,cE C st.eE a wd S μ ν:=fun ν=>(cG ν).world (fun _ x=>x) (fun _ x=>.inl x) acC
      have acE:ChangeMaps.setBlock wd gi (.mapIter (some mg) n (s.reverse.toArray.push e.born) n)=World.zJ wd gi (.mapIter (some mg) n (s.reverse.toArray.push e.born) n):=rfl
      rw [acE]
      have Nf:∀ ν,cE C (st.eE.set κi (some (.it κ n (e.born :: s)))) a (World.zJ wd gi (.mapIter (some mg) n (s.reverse.toArray.push e.born) n)) S μ ν:=fun ν=>(Ue ν).KP (b:=.it κ n s) VU hμi (qM gi _) ⟨mg,c,hμ,by rw [E7 _ acD]; simp,aag⟩
      have kE:(St.eE ⟨st.sl,(κi,.it κ n (e.born :: s)) :: aL [κi] st.lb⟩)=st.eE.set κi (some (.it κ n (e.born :: s))):=by
       unfold St.eE M.set
       congr 1
       funext q
       rw [bq,kh]
       by_cases hq:κi=q
       ·subst hq; simp
       ·have:q ∉ [κi]:=by simp; exact fun e=>hq e.symm
        have D4:¬ q=κi:=fun e=>hq e.symm
        simp [hq,D4]
      exact ⟨S,μ,iH.aaJ (st:=⟨st.sl,(κi,.it κ n (e.born :: s)) :: aL [κi] st.lb⟩) (fun ν=>by rw [kE]; exact Nf ν) Te Vx _ true [Tf,d2'] (by simp) (by simp)⟩
   ·cases mT
  ·cases mT
 ·cases mT
theorem Rg (hT:la g.P g.T) (hm:g.P.follows .mixedOrders=true) {rm:Nat}:∀ (n:Nat) {todo k:List Item} {st st':St} {c:CT},Uv g.P g.T g.nt rm g.md g.pr n todo st=some (k,st',c)→c.ok→G g k st'→G g todo st
 | 0,_,_,_,_,_,h,_,_=>by cases h
 | n+1,todo,k,st,st',c,h,hc,hg=>by
  unfold Uv at h
  split at h
  ·simp only [Option.some.injEq,Prod.mk.injEq] at h
   obtain ⟨rfl,rfl,rfl⟩:=h
   exact hg
  ·split at h
   ·rename_i k1 st1 c1 hs
    split at h
    ·rename_i k2 st2 c2 hr
     simp only [Option.some.injEq,Prod.mk.injEq] at h
     obtain ⟨rfl,rfl,rfl⟩:=h
     exact eB hT hm hs hc.1 (Rg hT hm n hr hc.2 hg)
    ·cases h
   ·cases h
theorem yu:∀ (n:Nat) {g:Goal} (hT:la g.P g.T) (hm:g.P.follows .mixedOrders=true) (hf:g.P.funcs[g.f]? = some g.fn) (hz:g.md=0→g.Vw∧∀ {C C' b cs m},Reb C C'→g.Z C' b cs m→g.Z C b cs m) (rm:Nat) {α:Type} (todo:List Item) (st:St) (L:α→Uu) (sk:Sk α) (lp:α→Prop),
  (mK g.P g.T g.nt g.fn.results.toList rm g.md g.pr n todo st L sk).ok→sk.aZ lp→(∀ a,a=sk.val→lp a→PJ g (L a))→G g todo st
 | 0,_,_,_,_,_,_,_,todo,st,L,sk,lp,h,_,_=>h.elim
 | n+1,g,hT,hm,hf,hz,rm,α,todo,st,L,sk,lp,h,ho,hL=>by
  have ih:=fun {α:Type}=>yu n hT hm hf hz rm (α:=α)
  unfold mK at h
  split at h
  ·-- op
   rename_i κ k
   split at h
   ·rename_i hl
    exact G.op hl fun m _=>ih _ _ L (k m) lp (h m) (ho m).2 (fun a ha=>hL a (ha.trans (ho m).1))
   ·exact h.elim
  ·-- oq
   rename_i κ q k
   split at h
   ·rename_i q' hl
    obtain ⟨h0,h⟩:=h
    have h0:q'=q:=h0
    subst h0
    exact G.op hl fun m hm=>ih _ _ L (k m) lp (h m) (ho m hm).2 (fun a ha=>hL a (ha.trans (ho m hm).1))
   ·exact h.elim
  ·-- cq
   rename_i κ m q' k
   split at h
   ·rename_i q f hl
    obtain ⟨h1,h2,h3⟩:=h
    exact G.cl hl h1 h2 ho.1 (ih _ _ L k lp h3 ho.2 hL)
   ·exact h.elim
  ·-- cl
   rename_i κ m k
   split at h
   ·rename_i q f hl
    obtain ⟨h1,h2,h3⟩:=h
    exact G.cl hl h1 h2 (q:=mxT) trivial (ih _ _ L k lp h3 ho hL)
   ·exact h.elim
  ·-- K1
   rename_i id x c k
   split at h
   ·rename_i i ops K
    rw [Bool.cond_eq_ite] at h
    split at h
    ·split at h
     ·rename_i ts ti ty d1 d2 d3 uV
      split at h
      ·rename_i κ m xx e' _ _ _ _ Tz hti K2
       split at h
       ·rename_i e q m2 f ii hl he
        obtain ⟨h0,h1,h2,h3,h4,h5⟩:=h
        have h0:(Nat.ble (d1+1) g.nt&&Nat.ble (d2+1) g.nt&&Nat.ble (d3+1) g.nt&&D8 g.md g.pr ops&&Nat.beq e e'&&Nat.beq q ii.size&&ii.zero.all wu&&!Nat.beq ts d1&&!Nat.beq ts d2&&!Nat.beq ts d3)=true:=h0
        simp only [Bool.and_eq_true,Bool.not_eq_true'] at h0
        obtain ⟨⟨⟨⟨⟨⟨⟨⟨⟨b1,b2⟩,b3⟩,b4⟩,b5⟩,b6⟩,b7⟩,b8⟩,b9⟩,PK⟩:=h0
        have h1:xx=x:=h1
        have h2:m=m2:=h2
        have h3:m=c.n:=h3
        have h4:vg xx.toNat f ii.zero=c.f:=h4
        have b5:=Nat.eq_of_beq_eq_true b5
        have b6:=Nat.eq_of_beq_eq_true b6
        subst h1; subst h2; subst b5
        obtain ⟨⟨o1,o2⟩,o3⟩:=ho
        have ne:∀ d,Nat.beq ts d=false→¬ ts=d:=fun d hd e=>by rw [e,Nat.beq_refl] at hd; cases hd
        refine G.K1 hT hm b4 uV (Nat.le_of_ble_eq_true b1) (Nat.le_of_ble_eq_true b2) (Nat.le_of_ble_eq_true b3) Tz hti hl K2 rfl he b6 b7 o1 (by rw [h3]; exact o2) (.le ?_ (.keep _ (ih _ _ L k lp h5 o3 hL)))
        have hcn:m=c.n':=h3.trans c.eq.1
        rintro C a w ⟨S,μ,cG⟩
        refine ⟨S,μ,fun ν=>(cG ν).weaken (fun t v hv=>?_) (fun κ' b' kC=>?_)⟩
        ·simp only [St.eE,St.get,bq,kh] at hv ⊢
         by_cases ht:ts=t
         ·subst ht
          simp only [if_true]
          rw [if_neg (by simp only [List.mem_cons,List.not_mem_nil,or_false,not_or]; exact ⟨ne _ b8,ne _ b9,ne _ PK⟩)] at hv
          simp only [St.get] at Tz
          rw [Tz,hcn] at hv
          exact hv
         ·have e1:(t∈[ts,d1,d2,d3])↔(t∈[d1,d2,d3]):=by
           rw [List.mem_cons]
           exact ⟨fun h=>h.elim (fun e=>absurd e.symm ht) (fun h=>h),.inr⟩
          simp only [ht,if_false,e1]
          exact hv
        ·simp only [St.eE,bq,kh] at kC ⊢
         by_cases hk:κ=κ'
         ·simp only [hk,if_true,Option.some.injEq] at kC ⊢
          subst kC
          refine ⟨_,rfl,fun y hy=>?_⟩
          rw [h4] at hy
          exact TZ hcn (fun i hi=>c.eq.2 i (by rw [← h3]; exact hi)) y hy
         ·simp only [hk,if_false] at kC ⊢
          exact ⟨b',kC,fun _ h=>h⟩
       ·exact h.elim
      ·exact h.elim
     ·exact h.elim
    ·split at h
     ·rename_i k0 st1 c0 hs
      exact eB hT hm hs h.1 (ih _ _ L (.K1 id x c k) lp h.2 ho hL)
     ·exact h.elim
   ·split at h
    ·rename_i k0 st1 c0 hs
     exact eB hT hm hs h.1 (ih _ _ L (.K1 id x c k) lp h.2 ho hL)
    ·exact h.elim
  ·-- wi
   rename_i t a b k
   obtain ⟨h1,h2⟩:=h
   obtain ⟨o1,o2⟩:=ho
   refine .le (HW.put t h1 (y:=.d (.v (.int .i64 b))) ?_) (ih _ _ L k lp h2 o2 hL)
   subst o1
   exact sq.rfl'
  ·-- zC
   rename_i t j m k
   split at h
   ·rename_i q hq
    obtain ⟨h1,h2⟩:=h
    have h1:q=m:=h1
    subst h1
    exact G.Nk hq fun hb=>ih _ _ L k lp h2 (ho hb) hL
   ·exact h.elim
  ·-- wn
   rename_i κ a b k
   obtain ⟨h1,h2,h3⟩:=h
   obtain ⟨o1,o2⟩:=ho
   subst o1
   rw [Q9 h1,yt h2] at h3
   exact ih _ _ L k lp h3 o2 hL
  ·exact (ho:False).elim
  ·-- O2
   rename_i t m k1 k2
   split at h
   ·rename_i q f hq
    obtain ⟨h1,h2,h3⟩:=h
    have h1:q=m:=h1
    subst h1
    refine G.O2 hq (fun h0=>?_) (ih _ _ L k2 lp h3 ho.2 hL)
    exact ih _ _ L k1 lp h2 (ho.1 h0).1 (fun a ha=>hL a (by rw [ha,(ho.1 h0).2]; rfl))
   ·exact h.elim
  ·-- fz
   rename_i κ k
   split at h
   ·rename_i e0 k0 q f hq
    exact .le (HW.fz hq h.1 h.2.1) (ih _ _ L k lp h.2.2 ho hL)
   ·exact h.elim
  ·-- mr
   rename_i γ m V init u v b k
   split at h
   ·rename_i c K
    split at h
    ·rename_i ops l hh
     split at h
     ·rename_i it d1 d2 hn
      rw [Bool.cond_eq_ite] at h
      split at h
      ·rename_i hb
       simp only [Bool.and_eq_true] at hb
       have Te:=Nat.le_of_ble_eq_true hb.1.1
       have Vx:=Nat.le_of_ble_eq_true hb.1.2
       obtain ⟨h1,h2,h3⟩:=h
       obtain ⟨oi,ob,oc,o3⟩:=ho
       have hV:∀ g i,V g→i < m→V ((b g i).val):=fun g i hg hi=>(b g i).cZ (ob g i hg hi).1
       have o1:∀ s:List Nat,s.Perm (List.range m)→s.foldr (fun i g=>(b g i).val) init=(List.range m).foldr (fun i g=>(b g i).val) init:=fun s hs=>PE (f:=fun g i=>(b g i).val) hV oc oi hs (fun i hi=>List.mem_range.1 (hs.mem_iff.1 hi))
       have o2:∀ (s:List Nat) (i:Nat),(∀ j,j∈s→j < m)→i < m→(b (s.foldr (fun i g=>(b g i).val) init) i).aZ fun _=>True:=fun s i hs hi=>(ob _ i (ub (f:=fun g i=>(b g i).val) hV oi s hs) hi).2
       have key:∀ (q:Nat) (s:List Nat),s.Nodup→(∀ j,j∈s→j < m)→m - s.length < q→G g (.code c :: .inLoop c :: K) (st.wK (Nat.lor rm (ju (.inLoop c :: K))) (u (s.foldr (fun i g=>(b g i).val) init) s)):=by
        intro q
        induction q with
        | zero=>intro s _ _ di; omega
        | succ q ihq =>
         intro s Xd di hq
         have h2:=h2 (s.foldr (fun i g=>(b g i).val) init) s
         dsimp only at h2
         split at h2
         ·rename_i κi Vu
          split at h2
          ·rename_i κ m1 s1 VU
           split at h2
           ·rename_i m2 f hl
            obtain ⟨e1,e2,e3,e4,e5⟩:=h2
            have e1:m1=m:=e1
            have e2:m2=m:=e2
            have e3:s1=s:=e3
            subst e1; subst e2; subst e3
            refine G.mo hh (fun id=>G.next hm hb.2 hn Te Vx Vu VU hl (fun i hi hni=>?_) (fun pn=>?_))
            ·refine ih _ _ _ (b _ i) _ (e5 i) (o2 s1 i di hi) (fun g' hg' _=>?_)
             subst hg'
             refine .inLoop (ihq (i :: s1) (List.nodup_cons.2 ⟨hni,Xd⟩) (fun j hj=>?_) ?_)
             ·rcases List.mem_cons.1 hj with rfl | hj
              ·exact hi
              ·exact di j hj
             ·have hle:(i :: s1).length≤m2:=by
               have:=List.Nodup.length_le_of_subset (l₁:=i :: s1) (l₂:=List.range m2) (List.nodup_cons.2 ⟨hni,Xd⟩) (fun j hj=>by
                rcases List.mem_cons.1 hj with rfl | hj
                ·exact List.mem_range.2 hi
                ·exact List.mem_range.2 (di j hj))
               simpa using this
              simp only [List.length_cons] at hle ⊢
              omega
            ·have hp:s1.Perm (List.range m2):=(List.perm_ext_iff_of_nodup Xd List.nodup_range).2 (fun j=>⟨fun hj=>List.mem_range.2 (di j hj),fun hj=>pn j (List.mem_range.1 hj)⟩)
             refine .le (sI e4) ?_
             rw [o1 s1 hp]
             exact ih _ _ L (k _) lp (h3 _) (o3 _ rfl (ub (f:=fun g i=>(b g i).val) hV oi _ (fun i hi=>List.mem_range.1 hi))) hL
           ·exact h2.elim
          ·exact h2.elim
         ·exact h2.elim
       intro C c1 c2 a w O0 hs
       exact (key (m+1) [] List.nodup_nil (fun j hj=>by cases hj) (by simp) C c1 c2 a w O0 (sI h1 C a w hs)).step fun _ _=>.one stepR_loop
      ·exact h.elim
     ·exact h.elim
    ·exact h.elim
   ·split at h
    ·rename_i k0 st1 c hs
     exact eB hT hm hs h.1 (ih _ _ L (.mr m V init u v b k) lp h.2 ho hL)
    ·exact h.elim
  ·-- HZ
   rename_i x
   split at h
   ·exact .cond h.1 (fun _=>ih _ _ L x lp h.2 ho hL) (fun he=>by cases he)
   ·split at h
    ·rename_i k st1 c hs
     exact eB hT hm hs h.1 (ih _ _ L (.HZ x) lp h.2 ho hL)
    ·exact h.elim
  ·-- H0
   rename_i x
   split at h
   ·exact .cond h.1 (fun he=>by cases he) (fun _=>ih _ _ L x lp h.2 ho hL)
   ·split at h
    ·rename_i k st1 c hs
     exact eB hT hm hs h.1 (ih _ _ L (.H0 x) lp h.2 ho hL)
    ·exact h.elim
  ·-- Q7
   rename_i t c x y k1 k2
   obtain ⟨h1,h2,h3⟩:=h
   have h1:St.get st.sl t=Wk c x y:=h1
   rw [Wl] at h1
   cases c with
   | true=>exact .le (HW.put t h1 sq.rfl') (ih _ _ L k1 lp h2 (ho.1 rfl) hL)
   | false=>exact .le (HW.put t h1 sq.rfl') (ih _ _ L k2 lp h3 (ho.2 rfl) hL)
  ·-- fin
   rename_i a
   have Ij:=hL a rfl ho
   split at h
   ·rename_i FY st' hl
    rw [hl] at Ij
    rw [Bool.cond_eq_ite] at h
    split at h
    ·obtain ⟨h1,h2⟩:=h
     have h1:todo=FY:=h1
     subst h1
     exact .le (sI h2) Ij
    ·split at h
     ·rename_i k st1 c hs
      exact eB hT hm hs h.1 (ih _ _ L (.fin a) lp h.2 ho hL)
     ·exact h.elim
   ·rename_i id st' hl
    rw [hl] at Ij
    split at h
    ·rename_i id' k
     rw [Bool.cond_eq_ite] at h
     split at h
     ·rename_i hb
      simp only [Bool.and_eq_true,Option.isNone_iff_eq_none] at hb
      obtain rfl:=Nat.eq_of_beq_eq_true hb.1
      exact .le (sI h) (Ij k hb.2)
     ·split at h
      ·rename_i k st1 c hs
       exact eB hT hm hs h.1 (ih _ _ L (.fin a) lp h.2 ho hL)
      ·exact h.elim
    ·split at h
     ·rename_i k st1 c hs
      exact eB hT hm hs h.1 (ih _ _ L (.fin a) lp h.2 ho hL)
     ·exact h.elim
   ·rename_i x cz hl
    rw [hl] at Ij
    split at h
    ·exact (Rf Ij.1 hT hf h Ij.2.1 Ij.2.2).1
    ·exact (Rf Ij.1 hT hf h Ij.2.1 Ij.2.2).2 _
    ·split at h
     ·rename_i k st1 c hs
      exact eB hT hm hs h.1 (ih _ _ L (.fin a) lp h.2 ho hL)
     ·exact h.elim
   ·rename_i x cz kD hl
    rw [hl] at Ij
    split at h
    ·exact (Nn Ij.1 hT hf h Ij.2.1 Ij.2.2).1
    ·exact (Nn Ij.1 hT hf h Ij.2.1 Ij.2.2).2 _
    ·split at h
     ·rename_i k st1 c hs
      exact eB hT hm hs h.1 (ih _ _ L (.fin a) lp h.2 ho hL)
     ·exact h.elim
  ·-- br
   rename_i e x y
   split at h
   ·rename_i c p q k
    obtain ⟨h1,h2,h3⟩:=h
    refine .cond h1 (fun he=>?_) (fun he=>?_)
    ·exact ih _ _ L x lp h2 (ho.1 he) (fun a ha=>hL a (by rw [ha]; simp [Sk.val,he]))
    ·exact ih _ _ L y lp h3 (ho.2 he) (fun a ha=>hL a (by rw [ha]; simp [Sk.val,he]))
   ·split at h
    ·rename_i k st1 c hs
     exact eB hT hm hs h.1 (ih _ _ L (.br e x y) lp h.2 ho hL)
    ·exact h.elim
  ·-- r
   rename_i β id cl kk
   split at h
   ·rename_i i ops draw k
    rw [Bool.cond_eq_ite] at h
    split at h
    ·have h:=h cl.v
     dsimp only at h
     split at h
     ·rename_i st' ob hr
      obtain ⟨h0,h1,h2,h3⟩:=h
      have h2:ob.prop=cl.ja cl.v:=h2
      exact .region hT hm h0 hr (Ob.Cp h1 (fun p hp=>cl.pf ho.1 p (h2 ▸ hp))) (.keep _ (ih _ _ L (kk cl.v) lp h3 (ho.2 _ rfl cl.hp) hL))
     ·exact h.elim
    ·split at h
     ·rename_i k st1 c hs
      exact eB hT hm hs h.1 (ih _ _ L (.r id cl kk) lp h.2 ho hL)
     ·exact h.elim
   ·split at h
    ·rename_i k st1 c hs
     exact eB hT hm hs h.1 (ih _ _ L (.r id cl kk) lp h.2 ho hL)
    ·exact h.elim
  ·-- bind at a block
   rename_i β J s u kk
   split at h
   ·rename_i id c k
    obtain ⟨h1,h2⟩:=h
    refine .block (ih _ _ _ s _ h1 ho.1 (fun q hq ZI=>?_))
    cases q with
    | inl a=>exact hL a (by simp only [Sk.val,← hq,ki]) ZI
    | inr b=>exact ih _ _ L (kk b) lp (h2 b) (ho.2 b hq.symm ZI) (fun a ha=>hL a (by rw [ha]; simp only [Sk.val,← hq,ki]))
   ·split at h
    ·rename_i k st1 c hs
     exact eB hT hm hs h.1 (ih _ _ L (.bind true J s u kk) lp h.2 ho hL)
    ·exact h.elim
  ·-- bind at a choice
   rename_i β J s u kk
   split at h
   ·rename_i c p q k
    obtain ⟨h1,h2⟩:=h
    refine ih _ _ _ s _ h1 ho.1 (fun q hq ZI=>?_)
    cases q with
    | inl a=>exact hL a (by simp only [Sk.val,← hq,ki]) ZI
    | inr b=>exact ih _ _ L (kk b) lp (h2 b) (ho.2 b hq.symm ZI) (fun a ha=>hL a (by rw [ha]; simp only [Sk.val,← hq,ki]))
   ·split at h
    ·rename_i k st1 c hs
     exact eB hT hm hs h.1 (ih _ _ L (.bind false J s u kk) lp h.2 ho hL)
    ·exact h.elim
  ·-- loop
   rename_i ι d I m i0 u b
   split at h
   ·rename_i c k
    obtain ⟨h1,h2⟩:=h
    obtain ⟨o1,o2⟩:=ho
    have key:∀ (q:Nat) (i:ι),I i→m i < q→(∀ a,a=iter (fun i=>(b i).val) d q i→lp a→PJ g (L a))→G g (.code c :: .inLoop c :: k) (st.wK (Nat.lor rm (ju (.inLoop c :: k))) (u i)):=by
     intro q
     induction q with
     | zero=>intro i _ di; omega
     | succ q ihq =>
      intro i hi di Ij
      refine ih _ _ _ (b i) _ (h2 i) (o2 i hi) (fun r hr hlr=>?_)
      cases r with
      | inl a=>exact Ij a (by simp only [iter,← hr]) hlr
      | inr j=>exact .inLoop (ihq j hlr.1 (by have:=hlr.2; omega) (fun a ha=>Ij a (by rw [ha]; simp only [iter,← hr])))
    intro C c1 c2 a w O0 hs
    exact (key (m i0+1) i0 o1 (Nat.lt_succ_self _) hL C c1 c2 a w O0 (sI h1 C a w hs)).step fun _ _=>.one stepR_loop
   ·split at h
    ·rename_i k st1 c hs
     exact eB hT hm hs h.1 (ih _ _ L (.loop d I m i0 u b) lp h.2 ho hL)
    ·exact h.elim
  ·-- rf
   rename_i σ β Y it I B id s0 u v b kk
   split at h
   ·rename_i t ps Fe body k
    obtain ⟨h1,h2,h3,h4,h5,h6,h7,h8,h9,h10⟩:=h
    obtain ⟨o1,o2,o3,o4⟩:=ho
    have hpr:g.md=0:=Nat.eq_of_beq_eq_true h1
    obtain ⟨hn,acF⟩:=hz hpr
    have h4:some (Sg g.P it.gf it.bZ (it.ys.map it.enc))=some (Sg it.P it.gf it.bZ (it.ys.map it.enc)):=h4
    have Vu:Sg g.P it.gf it.bZ (it.ys.map it.enc):=by rw [Option.some.inj h4]; exact it.pf o1
    have Xw:=fun i s y hs hy=>(b s y).cZ (o3 i s y hs hy).1
    generalize XW:Mh rm (Item.code (.rangeFunc (.tmp t) ps Fe body) :: k)=mm at *
    refine G.rf hn acF it.ys it.enc (fun s y=>(b s y).val) s0 I (qe mm (aL [] st.sl)) (fun s=>st.wK mm ⟨[],u s⟩) (fun a=>st.wK mm ⟨[],v a⟩) id
     (fun s y=>Uw g.P g.T g.nt mm 1 ((qe mm (aL [] st.sl)).map (·.1)) n [.code Fe,.beginRound,.code body] ⟨v7 ps.toList (it.enc y)++qe mm (aL [] st.sl),(st.wK mm ⟨[],u s⟩).lb⟩)
     (fun _=>rfl) (fun _=>rfl) (sI h6) h2 h3 Vu h5 (fun y _=>h7 y) o2 (fun i s y hs hy=>?_) (fun s y tm Z zs hy hg=>?_) (fun i s y tm Z zs hs hy hg=>?_) ?_
    ·have:=Xw i s y hs hy
     show match (b s y).val with | .inl _=>True | .inr s'=>I (i+1) s'
     cases e:(b s y).val with
     | inl a=>trivial
     | inr s'=>rw [e] at this; exact this
    ·have h8:=(h8 s y).1
     unfold aaI at h8
     unfold Uw at hg
     split at h8
     ·rename_i k' st2 c ha
      rw [ha] at hg
      have hk:k'=[.beginRound,.code body]:=h8.2
      subst hk
      exact Rg (g:=g.round _ tm Z zs) hT hm n ha h8.1 hg
     ·exact h8.elim
    ·have h8:=(h8 s y).2
     refine yu n (g:=g.round _ tm Z zs) hT hm hf (fun e=>by cases e) mm _ _ _ (b s y) (fL B (I (i+1))) h8 (o3 i s y hs hy).2 (fun q hq ZI=>?_)
     have hg:(match (b s y).val with | .inr s'=>G (g.round _ tm Z zs) [] (st.wK mm ⟨[],u s'⟩) | .inl b=>∀ k',exitTo id k'=none→G (g.round _ tm Z zs) (.code (.exit id) :: k') (st.wK mm ⟨[],v b⟩)):=hg
     cases q with
     | inl a=>rw [← hq] at hg; exact hg
     | inr j=>rw [← hq] at hg; exact hg
    ·have hr:=o4 _ rfl (J8 it.ys Xw s0 o2)
     cases e:mS (fun s y=>(b s y).val) it.ys s0 with
     | inr s =>
      rw [e] at hr
      exact ih _ _ L (kk (.inr s)) lp (h9 s) hr (fun a ha=>hL a (by rw [ha]; simp only [Sk.val,e]))
     | inl a =>
      rw [e] at hr
      exact ih _ _ L (kk (.inl a)) lp (h10 a) hr (fun a' ha=>hL a' (by rw [ha]; simp only [Sk.val,e]))
   ·split at h
    ·rename_i k st1 c hs
     exact eB hT hm hs h.1 (ih _ _ L (.rf it I B id s0 u v b kk) lp h.2 ho hL)
    ·exact h.elim
end
theorem fA.sk {P:Program} {T:List (Nat × TI)} (hT:la P T) (hm:P.follows .mixedOrders=true) {f:FuncId} {fn:Func} {body:Code} {args:List AV} {cz:List (Nat × ba)} {α:Type} (enc:α→AV) (yM:α→List (Nat × ba)) (hf:P.funcs[f]? = some fn) (hb:fn.body=some body)
  (hc:(ev P f&&Nat.ble args.length fn.ntmps)=true) (n:Nat) (sk:Sk α) (h:mK P T fn.ntmps fn.results.toList (A6 fn.results.toList) 0 [] n [.code body] ⟨du 0 args,cz⟩ (fun a=>.ret (enc a) (yM a)) sk=(mK P T fn.ntmps fn.results.toList (A6 fn.results.toList) 0 [] n [.code body] ⟨du 0 args,cz⟩ (fun a=>.ret (enc a) (yM a)) sk).diag)
  (ho:sk.aZ fun _=>True):fA P f args cz (enc sk.val) (yM sk.val):=by
 simp only [Bool.and_eq_true] at hc
 refine fA.intro (T:=T) hf hb hc.1 (Nat.le_of_ble_eq_true hc.2) ?_
 exact yu n (g:=.of P T fn.ntmps f fn (enc sk.val) (yM sk.val)) hT hm hf (fun _=>⟨Goal.Ua,fun {_ _ b _ _} hr hz=>ZN.reb (b:=b) hr hz⟩) _ _ _ _ sk _ (CT.A2 h) ho (fun a ha _=>by subst ha; exact ⟨Goal.Ua,rfl,rfl⟩)
instance {α β:Type} [Inhabited α]:Inhabited (Sum α β):=⟨.inl default⟩
abbrev iv (n:Int):AV:=.d (.v (.int .i64 n))
abbrev bv (b:Bool):AV:=.d (.v (.bool b))
abbrev sv (s:ByteArray):AV:=.d (.v (.string s))
abbrev av (cs:List D):AV:=.d (.agg cs)
abbrev lv {α:Type} [Inhabited α] (cells:α→List D) (l:List α):AV:=.d (lf cells l)
abbrev nv:AV:=.d (.v (.slice none 0 0))
abbrev ow {α:Type} (κ:Nat) (l:List α):AV:=.own κ l.length
abbrev bg {α:Type} [Inhabited α] (e k:Nat) (cells:α→List D) (l:List α):ba:=.row e k l.length fun i=>cells (l.getD i default)
abbrev dI (n:Int):D:=.v (.int .i64 n)
abbrev dB (b:Bool):D:=.v (.bool b)
def aq (n:Int):Int:=IntKind.i64.wrap n
def dc (k:IntKind) (a b:Int):Int:=k.wrap (BitVec.ofInt k.bits a &&& BitVec.ofInt k.bits b).toNat
def PL (k:IntKind) (a b:Int):Int:=k.wrap (BitVec.ofInt k.bits a ||| BitVec.ofInt k.bits b).toNat
def dK (k:IntKind) (a b:Int):Int:=k.wrap (a * 2 ^ (min b.toNat k.bits))
def cQ (k:IntKind) (a b:Int):Int:=a.fdiv (2 ^ (min b.toNat k.bits))
theorem aD {n:Int} (h1 : -9223372036854775808≤n) (h2:n≤9223372036854775807):aq n=n:=Sj h1 h2
structure Mi (α:Type) where
 cells:α→List D
 k:Nat
 len:∀ x,(cells x).length=k
 one:∀ x,(cells x).all wu=true
def slE {α:Type} [Inhabited α] (E:Mi α):Mi (List α):=⟨fun l=>[lf E.cells l],1,fun _=>rfl,fun _=>rfl⟩
def dr:Mi Int:=⟨bF,1,fun _=>rfl,fun _=>rfl⟩
def uc:Mi ByteArray:=⟨gU,1,fun _=>rfl,fun _=>rfl⟩
def u8C (n:Int):List D:=[.v (.int .u8 n)]
def lj (s:ByteArray):List Int:=s.data.toList.map fun b=>(b.toNat:Int)
def YD (s:ByteArray):qc:=⟨s.size,(lj s).length,fun i=>[.v (.int .u8 (s.data.toList.getD i 0).toNat)],fun i=>u8C ((lj s).getD i default),by
 refine ⟨by simp [lj],fun i hi=>?_⟩
 have fb:i < s.data.size:=hi
 have e:(lj s).getD i default=((s.data.toList.getD i 0).toNat:Int):=by
  simp only [lj,List.getD,List.getElem?_map,Array.getElem?_toList,Array.getElem?_eq_getElem fb,Option.map_some,Option.getD_some]
 rw [e]
 exact uU.rfl'⟩
abbrev mpB {α:Type} [Inhabited α] (enc:α→D) (ks:List Int) (vs:List α):ba:=.mp ks.length fun i=>(.int .i64 (ks.getD i 0),enc (vs.getD i default))
def Cr {α:Type} [Inhabited α] (enc:α→D) (ks:List Int) (vs:List α) (h:ks.length=vs.length) (k:Int) (v:α):AR:=⟨ks.length+1,(ks++[k]).length,fun q=>if q < ks.length then (.int .i64 (ks.getD q 0),enc (vs.getD q default)) else (.int .i64 k,enc v),fun i=>(.int .i64 ((ks++[k]).getD i 0),enc ((vs++[v]).getD i default)),by
 refine ⟨by simp,fun i hi=>?_⟩
 by_cases c:i < ks.length
 ·simp only [c,if_true,List.getD,List.getElem?_append_left c,List.getElem?_append_left (h ▸ c:i < vs.length)]
 ·obtain rfl:i=ks.length:=by omega
  simp only [Nat.lt_irrefl,if_false]
  simp [List.getD,h]⟩
def aaK {α:Type} [Inhabited α] (enc:α→D) (k:Int) (v:α):AR:=⟨0+1,1,fun q=>if q < 0 then (.bool false,default) else (.int .i64 k,enc v),fun i=>(.int .i64 ([k].getD i 0),enc ([v].getD i default)),by
 refine ⟨rfl,fun i hi=>?_⟩
 obtain rfl:i=0:=by omega
 rfl⟩
abbrev H2 {α:Type} [Inhabited α] (enc:α→D) (m:List (Int × α)):Nat→Value × D:=fun i=>(.int .i64 (m.getD i default).1,enc (m.getD i default).2)
abbrev ZJ {α:Type} [Inhabited α] (enc:α→D) (m:List (Int × α)):ba:=.mp m.length (H2 enc m)
abbrev pmM {α:Type} [Inhabited α] (enc:α→D) (m:List (Int × α)):AV:=.yg m.length (H2 enc m)
def mL {α:Type}:List (Int × α)→Int→α→List (Int × α)
 | [],k,v=>[(k,v)]
 | p :: r,k,v=>bif k == p.1 then (p.1,v) :: r else p :: mL r k v
def mU {α:Type}:List (Int × α)→Int→Option α
 | [],_=>none
 | p :: r,k=>bif k == p.1 then some p.2 else mU r k
def gp {α:Type} (m:List (Int × α)) (k:Int) (z:α):α:=(mU m k).getD z
theorem A8 {α:Type} [Inhabited α] (enc:α→D) (m:List (Int × α)):∀ i,i < m.length→∃ b,(H2 enc m i).1=.int .i64 b:=fun i _=>⟨_,rfl⟩
theorem Cs {α:Type} [Inhabited α] (enc:α→D) (k:Int):∀ (m:List (Int × α)),match ly (.int .i64 k) m.length (H2 enc m) with
  | some p=>p < m.length∧(H2 enc m p).1=.int .i64 k∧mU m k=some (m.getD p default).2∧∀ v,mL m k v=m.set p ((m.getD p default).1,v)
  | none=>mU m k=none∧∀ v,mL m k v=m++[(k,v)]
 | []=>⟨rfl,fun _=>rfl⟩
 | p :: r=>by
  have ih:=Cs enc k r
  have e:(fun i=>H2 enc (p :: r) (i+1))=H2 enc r:=by funext i; simp [H2]
  have e0:(H2 enc (p :: r) 0).1=.int .i64 p.1:=rfl
  simp only [List.length_cons,ly,e,e0,zK,decide_true,Bool.true_and,List.getD_cons_zero]
  cases hk:(k == p.1) with
  | true =>
   have eW:k=p.1:=by simpa using hk
   simp only [cond_true]
   refine ⟨by omega,by rw [eW]; rfl,by simp [mU,hk],fun v=>by simp [mL,hk]⟩
  | false =>
   simp only [cond_false]
   cases hq:ly (.int .i64 k) r.length (H2 enc r) with
   | none =>
    rw [hq] at ih
    simp only [Option.map_none]
    exact ⟨by simp only [mU,hk,cond_false]; exact ih.1,fun v=>by simp only [mL,hk,cond_false,ih.2 v,List.cons_append]⟩
   | some q =>
    rw [hq] at ih
    obtain ⟨i1,i2,i3,i4⟩:=ih
    simp only [Option.map_some]
    refine ⟨by simpa using i1,?_,?_,fun v=>?_⟩
    ·rw [← i2]; rfl
    ·simp only [mU,hk,cond_false]; rw [i3]; simp
    ·simp only [mL,hk,cond_false,i4 v]; simp
def aaL:AR:=⟨0,0,fun _=>(.bool false,default),fun _=>(.bool false,default),rfl,fun _ _=>rfl⟩
def mkM {α:Type} [Inhabited α] (enc:α→D):AR:=⟨0,([]:List (Int × α)).length,fun _=>(.bool false,default),H2 enc ([]:List (Int × α)),rfl,fun i hi=>absurd hi (by omega)⟩
def Wm {α:Type} [Inhabited α] (enc:α→D) (m:List (Int × α)) (k:Int) (v:α):AR:=⟨X3 (.int .i64 k) m.length (H2 enc m),(mL m k v).length,TP (.int .i64 k) (enc v) m.length (H2 enc m),H2 enc (mL m k v),by
 have h:=Cs enc k m
 unfold X3 TP
 cases hq:ly (.int .i64 k) m.length (H2 enc m) with
 | none =>
  rw [hq] at h
  simp only
  rw [h.2 v]
  refine ⟨by simp,fun i hi=>?_⟩
  by_cases c:i < m.length
  ·simp [H2,c,List.getD,List.getElem?_append_left c]
  ·obtain rfl:i=m.length:=by omega
   simp [H2,List.getD]
 | some p =>
  rw [hq] at h
  obtain ⟨h1,h2,h3,h4⟩:=h
  simp only
  rw [h4 v]
  refine ⟨by simp,fun i hi=>?_⟩
  by_cases c:i=p
  ·subst c
   simp [H2,List.getD,h1]
  ·simp [H2,c,List.getD,List.getElem?_set_ne (fun e=>c e.symm)]⟩
theorem Sm {α:Type} [Inhabited α] (enc:α→D) (m:List (Int × α)) (k:Int) (z:α):sC (.int .i64 k) m.length (H2 enc m) (enc z)=enc (gp m k z):=by
 have h:=Cs enc k m
 unfold sC gp
 cases hq:ly (.int .i64 k) m.length (H2 enc m) with
 | none=>rw [hq] at h; simp only [h.1]; rfl
 | some p=>rw [hq] at h; simp only [h.2.2.1]; rfl
def getM {α:Type} [Inhabited α] (enc:α→D) (m:List (Int × α)) (k:Int) (z:α):MS:=⟨.d (sC (.int .i64 k) m.length (H2 enc m) (enc z)),.d (enc (gp m k z)),fun _ _ _ _ _ h=>by rw [← Sm enc m k z]; exact h⟩
theorem Ct {n n':Nat} {f f':Nat→List D} (h:n=n'∧∀ i,i < n→f i=f' i):n=n'∧∀ i,i < n→uU (f i) (f' i):=⟨h.1,fun i hi=>uU.of_eq (h.2 i hi)⟩
section
variable {α : Type} [Inhabited α] (E : Mi α)
theorem Mi.src (M:List α):(∀ i,i < M.length→(E.cells (M.getD i default)).length=E.k)∧∀ i,i < M.length→(E.cells (M.getD i default)).all wu=true:=⟨fun _ _=>E.len _,fun _ _=>E.one _⟩
theorem Mi.pB (M:List α):∀ i,i < M.length→(E.cells (M.getD i default)).all wu=true:=fun _ _=>E.one _
theorem Mi.lens (M:List α):∀ i,i < M.length→(E.cells (M.getD i default)).length=E.k:=fun _ _=>E.len _
def mV (L M:List α):qc:=⟨L.length+M.length,(L++M).length,fun q=>if q < L.length then E.cells (L.getD q default) else E.cells (M.getD (q - L.length) default),fun i=>E.cells ((L++M).getD i default),Ct (V9 E.cells L M)⟩
def sr (L:List α) (p:Nat) (y:α):qc:=⟨L.length,(L.set p y).length,fun q=>if q=p then E.cells y else E.cells (L.getD q default),fun i=>E.cells ((L.set p y).getD i default),Ct <| by
 refine ⟨by simp,fun i hi=>?_⟩
 split
 ·rename_i h
  subst h
  simp [List.getD,hi]
 ·rename_i h
  simp [List.getD,List.getElem?_set_ne (fun e=>h e.symm)]⟩
def mkC (n:Nat) (z:α):qc:=⟨n,(List.replicate n z).length,fun _=>E.cells z,fun i=>E.cells ((List.replicate n z).getD i default),Ct <| by
 refine ⟨by simp,fun i hi=>?_⟩
 simp [List.getD,hi]⟩
def qt (L:List α) (lo n:Nat):List α:=(List.range n).map fun i=>L.getD (lo+i) default
def aaM (L:List α) (lo n:Nat):qc:=⟨n,(qt L lo n).length,fun i=>E.cells (L.getD (lo+i) default),fun i=>E.cells ((qt L lo n).getD i default),Ct <| by
 refine ⟨by simp [qt],fun i hi=>?_⟩
 have:(qt L lo n).getD i default=L.getD (lo+i) default:=by simp [qt,List.getD,hi]
 rw [this]⟩
def acG (L:List α) (h:Nat):qc:=⟨h,(qt L 0 h).length,fun i=>E.cells (L.getD i default),fun i=>E.cells ((qt L 0 h).getD i default),Ct <| by
 refine ⟨by simp [qt],fun i hi=>?_⟩
 have:(qt L 0 h).getD i default=L.getD i default:=by simp [qt,List.getD,hi]
 rw [this]⟩
theorem Nq (k:Nat) (hk:∀ x,(E.cells x).length=k):∀ (xs:List α) (i j:Nat),i < xs.length→j < k→(xs.flatMap E.cells).getD (i * k+j) default=(E.cells (xs.getD i default)).getD j default
 | [],i,j,hi,_=>absurd hi (by simp)
 | x :: r,0,j,_,hj=>by
  simp only [List.flatMap_cons,Nat.zero_mul,Nat.zero_add,List.getD_cons_zero]
  rw [List.getD,List.getElem?_append_left (by rw [hk]; exact hj)]
  rfl
 | x :: r,i+1,j,hi,hj=>by
  have ih:=Nq k hk r i j (by simpa using hi) hj
  simp only [List.flatMap_cons,List.getD_cons_succ]
  rw [List.getD,List.getElem?_append_right (by rw [hk,Nat.add_mul,Nat.one_mul]; omega),hk,show (i+1) * k+j - k=i * k+j by rw [Nat.add_mul,Nat.one_mul]; omega]
  exact ih
theorem Nr (k:Nat) (hk:∀ x,(E.cells x).length=k):∀ (xs:List α),(xs.flatMap E.cells).length=xs.length * k
 | []=>by simp
 | x :: r=>by simp [List.flatMap_cons,hk,Nr k hk r,Nat.add_mul,Nat.add_comm]
def fQ (xs:List α):qc:=⟨xs.length,xs.length,zI E.k xs.length (xs.flatMap E.cells),fun i=>E.cells (xs.getD i default),Ct <| by
 refine ⟨rfl,fun i hi=>?_⟩
 obtain ⟨h1,h2⟩:=wU (k:=E.k) (len:=xs.length) (ds:=xs.flatMap E.cells) (Nr E E.k E.len xs) hi
 apply List.ext_getElem?
 intro j
 by_cases hj:j < E.k
 ·have h3:=h2 j hj
  rw [Nq E E.k E.len xs i j hi hj] at h3
  have l1:j < (zI E.k xs.length (xs.flatMap E.cells) i).length:=by omega
  have l2:j < (E.cells (xs.getD i default)).length:=by rw [E.len]; exact hj
  rw [List.getD,List.getD,List.getElem?_eq_getElem l1,List.getElem?_eq_getElem l2] at h3
  rw [List.getElem?_eq_getElem l1,List.getElem?_eq_getElem l2]
  simpa using h3
 ·rw [List.getElem?_eq_none (by omega),List.getElem?_eq_none (by rw [E.len]; omega)]⟩
def mkN (n:Nat) (z:α) (ds:List D) (h:Uk ds (E.cells z)=(Uk ds (E.cells z)).diag):qc:=⟨n,(List.replicate n z).length,fun _=>ds,fun i=>E.cells ((List.replicate n z).getD i default),by
 refine ⟨by simp,fun i hi=>?_⟩
 have e:(List.replicate n z).getD i default=z:=by simp [List.getD,hi]
 rw [e]
 exact Fg (CT.A2 h)⟩
end
def Wn {cs ds:List D} (h:uU cs ds):MS:=⟨.ref cs,.ref ds,fun w S μ ν v hr=>by
 cases hr with
 | ref eV bG hh=>exact .ref eV (fun j hj=>bG j (by rw [h.1]; exact hj)) (fun j hj=>h.2 j (by rw [h.1]; exact hj) _ _ _ (hh j (by rw [h.1]; exact hj)))⟩
abbrev bA (i:Int) (n:Nat):Prop:=0≤i∧i < (n:Int)
abbrev yw (n m bytes:Nat):Prop:=n+m≤maxLen∧(n+m) * bytes≤140737488355328
abbrev Ti (n:Int) (bytes:Nat):Prop:=0≤n∧n.toNat≤maxLen∧n.toNat * bytes≤140737488355328
def aY.z:aY Unit:=⟨(),fun _=>[],fun _=>none,True,fun _ _ h=>(by cases h),fun _=>True,trivial⟩
abbrev Sk.nx {α ι:Type} (id t n:Nat) (a:ι):Sk (α ⊕ ι):=.r id .z fun _=>.wi t (aq ((n:Int)+1)) ((n+1:Nat):Int) (.fin (.inr a))
def aY.p (p:Prop):aY Unit:=⟨(),fun _=>[],fun _=>some p,p,fun h _ e=>by cases e; exact h,fun _=>True,trivial⟩
def aY.t {p:Prop} (h:p):aY Unit:=⟨(),fun _=>[],fun _=>some p,True,fun _ _ e=>by cases e; exact h,fun _=>True,trivial⟩
def aY.pt (p:Prop) {q:Prop} (h:q):aY Unit:=⟨(),fun _=>[],fun _=>some (p∧q),p,fun hp _ e=>by cases e; exact ⟨hp,h⟩,fun _=>True,trivial⟩
def aY.o (l:List yn):aY Unit:=⟨(),fun _=>l,fun _=>none,True,fun _ _ h=>(by cases h),fun _=>True,trivial⟩
theorem A9 {x y:Option Prop} (h1:∀ p,x=some p→p) (h2:∀ p,y=some p→p) (p:Prop) (e:Co x y=some p):p:=by
 cases x with
 | none=>exact h2 p (by simpa [Co] using e)
 | some a =>
  cases y with
  | none=>exact h1 p (by simpa [Co] using e)
  | some b =>
   simp only [Co,Option.some.injEq] at e
   subst e
   exact ⟨h1 a rfl,h2 b rfl⟩
def YE (e w:Bool):Option Prop→Option Prop
 | none=>none
 | some p=>some (e=w→p)
theorem Wo {x:Option Prop} {e w:Bool} (h:e=w→∀ p,x=some p→p) (p:Prop) (hp:YE e w x=some p):p:=by
 cases x with
 | none=>cases hp
 | some a =>
  simp only [YE,Option.some.injEq] at hp
  subst hp
  exact fun he=>h he a rfl
def aY.and {α β:Type} (a:aY α) (b:aY β):aY (α × β):=⟨(a.v,b.v),fun x=>a.ij x.1++b.ij x.2,fun x=>Co (a.ja x.1) (b.ja x.2),a.pre∧b.pre,fun h=>A9 (a.pf h.1) (b.pf h.2),fun x=>a.post x.1∧b.post x.2,⟨a.hp,b.hp⟩⟩
def aY.al {β:Type} (a:aY Unit) (b:aY β):aY β:=⟨b.v,fun x=>a.ij ()++b.ij x,fun x=>Co (a.ja ()) (b.ja x),a.pre∧b.pre,fun h=>A9 (a.pf h.1) (b.pf h.2),b.post,b.hp⟩
def aY.Ba {α:Type} (a:aY α) (b:aY Unit):aY α:=⟨a.v,fun x=>a.ij x++b.ij (),fun x=>Co (a.ja x) (b.ja ()),a.pre∧b.pre,fun h=>A9 (a.pf h.1) (b.pf h.2),a.post,a.hp⟩
def aY.wh {β:Type} (e w:Bool) (a:aY β):aY β:=⟨a.v,a.ij,fun x=>YE e w (a.ja x),e=w→a.pre,fun h=>Wo fun he=>a.pf (h he),a.post,a.hp⟩
def aY.dep {α β:Type} (a:aY α) (b:α→aY β):aY (α × β):=⟨(a.v,(b a.v).v),fun x=>a.ij x.1++(b x.1).ij x.2,fun x=>Co (a.ja x.1) ((b x.1).ja x.2),a.pre∧∀ x,x=a.v→a.post x→(b x).pre,fun h=>A9 (a.pf h.1) ((b a.v).pf (h.2 _ rfl a.hp)),fun x=>a.post x.1∧(b x.1).post x.2,⟨a.hp,(b a.v).hp⟩⟩
def aY.mM {α:Type} (a:aY α) (b:α→aY Unit):aY α:=⟨a.v,fun x=>a.ij x++(b x).ij (),fun x=>Co (a.ja x) ((b x).ja ()),a.pre∧∀ x,x=a.v→a.post x→(b x).pre,fun h=>A9 (a.pf h.1) ((b a.v).pf (h.2 _ rfl a.hp)),a.post,a.hp⟩
structure gV (β:Type) where
 P:Program
 f:FuncId
 args:List AV
 enc:β→AV
 fl:Bool
 v:β
 pre:Prop
 pf:pre→fA P f args [] (enc v) []
 post:β→Prop:=fun _=>True
 hp:post v:=by trivial
def gV.c {β:Type} (c:gV β):aY β:=⟨c.v,fun x=>[bif c.fl then .flat (c.enc x) else .gen [] (c.enc x) []],fun x=>some (fA c.P c.f c.args [] (c.enc x) []),c.pre,fun hp _ e=>by cases e; exact c.pf hp,c.post,c.hp⟩
theorem rk.refl:∀ (l:List AV),rk l l
 | []=>trivial
 | _ :: r=>⟨sq.rfl',rk.refl r⟩
theorem rk.set:∀ (l:List AV) (i:Nat) (x y:AV),l[i]? = some y→sq x y→rk (l.set i x) l
 | [],i,_,_,h,_=>by simp at h
 | z :: r,0,x,y,h,hle=>by
  simp only [List.getElem?_cons_zero,Option.some.injEq] at h
  subst h
  exact ⟨hle,rk.refl r⟩
 | z :: r,i+1,x,y,h,hle=>⟨sq.rfl',rk.set r i x y (by simpa using h) hle⟩
def gV.nil {β:Type} (c:gV β) (i:Nat) (h:∃ g,c.args[i]? = some (.d (.sl 0 g))):gV β :=
 { c with args:=c.args.set i nv,pf:=fun hp=>(c.pf hp).Q4 (let ⟨g,hg⟩:=h; rk.set c.args i _ _ hg (sq.d (pQ.nil g))) }
def gV.Bb {β:Type} (c:gV β) (i j:Nat) (cs:List D) (h:c.args[i]? = some (.d (.agg cs))) (h2:∃ g,cs[j]? = some (.sl 0 g)):gV β :=
 {c with args:=c.args.set i (.d (.agg (cs.set j (.v (.slice none 0 0))))),pf:=fun hp=>(c.pf hp).Q4 (rk.set c.args i _ _ h (sq.d (pQ.agg (by simp) (fun q hq=>by
   obtain ⟨g,hg⟩:=h2
   by_cases e:j=q
   ·subst e
    have hj:j < cs.length:=by simpa using hq
    have e1:(cs.set j (.v (.slice none 0 0))).getD j default=.v (.slice none 0 0):=by simp [List.getD,hj]
    have e2:cs.getD j default=.sl 0 g:=by simp [List.getD,hg]
    rw [e1,e2]
    exact pQ.nil g
   ·have e1:(cs.set j (.v (.slice none 0 0))).getD q default=cs.getD q default:=by simp [List.getD,List.getElem?_set_ne e]
    rw [e1]
    exact pQ.rfl')))) }
@[simp] theorem aY.acH (x:Unit):aY.z.post x=True:=rfl
@[simp] theorem aY.acI (p:Prop) (x:Unit):(aY.p p).post x=True:=rfl
@[simp] theorem aY.acJ {p:Prop} (h:p) (x:Unit):(aY.t h).post x=True:=rfl
@[simp] theorem aY.abu (p:Prop) {q:Prop} (h:q) (x:Unit):(aY.pt p h).post x=True:=rfl
@[simp] theorem aY.acK (l:List yn) (x:Unit):(aY.o l).post x=True:=rfl
@[simp] theorem aY.aaN {α β:Type} (a:aY α) (b:aY β) (x:α × β):(a.and b).post x=(a.post x.1∧b.post x.2):=rfl
@[simp] theorem aY.ZK {β:Type} (a:aY Unit) (b:aY β) (x:β):(a.al b).post x=b.post x:=rfl
@[simp] theorem aY.ZL {β:Type} (a:aY β) (b:aY Unit) (x:β):(a.Ba b).post x=a.post x:=rfl
@[simp] theorem aY.abv {β:Type} (e w:Bool) (a:aY β) (x:β):(a.wh e w).post x=a.post x:=rfl
@[simp] theorem aY.aaO {α β:Type} (a:aY α) (b:α→aY β) (x:α × β):(a.dep b).post x=(a.post x.1∧(b x.1).post x.2):=rfl
@[simp] theorem aY.ZM {α:Type} (a:aY α) (b:α→aY Unit) (x:α):(a.mM b).post x=a.post x:=rfl
@[simp] theorem gV.K7 {β:Type} (c:gV β) (x:β):c.c.post x=c.post x:=rfl
@[simp] theorem gV.Ux {β:Type} (c:gV β) (i:Nat) (h:∃ g,c.args[i]? = some (.d (.sl 0 g))) (x:β):(c.nil i h).post x=c.post x:=rfl
@[simp] theorem gV.ZO {β:Type} (c:gV β) (i j:Nat) (cs:List D) (h:c.args[i]? = some (.d (.agg cs))) (h2:∃ g,cs[j]? = some (.sl 0 g)) (x:β):(c.Bb i j cs h h2).post x=c.post x:=rfl
@[simp] theorem aY.adw:aY.z.pre=True:=rfl
@[simp] theorem aY.adx (p:Prop):(aY.p p).pre=p:=rfl
@[simp] theorem aY.ady {p:Prop} (h:p):(aY.t h).pre=True:=rfl
@[simp] theorem aY.acL (p:Prop) {q:Prop} (h:q):(aY.pt p h).pre=p:=rfl
@[simp] theorem aY.adz (l:List yn):(aY.o l).pre=True:=rfl
@[simp] theorem aY.abw {α β:Type} (a:aY α) (b:aY β):(a.and b).pre=(a.pre∧b.pre):=rfl
@[simp] theorem aY.aaP {β:Type} (a:aY Unit) (b:aY β):(a.al b).pre=(a.pre∧b.pre):=rfl
@[simp] theorem aY.aaQ {β:Type} (a:aY β) (b:aY Unit):(a.Ba b).pre=(a.pre∧b.pre):=rfl
@[simp] theorem aY.acM {β:Type} (e w:Bool) (a:aY β):(a.wh e w).pre=(e=w→a.pre):=rfl
@[simp] theorem aY.abx {α β:Type} (a:aY α) (b:α→aY β):(a.dep b).pre=(a.pre∧∀ x,x=a.v→a.post x→(b x).pre):=rfl
@[simp] theorem aY.aaR {α:Type} (a:aY α) (b:α→aY Unit):(a.mM b).pre=(a.pre∧∀ x,x=a.v→a.post x→(b x).pre):=rfl
@[simp] theorem aY.aaS {α β:Type} (a:aY α) (b:α→aY β):(a.dep b).v=(a.v,(b a.v).v):=rfl
@[simp] theorem aY.acN {α:Type} (a:aY α) (b:α→aY Unit):(a.mM b).v=a.v:=rfl
@[simp] theorem gV.Rh {β:Type} (c:gV β):c.c.pre=c.pre:=rfl
@[simp] theorem gV.Kb {β:Type} (c:gV β):c.c.v=c.v:=rfl
@[simp] theorem gV.Wp {β:Type} (c:gV β) (i:Nat) (h:∃ g,c.args[i]? = some (.d (.sl 0 g))):(c.nil i h).pre=c.pre:=rfl
@[simp] theorem gV.aaT {β:Type} (c:gV β) (i:Nat) (h:∃ g,c.args[i]? = some (.d (.sl 0 g))):(c.nil i h).v=c.v:=rfl
@[simp] theorem gV.aaU {β:Type} (c:gV β) (i j:Nat) (cs:List D) (h:c.args[i]? = some (.d (.agg cs))) (h2:∃ g,cs[j]? = some (.sl 0 g)):(c.Bb i j cs h h2).pre=c.pre:=rfl
@[simp] theorem gV.acO {β:Type} (c:gV β) (i j:Nat) (cs:List D) (h:c.args[i]? = some (.d (.agg cs))) (h2:∃ g,cs[j]? = some (.sl 0 g)):(c.Bb i j cs h h2).v=c.v:=rfl
@[simp] theorem aY.adA {α β:Type} (a:aY α) (b:aY β):(a.and b).v=(a.v,b.v):=rfl
@[simp] theorem aY.zU {β:Type} (a:aY Unit) (b:aY β):(a.al b).v=b.v:=rfl
@[simp] theorem aY.acP {β:Type} (a:aY β) (b:aY Unit):(a.Ba b).v=a.v:=rfl
@[simp] theorem aY.YF {β:Type} (e w:Bool) (a:aY β):(a.wh e w).v=a.v:=rfl
structure gW (β:Type) where
 P:Program
 f:FuncId
 args:List AV
 enc:β→AV
 yM:β→List (Nat × ba)
 v:β
 pre:Prop
 pf:pre→fA P f args [] (enc v) (yM v)
 post:β→Prop:=fun _=>True
 hp:post v:=by trivial
def gW.c {β:Type} (c:gW β):aY β:=⟨c.v,fun x=>[.gen [] (c.enc x) (c.yM x)],fun x=>some (fA c.P c.f c.args [] (c.enc x) (c.yM x)),c.pre,fun hp _ e=>by cases e; exact c.pf hp,c.post,c.hp⟩
@[simp] theorem gW.Rh {β:Type} (c:gW β):c.c.pre=c.pre:=rfl
@[simp] theorem gW.Kb {β:Type} (c:gW β):c.c.v=c.v:=rfl
def gW.nil {β:Type} (c:gW β) (i:Nat) (h:∃ g,c.args[i]? = some (.d (.sl 0 g))):gW β :=
 { c with args:=c.args.set i nv,pf:=fun hp=>(c.pf hp).Q4 (let ⟨g,hg⟩:=h; rk.set c.args i _ _ hg (sq.d (pQ.nil g))) }
@[simp] theorem gW.Wp {β:Type} (c:gW β) (i:Nat) (h:∃ g,c.args[i]? = some (.d (.sl 0 g))):(c.nil i h).pre=c.pre:=rfl
@[simp] theorem gW.aaT {β:Type} (c:gW β) (i:Nat) (h:∃ g,c.args[i]? = some (.d (.sl 0 g))):(c.nil i h).v=c.v:=rfl
@[simp] theorem gW.K7 {β:Type} (c:gW β) (x:β):c.c.post x=c.post x:=rfl
@[simp] theorem gW.Ux {β:Type} (c:gW β) (i:Nat) (h:∃ g,c.args[i]? = some (.d (.sl 0 g))) (x:β):(c.nil i h).post x=c.post x:=rfl
structure Ns (β:Type) where
 P:Program
 f:FuncId
 args:List AV
 cz:List (Nat × ba)
 kD:List (Nat × Nat)
 enc:β→AV
 yM:β→List (Nat × ba)
 v:β
 pre:Prop
 pf:pre→FnB P f args cz (enc v) (yM v) kD
 post:β→Prop:=fun _=>True
 hp:post v:=by trivial
def Ns.c {β:Type} (c:Ns β):aY β:=⟨c.v,fun x=>[.bx (c.cz.map (·.1)) c.kD (c.enc x) (c.yM x)],fun x=>some (FnB c.P c.f c.args c.cz (c.enc x) (c.yM x) c.kD),c.pre,fun hp _ e=>by cases e; exact c.pf hp,c.post,c.hp⟩
@[simp] theorem Ns.Rh {β:Type} (c:Ns β):c.c.pre=c.pre:=rfl
@[simp] theorem Ns.Kb {β:Type} (c:Ns β):c.c.v=c.v:=rfl
@[simp] theorem Ns.K7 {β:Type} (c:Ns β) (x:β):c.c.post x=c.post x:=rfl
theorem fA.Uy {P:Program} {f:FuncId} {args:List AV} {K n e k m:Nat} {r:Nat→List D} (κ:Nat) (h:fA P f args [] (.own K n) [(K,.row e k m r)]):fA P f args [] (.own κ n) [(κ,.row e k m r)]:=by
 refine ⟨h.1,fun w S μ vs h1 h2 h3 h4 h5=>(h.2 w S μ vs h1 h2 h3 h4 h5).mono ?_⟩
 rintro e0 w' ⟨v,S',μ',rfl,B⟩
 have lk:∀ q b,look [(κ,ba.row e k m r)] q=some b→q=κ∧b=.row e k m r:=fun q b hq=>by
  rw [bq] at hq
  split at hq
  ·rename_i e; simp only [Option.some.injEq] at hq; exact ⟨e.symm,hq.symm⟩
  ·simp [look] at hq
 have lK:look [(K,ba.row e k m r)] K=some (.row e k m r):=by rw [bq,if_pos rfl]
 refine ⟨v,S',fun _=>μ' K,rfl,⟨fun ν=>?_,fun q b hq=>?_,fun q1 q2 b1 b2 g c c' x1 x2 _ _=>by rw [(lk q1 b1 x1).1,(lk q2 b2 x2).1],fun q b g c x1 x2=>B.own K _ g c lK x2,B.sub,B.new,B.bound,B.kept⟩⟩
 ·cases B.res ν with
  | cu hμ=>exact .cu hμ
  | own hμ=>exact .own hμ
 ·obtain ⟨rfl,rfl⟩:=lk q b hq
  exact (B.mem K _ lK).agree (fun k hk=>by simp [ba.keys] at hk)
theorem fA.YG {P:Program} {f:FuncId} {args rs:List AV} {K n e k m:Nat} {r:Nat→List D} (κ:Nat) (hk:AV.nR rs=[]) (h:fA P f args [] (.eD (.own K n :: rs)) [(K,.row e k m r)]):fA P f args [] (.eD (.own κ n :: rs)) [(κ,.row e k m r)]:=by
 refine ⟨h.1,fun w S μ vs h1 h2 h3 h4 h5=>(h.2 w S μ vs h1 h2 h3 h4 h5).mono ?_⟩
 rintro e0 w' ⟨v,S',μ',rfl,B⟩
 have lk:∀ q b,look [(κ,ba.row e k m r)] q=some b→q=κ∧b=.row e k m r:=fun q b hq=>by
  rw [bq] at hq
  split at hq
  ·rename_i e; simp only [Option.some.injEq] at hq; exact ⟨e.symm,hq.symm⟩
  ·simp [look] at hq
 have lK:look [(K,ba.row e k m r)] K=some (.row e k m r):=by rw [bq,if_pos rfl]
 refine ⟨v,S',fun _=>μ' K,rfl,⟨fun ν=>?_,fun q b hq=>?_,fun q1 q2 b1 b2 g c c' x1 x2 _ _=>by rw [(lk q1 b1 x1).1,(lk q2 b2 x2).1],fun q b g c x1 x2=>B.own K _ g c lK x2,B.sub,B.new,B.bound,B.kept⟩⟩
 ·cases B.res ν with
  | @eD _ vs hl hr =>
   refine .eD hl (fun i hi=>?_)
   have hq:=hr i hi
   cases i with
   | zero =>
    simp only [List.getD_cons_zero] at hq ⊢
    generalize vs.getD 0 undef=v0 at hq ⊢
    cases hq with
    | cu hμ=>exact .cu hμ
    | own hμ=>exact .own hμ
   | succ i =>
    simp only [List.getD_cons_succ] at hq ⊢
    refine hq.agree (fun k' eW=>absurd eW (AV.qV rs i (by rw [hk]; simp) (by simpa using hi)))
 ·obtain ⟨rfl,rfl⟩:=lk q b hq
  exact (B.mem K _ lK).agree (fun k hk=>by simp [ba.keys] at hk)
structure zV (β:Type) where
 P:Program
 f:FuncId
 args:List AV
 κ:Nat
 b:ba
 enc:β→ba
 v:β
 pre:Prop
 pf:pre→Zx P f args κ b (enc v)
 post:β→Prop:=fun _=>True
 hp:post v:=by trivial
def zV.c {β:Type} (c:zV β):aY β:=⟨c.v,fun x=>[.same c.κ (c.enc x)],fun x=>some (Zx c.P c.f c.args c.κ c.b (c.enc x)),c.pre,fun hp _ e=>by cases e; exact c.pf hp,c.post,c.hp⟩
@[simp] theorem zV.Rh {β:Type} (c:zV β):c.c.pre=c.pre:=rfl
@[simp] theorem zV.Kb {β:Type} (c:zV β):c.c.v=c.v:=rfl
@[simp] theorem zV.K7 {β:Type} (c:zV β) (x:β):c.c.post x=c.post x:=rfl
structure xg (β:Type) where
 P:Program
 f:FuncId
 args:List AV
 cz:List (Nat × ba)
 enc:β→AV
 yM:β→List (Nat × ba)
 v:β
 pre:Prop
 pf:pre→fA P f args cz (enc v) (yM v)
 post:β→Prop:=fun _=>True
 hp:post v:=by trivial
def xg.c {β:Type} (c:xg β):aY β:=⟨c.v,fun x=>[.gen (c.cz.map (·.1)) (c.enc x) (c.yM x)],fun x=>some (fA c.P c.f c.args c.cz (c.enc x) (c.yM x)),c.pre,fun hp _ e=>by cases e; exact c.pf hp,c.post,c.hp⟩
@[simp] theorem xg.Rh {β:Type} (c:xg β):c.c.pre=c.pre:=rfl
@[simp] theorem xg.Kb {β:Type} (c:xg β):c.c.v=c.v:=rfl
@[simp] theorem xg.K7 {β:Type} (c:xg β) (x:β):c.c.post x=c.post x:=rfl
theorem ud {K q:Nat} {b0 b:ba} (h:look [(K,b0)] q=some b):q=K∧b=b0:=by
 rw [bq] at h
 split at h
 ·rename_i e; simp only [Option.some.injEq] at h; exact ⟨e.symm,h.symm⟩
 ·simp [look] at h
theorem fA.Uz {P:Program} {f:FuncId} {args:List AV} {cz:List (Nat × ba)} {K n e k m:Nat} {r:Nat→List D} (κ:Nat) (h:fA P f args cz (.own K n) [(K,.row e k m r)]):fA P f args cz (.own κ n) [(κ,.row e k m r)]:=by
 refine ⟨h.1,fun w S μ vs h1 h2 h3 h4 h5=>(h.2 w S μ vs h1 h2 h3 h4 h5).mono ?_⟩
 rintro e0 w' ⟨v,S',μ',rfl,B⟩
 have lK:look [(K,ba.row e k m r)] K=some (.row e k m r):=by rw [bq,if_pos rfl]
 refine ⟨v,S',fun _=>μ' K,rfl,⟨fun ν=>?_,fun q b hq=>?_,fun q1 q2 b1 b2 g c c' x1 x2 _ _=>by rw [(ud x1).1,(ud x2).1],fun q b g c x1 x2=>B.own K _ g c lK x2,B.sub,B.new,B.bound,B.kept⟩⟩
 ·cases B.res ν with
  | cu hμ=>exact .cu hμ
  | own hμ=>exact .own hμ
 ·obtain ⟨rfl,rfl⟩:=ud hq
  exact (B.mem K _ lK).agree (fun k hk=>by simp [ba.keys] at hk)
theorem fA.UA {P:Program} {f:FuncId} {Fe:List AV} {K n e k m:Nat} {r:Nat→List D} {res:AV} {fh:List (Nat × ba)} (κ:Nat) (hk:AV.nR Fe=[]) (h:fA P f (.own K n :: Fe) [(K,.row e k m r)] res fh):fA P f (.own κ n :: Fe) [(κ,.row e k m r)] res fh:=by
 refine ⟨h.1,fun w S μ vs h1 h2 h3 h4 h5=>?_⟩
 have lK:∀ K',look [(K',ba.row e k m r)] K'=some (.row e k m r):=fun K'=>by rw [bq,if_pos rfl]
 refine (h.2 w S (fun _=>μ κ) vs h1 h2 (fun ν=>?_) (fun q b hq=>?_) (fun q1 q2 b1 b2 g c c' x1 x2 _ _=>by rw [(ud x1).1,(ud x2).1])).mono ?_
 ·obtain ⟨hl,hi⟩:=h3 ν
  refine ⟨by simpa using hl,fun i fb=>?_⟩
  have hq:=hi i (by simpa using fb)
  cases i with
  | zero =>
   simp only [List.getD_cons_zero] at hq ⊢
   generalize vs.toList.getD 0 undef=v at hq ⊢
   cases hq with
   | cu hμ=>exact .cu hμ
   | own hμ=>exact .own hμ
  | succ i =>
   simp only [List.getD_cons_succ] at hq ⊢
   refine hq.agree (fun k' eW=>absurd eW (AV.qV Fe i (by rw [hk]; simp) (by simpa using fb)))
 ·obtain ⟨rfl,rfl⟩:=ud hq
  exact (h4 κ _ (lK κ)).agree (fun k hk=>by simp [ba.keys] at hk)
 ·rintro e' w' ⟨v,S',μ',rfl,B⟩
  exact ⟨v,S',μ',rfl,B.QT (fun b ⟨q,bk,c,x1,x2⟩=>⟨κ,_,c,lK κ,x2⟩)⟩
section
variable {α β ι : Type}
@[simp] theorem Sk.jR (a:α):(Sk.fin a).val=a:=rfl
@[simp] theorem Sk.oe (e:Bool) (x y:Sk α):(Sk.br e x y).val=bif e then x.val else y.val:=rfl
@[simp] theorem Sk.ue (id:Nat) (c:aY β) (k:β→Sk α):(Sk.r id c k).val=(k c.v).val:=rfl
@[simp] theorem Sk.xh (t:Nat) (m n:Int) (k:Sk α):(Sk.wi t m n k).val=k.val:=rfl
@[simp] theorem Sk.vj (t j n:Nat) (k:Sk α):(Sk.zC t j n k).val=k.val:=rfl
@[simp] theorem Sk.PM (κ n n':Nat) (k:Sk α):(Sk.wn κ n n' k).val=k.val:=rfl
@[simp] theorem Sk.aby (k:Sk α):(Sk.HZ k).val=k.val:=rfl
@[simp] theorem Sk.abz (k:Sk α):(Sk.H0 k).val=k.val:=rfl
@[simp] theorem Sk.aaV (a:α):(Sk.dead a).val=a:=rfl
@[simp] theorem Sk.abA (t:Nat) (c:Bool) (x y:AV) (k1 k2:Sk α):(Sk.Q7 t c x y k1 k2).val=bif c then k1.val else k2.val:=rfl
@[simp] theorem Sk.abB (t n:Nat) (k1 k2:Sk α):(Sk.O2 t n k1 k2).val=k2.val:=rfl
@[simp] theorem Sk.acQ (κ:Nat) (k:List (Int × Int)→Sk α):(Sk.op κ k).val=(k []).val:=rfl
@[simp] theorem Sk.acR (κ:Nat) (m:List (Int × Int)) (k:Sk α):(Sk.cl κ m k).val=k.val:=rfl
@[simp] theorem Sk.acS (κ:Nat) (q:List (Int × Int)→Prop) (k:List (Int × Int)→Sk α):(Sk.oq κ q k).val=(k (canon q)).val:=rfl
@[simp] theorem Sk.YH (κ:Nat) (m:List (Int × Int)) (q:List (Int × Int)→Prop) (k:Sk α):(Sk.cq κ m q k).val=k.val:=rfl
@[simp] theorem Sk.abC (id:Nat) (x:Int) (c:qc) (k:Sk α):(Sk.K1 id x c k).val=k.val:=rfl
@[simp] theorem Sk.acT (κ:Nat) (k:Sk α):(Sk.fz κ k).val=k.val:=rfl
@[simp] theorem Sk.pC (b:Bool) (J:β→Prop) (s:Sk (α ⊕ β)) (u:β→Tg) (k:β→Sk α):(Sk.bind b J s u k).val=ki s.val fun b=>(k b).val:=rfl
@[simp] theorem Sk.UB {σ β Y:Type} (it:ItC Y) (I:Nat→σ→Prop) (B:β→Prop) (id:Nat) (s0:σ) (u:σ→List (Nat × ba)) (v:β→List (Nat × ba)) (b:σ→Y→Sk (β ⊕ σ)) (k:β ⊕ σ→Sk α):(Sk.rf it I B id s0 u v b k).val=(k (mS (fun s y=>(b s y).val) it.ys s0)).val:=rfl
@[simp] theorem Sk.rq (d:α) (I:ι→Prop) (m:ι→Nat) (i0:ι) (u:ι→Tg) (b:ι→Sk (α ⊕ ι)):(Sk.loop d I m i0 u b).val=iter (fun i=>(b i).val) d (m i0+1) i0:=rfl
variable (L : α → Prop)
@[simp] theorem Sk.abD (a:α):(Sk.fin a).aZ L=L a:=rfl
@[simp] theorem Sk.acU (e:Bool) (x y:Sk α):(Sk.br e x y).aZ L=((e=true→x.aZ L)∧(e=false→y.aZ L)):=rfl
@[simp] theorem Sk.adB (id:Nat) (c:aY β) (k:β→Sk α):(Sk.r id c k).aZ L=(c.pre∧∀ x,x=c.v→c.post x→(k x).aZ L):=rfl
@[simp] theorem Sk.acV (t:Nat) (m n:Int) (k:Sk α):(Sk.wi t m n k).aZ L=(m=n∧k.aZ L):=rfl
@[simp] theorem Sk.abE (t j n:Nat) (k:Sk α):(Sk.zC t j n k).aZ L=(n≤maxLen→k.aZ L):=rfl
@[simp] theorem Sk.acW (κ n n':Nat) (k:Sk α):(Sk.wn κ n n' k).aZ L=(n=n'∧k.aZ L):=rfl
@[simp] theorem Sk.abF (k:Sk α):(Sk.HZ k).aZ L=k.aZ L:=rfl
@[simp] theorem Sk.abG (k:Sk α):(Sk.H0 k).aZ L=k.aZ L:=rfl
@[simp] theorem Sk.aaW (a:α):(Sk.dead a).aZ L=False:=rfl
@[simp] theorem Sk.abH (t:Nat) (c:Bool) (x y:AV) (k1 k2:Sk α):(Sk.Q7 t c x y k1 k2).aZ L=((c=true→k1.aZ L)∧(c=false→k2.aZ L)):=rfl
@[simp] theorem Sk.abI (t n:Nat) (k1 k2:Sk α):(Sk.O2 t n k1 k2).aZ L=((n=0→k1.aZ L∧k1.val=k2.val)∧k2.aZ L):=rfl
@[simp] theorem Sk.abJ (id:Nat) (x:Int) (c:qc) (k:Sk α):(Sk.K1 id x c k).aZ L=((0≤x∧x≤(c.n:Int))∧k.aZ L):=rfl
@[simp] theorem Sk.acX (κ:Nat) (k:Sk α):(Sk.fz κ k).aZ L=k.aZ L:=rfl
@[simp] theorem Sk.aaX (b:Bool) (J:β→Prop) (s:Sk (α ⊕ β)) (u:β→Tg) (k:β→Sk α):(Sk.bind b J s u k).aZ L=(s.aZ (nU L J)∧∀ b,s.val=.inr b→J b→(k b).aZ L):=rfl
@[simp] theorem Sk.aaY (d:α) (I:ι→Prop) (m:ι→Nat) (i0:ι) (u:ι→Tg) (b:ι→Sk (α ⊕ ι)):(Sk.loop d I m i0 u b).aZ L=(I i0∧∀ i,I i→(b i).aZ (fL L fun j=>I j∧m j < m i)):=rfl
end
section
variable {α β ι : Type} (L : α → Prop)
@[simp] theorem Sk.abK (a:α):(Sk.fin a).cC L=L a:=rfl
@[simp] theorem Sk.acY (e:Bool) (x y:Sk α):(Sk.br e x y).cC L=((e=true→x.cC L)∧(e=false→y.cC L)):=rfl
@[simp] theorem Sk.adC (id:Nat) (c:aY β) (k:β→Sk α):(Sk.r id c k).cC L=(∀ x,x=c.v→c.post x→(k x).cC L):=rfl
@[simp] theorem Sk.acZ (t:Nat) (m n:Int) (k:Sk α):(Sk.wi t m n k).cC L=k.cC L:=rfl
@[simp] theorem Sk.abL (t j n:Nat) (k:Sk α):(Sk.zC t j n k).cC L=k.cC L:=rfl
@[simp] theorem Sk.ac0 (κ n n':Nat) (k:Sk α):(Sk.wn κ n n' k).cC L=k.cC L:=rfl
@[simp] theorem Sk.abM (k:Sk α):(Sk.HZ k).cC L=k.cC L:=rfl
@[simp] theorem Sk.abN (k:Sk α):(Sk.H0 k).cC L=k.cC L:=rfl
@[simp] theorem Sk.aaZ (a:α):(Sk.dead a).cC L=L a:=rfl
@[simp] theorem Sk.abO (t:Nat) (c:Bool) (x y:AV) (k1 k2:Sk α):(Sk.Q7 t c x y k1 k2).cC L=((c=true→k1.cC L)∧(c=false→k2.cC L)):=rfl
@[simp] theorem Sk.abP (t n:Nat) (k1 k2:Sk α):(Sk.O2 t n k1 k2).cC L=k2.cC L:=rfl
@[simp] theorem Sk.abQ (id:Nat) (x:Int) (c:qc) (k:Sk α):(Sk.K1 id x c k).cC L=k.cC L:=rfl
@[simp] theorem Sk.ac1 (κ:Nat) (k:Sk α):(Sk.fz κ k).cC L=k.cC L:=rfl
@[simp] theorem Sk.aa0 (b:Bool) (J:β→Prop) (s:Sk (α ⊕ β)) (u:β→Tg) (k:β→Sk α):(Sk.bind b J s u k).cC L=(s.cC (nU L J)∧∀ b,s.val=.inr b→J b→(k b).cC L):=rfl
@[simp] theorem Sk.aa1 (d:α) (I:ι→Prop) (m:ι→Nat) (i0:ι) (u:ι→Tg) (b:ι→Sk (α ⊕ ι)):(Sk.loop d I m i0 u b).cC L=(I i0∧∀ i,I i→(b i).cC (fL L fun j=>I j∧m j < m i)):=rfl
end
@[simp] theorem ZP {α β:Type} (L:α→Prop) (J:β→Prop) (a:α):nU L J (.inl a)=L a:=rfl
@[simp] theorem ZQ {α β:Type} (L:α→Prop) (J:β→Prop) (b:β):nU L J (.inr b)=J b:=rfl
@[simp] theorem ZR {α β:Type} (L:α→Prop) (J:β→Prop) (a:α):fL L J (.inl a)=L a:=rfl
@[simp] theorem ZS {α β:Type} (L:α→Prop) (J:β→Prop) (b:β):fL L J (.inr b)=J b:=rfl
@[simp] theorem Sn {α β:Type} (a:α) (f:β→α):ki (.inl a) f=a:=rfl
@[simp] theorem qR {α β:Type} (b:β) (f:β→α):ki (.inr b) f=f b:=rfl
def Fh (f:Int→Int):List (Int × Int)→Prop:=fun m=>∀ k,gp m k 0=f k
def Xx:Int→Int:=fun _=>0
def Bc (f:Int→Int) (k v:Int):Int→Int:=fun q=>if q=k then v else f q
theorem Ri:Fh Xx []:=fun _=>rfl
theorem rr {α:Type} (k:Int) (v:α) (q:Int):∀ (m:List (Int × α)),mU (mL m k v) q=if q=k then some v else mU m q
 | []=>by
  simp only [mL,mU]
  by_cases h:q=k
  ·subst h; simp
  ·have:(q == k)=false:=by simpa using h
   simp [h,this]
 | p :: r=>by
  have ih:=rr k v q r
  simp only [mL]
  by_cases hk:k=p.1
  ·subst hk
   by_cases h:q=p.1
   ·subst h; simp [mU]
   ·have:(q == p.1)=false:=by simpa using h
    simp [mU,h,this]
  ·have h1:(k == p.1)=false:=by simpa using hk
   by_cases h:q=p.1
   ·have h2:¬ q=k:=fun e=>hk (e.symm.trans h)
    subst h
    simp [mU,h1,h2]
   ·have h2:(q == p.1)=false:=by simpa using h
    simp only [h1,cond_false,mU,h2]
    exact ih
theorem Rj {f:Int→Int} {m:List (Int × Int)} (h:Fh f m) (k v:Int):Fh (Bc f k v) (mL m k v):=fun q=>by
 have:=h q
 unfold gp at *
 rw [rr]
 unfold Bc
 split
 ·rfl
 ·exact this
def Sk.aI:{α:Type}→Sk α→Bool
 | _,.loop ..=>true
 | _,_=>false
def Sk.cx:{α:Type}→Sk α→(α→Prop)→Prop
 | _,.fin a,L=>L a
 | _,.br e x y,L=>(e=true→x.cx L)∧(e=false→y.cx L)
 | _,.r _ c k,L=>∀ x,x=c.v→c.post x→(k x).cx L
 | _,.wi _ _ _ k,L=>k.cx L
 | _,.wn _ _ _ k,L=>k.cx L
 | _,.HZ k,L=>k.cx L
 | _,.H0 k,L=>k.cx L
 | _,.dead a,L=>L a
 | _,.zC _ _ _ k,L=>k.cx L
 | _,.Q7 _ c _ _ x y,L=>(c=true→x.cx L)∧(c=false→y.cx L)
 | _,.O2 _ _ _ k,L=>k.cx L
 | _,.fz _ k,L=>k.cx L
 | _,.op _ k,L=>(k []).cx L
 | _,.cl _ _ k,L=>k.cx L
 | _,.oq _ q k,L=>(∃ m,q m)∧∀ m,q m→(k m).cx L
 | _,.cq _ _ _ k,L=>k.cx L
 | _,.K1 _ _ _ k,L=>k.cx L
 | _,.mr n V init _ _ b k,L=>V init∧(∀ g i,V g→i < n→(b g i).cx V)∧∀ g,g=(List.range n).foldr (fun i g=>(b g i).val) init→V g→(k g).cx L
 | _,.bind _ J s _ k,L=>s.cx (nU L J)∧∀ b,(s.aI=false→s.val=.inr b)→J b→(k b).cx L
 | _,.loop _ I m i0 _ b,L=>I i0∧∀ i,I i→(b i).cx (fL L fun j=>I j∧m j < m i)
 | _,.rf it I B _ s0 _ _ b k,L=>I 0 s0∧(∀ i s y,I i s→it.ys[i]? = some y→(b s y).cx (fL B (I (i+1))))∧∀ r,fL B (I it.ys.length) r→(k r).cx L
def Sk.jb:{α:Type}→Sk α→(α→Prop)→Prop
 | _,.fin a,L=>L a
 | _,.br e x y,L=>(e=true→x.jb L)∧(e=false→y.jb L)
 | _,.r _ c k,L=>c.pre∧∀ x,x=c.v→c.post x→(k x).jb L
 | _,.wi _ m n k,L=>m=n∧k.jb L
 | _,.wn _ n n' k,L=>n=n'∧k.jb L
 | _,.HZ k,L=>k.jb L
 | _,.H0 k,L=>k.jb L
 | _,.dead _,_=>False
 | _,.zC _ _ n k,L=>n≤maxLen→k.jb L
 | _,.Q7 _ c _ _ x y,L=>(c=true→x.jb L)∧(c=false→y.jb L)
 | _,.O2 _ n k1 k2,L=>(n=0→k1.jb L∧k1.val=k2.val)∧k2.jb L
 | _,.fz _ k,L=>k.jb L
 | _,.op _ k,L=>∀ m,(k m).val=(k []).val∧(k m).jb L
 | _,.cl _ _ k,L=>k.jb L
 | _,.oq _ q k,L=>∀ m,q m→(k m).val=(k (canon q)).val∧(k m).jb L
 | _,.cq _ m q k,L=>q m∧k.jb L
 | _,.K1 _ x c k,L=>(0≤x∧x≤(c.n:Int))∧k.jb L
 | _,.mr n V init _ _ b k,L=>V init∧(∀ g i,V g→i < n→(b g i).cC V∧(b g i).jb fun _=>True)∧(∀ g i j,V g→i < n→j < n→i≠j→(b (b g j).val i).val=(b (b g i).val j).val)∧∀ g,g=(List.range n).foldr (fun i g=>(b g i).val) init→V g→(k g).jb L
 | _,.bind _ J s _ k,L=>s.jb (nU L J)∧∀ b,(s.aI=false→s.val=.inr b)→J b→(k b).jb L
 | _,.loop _ I m i0 _ b,L=>I i0∧∀ i,I i→(b i).jb (fL L fun j=>I j∧m j < m i)
 | _,.rf it I B _ s0 _ _ b k,L=>it.pre∧I 0 s0∧(∀ i s y,I i s→it.ys[i]? = some y→(b s y).cx (fL B (I (i+1)))∧(b s y).jb (fL B (I (i+1))))∧∀ r,fL B (I it.ys.length) r→(k r).jb L
theorem Sk.aX:{α:Type}→(s:Sk α)→{L:α→Prop}→s.cx L→s.cC L
 | _,.fin _,_,h=>h
 | _,.br _ x y,_,h=>⟨fun e=>x.aX (h.1 e),fun e=>y.aX (h.2 e)⟩
 | _,.r _ _ k,_,h=>fun x e p=>(k x).aX (h x e p)
 | _,.wi _ _ _ k,L,h=>k.aX (L:=L) h
 | _,.wn _ _ _ k,L,h=>k.aX (L:=L) h
 | _,.HZ k,L,h=>k.aX (L:=L) h
 | _,.H0 k,L,h=>k.aX (L:=L) h
 | _,.dead _,_,h=>h
 | _,.zC _ _ _ k,L,h=>k.aX (L:=L) h
 | _,.Q7 _ _ _ _ x y,_,h=>⟨fun e=>x.aX (h.1 e),fun e=>y.aX (h.2 e)⟩
 | _,.O2 _ _ _ k,L,h=>k.aX (L:=L) h
 | _,.fz _ k,L,h=>k.aX (L:=L) h
 | _,.op _ k,L,h=>(k []).aX (L:=L) h
 | _,.cl _ _ k,L,h=>k.aX (L:=L) h
 | _,.oq _ _ k,L,h=>⟨h.1,fun m hm=>(k m).aX (L:=L) (h.2 m hm)⟩
 | _,.cq _ _ _ k,L,h=>k.aX (L:=L) h
 | _,.K1 _ _ _ k,L,h=>k.aX (L:=L) h
 | _,.mr _ _ _ _ _ b k,_,h=>⟨h.1,fun g i hg hi=>(b g i).aX (h.2.1 g i hg hi),fun g e hg=>(k g).aX (h.2.2 g e hg)⟩
 | _,.bind _ _ s _ k,_,h=>⟨s.aX h.1,fun b e hb=>(k b).aX (h.2 b (fun _=>e) hb)⟩
 | _,.loop _ _ _ _ _ b,_,h=>⟨h.1,fun i hi=>(b i).aX (h.2 i hi)⟩
 | _,.rf _ _ _ _ _ _ _ b k,_,h=>⟨h.1,fun i s y hs hy=>(b s y).aX (h.2.1 i s y hs hy),fun r _ hr=>(k r).aX (h.2.2 r hr)⟩
theorem Sk.aU:{α:Type}→(s:Sk α)→{L:α→Prop}→s.jb L→s.aZ L
 | _,.fin _,_,h=>h
 | _,.br _ x y,_,h=>⟨fun e=>x.aU (h.1 e),fun e=>y.aU (h.2 e)⟩
 | _,.r _ _ k,_,h=>⟨h.1,fun x e p=>(k x).aU (h.2 x e p)⟩
 | _,.wi _ _ _ k,L,h=>⟨h.1,k.aU (L:=L) h.2⟩
 | _,.wn _ _ _ k,L,h=>⟨h.1,k.aU (L:=L) h.2⟩
 | _,.HZ k,L,h=>k.aU (L:=L) h
 | _,.H0 k,L,h=>k.aU (L:=L) h
 | _,.dead _,_,h=>h.elim
 | _,.zC _ _ _ k,L,h=>fun hn=>k.aU (L:=L) (h hn)
 | _,.Q7 _ _ _ _ x y,_,h=>⟨fun e=>x.aU (h.1 e),fun e=>y.aU (h.2 e)⟩
 | _,.O2 _ _ k1 k2,L,h=>⟨fun e=>⟨k1.aU (L:=L) (h.1 e).1,(h.1 e).2⟩,k2.aU (L:=L) h.2⟩
 | _,.fz _ k,L,h=>k.aU (L:=L) h
 | _,.op _ k,L,h=>fun m=>⟨(h m).1,(k m).aU (h m).2⟩
 | _,.cl _ _ k,L,h=>k.aU (L:=L) h
 | _,.oq _ _ k,L,h=>fun m hm=>⟨(h m hm).1,(k m).aU (h m hm).2⟩
 | _,.cq _ _ _ k,L,h=>⟨h.1,k.aU (L:=L) h.2⟩
 | _,.K1 _ _ _ k,L,h=>⟨h.1,k.aU (L:=L) h.2⟩
 | _,.mr _ _ _ _ _ b k,_,h=>⟨h.1,fun g i hg hi=>⟨(h.2.1 g i hg hi).1,(b g i).aU (h.2.1 g i hg hi).2⟩,h.2.2.1,fun g e hg=>(k g).aU (h.2.2.2 g e hg)⟩
 | _,.bind _ _ s _ k,_,h=>⟨s.aU h.1,fun b e hb=>(k b).aU (h.2 b (fun _=>e) hb)⟩
 | _,.loop _ _ _ _ _ b,_,h=>⟨h.1,fun i hi=>(b i).aU (h.2 i hi)⟩
 | _,.rf _ _ _ _ _ _ _ b k,_,h=>⟨h.1,h.2.1,fun i s y hs hy=>⟨(b s y).aX (h.2.2.1 i s y hs hy).1,(b s y).aU (h.2.2.1 i s y hs hy).2⟩,fun r _ hr=>(k r).aU (h.2.2.2 r hr)⟩
theorem sJ {α:Type} (l:List α) {i:Nat} (h:i < l.length) (x d:α):(l.set i x).getD i d=x:=by simp [List.getD,h]
theorem sK {α:Type} (l:List α) {i j:Nat} (h:j≠i) (x d:α):(l.set i x).getD j d=l.getD j d:=by simp [List.getD,List.getElem?_set_ne (fun e=>h e.symm)]
def walk {α σ β:Type} (step:α→σ→β ⊕ σ) (fin:σ→β):List α→σ→β
 | [],s=>fin s
 | x :: r,s=>match step x s with
  | .inl b=>b
  | .inr s'=>walk step fin r s'
theorem iter_walk {α σ β ι:Type} [Inhabited α] (l:List α) (pack:σ→Nat→ι) {f:ι→β ⊕ ι} {d:β} (step:α→σ→β ⊕ σ) (fin:σ→β)
  (hs:∀ s i,i < l.length→f (pack s i)=match step (l.getD i default) s with | .inl b=>.inl b | .inr s'=>.inr (pack s' (i+1)))
  (he:∀ s,f (pack s l.length)=.inl (fin s)):∀ (n i:Nat) (s:σ),i≤l.length→l.length - i < n→iter f d n (pack s i)=walk step fin (l.drop i) s
 | 0,i,s,_,hn=>absurd hn (by omega)
 | n+1,i,s,hi,hn=>by
  simp only [iter]
  by_cases h:i < l.length
  ·rw [hs s i h,List.drop_eq_getElem_cons h,show l.getD i default=l[i] from by simp [List.getD,h]]
   simp only [walk]
   cases kE:step l[i] s with
   | inl b=>rfl
   | inr s'=>exact iter_walk l pack step fin hs he n (i+1) s' h (by omega)
  ·obtain rfl:i=l.length:=by omega
   rw [he s,List.drop_length]
   rfl
theorem l9 {α σ β ι:Type} [Inhabited α] (l:List α) (pack:σ→Nat→ι) {f:ι→β ⊕ ι} {d:β} (step:α→σ→β ⊕ σ) (fin:σ→β)
  (hs:∀ s i,i < l.length→f (pack s i)=match step (l.getD i default) s with | .inl b=>.inl b | .inr s'=>.inr (pack s' (i+1)))
  (he:∀ s,f (pack s l.length)=.inl (fin s)) {n:Nat} (hn:l.length < n) (s:σ):iter f d n (pack s 0)=walk step fin l s:=by
 have:=iter_walk (d:=d) l pack step fin hs he n 0 s (Nat.zero_le _) (by omega)
 simpa using this
theorem qS {α σ β:Type} (g:α→σ→σ) (fin:σ→β):∀ (l:List α) (s:σ),walk (fun x s=>.inr (g x s)) fin l s=fin (l.foldl (fun s x=>g x s) s)
 | [],_=>rfl
 | x :: r,s=>by simp only [walk,List.foldl_cons]; exact qS g fin r (g x s)
theorem ru {α:Type} {l:List α} {i:Nat} (h:i < l.length) (d:α):l.getD i d∈l:=by
 rw [show l.getD i d=l[i] from by simp [List.getD,h]]
 exact List.getElem_mem h
theorem Nt {α:Type} [Inhabited α] (L:List α) (lo n:Nat):(qt L lo n).length=n:=by simp [qt]
theorem Gg (n:Int):IntKind.u64.wrap n=n % 18446744073709551616:=rfl
theorem il (n:Int):0≤IntKind.u64.wrap n∧IntKind.u64.wrap n < 18446744073709551616:=by
 rw [Gg]; omega
theorem dL {n:Int} (h:0≤n) (h2:n < 18446744073709551616):IntKind.u64.wrap n=n:=by
 rw [Gg]; omega
theorem Kc (n:Int):IntKind.u8.wrap n=n % 256:=rfl
theorem Cu {a b:Int} (k:IntKind) (h:0≤b∧b≤k.bits):cQ k a b=a / 2 ^ b.toNat:=by
 unfold cQ
 rw [Nat.min_eq_left (by omega),Int.fdiv_eq_ediv_of_nonneg _ (Int.le_of_lt (Int.pow_pos (by omega)))]
theorem PN {a b:Int} (h:0≤b∧b≤64):dK .u64 a b=(a * 2 ^ b.toNat) % 18446744073709551616:=by
 unfold dK
 have:IntKind.u64.bits=64:=rfl
 rw [this,Nat.min_eq_left (by omega),Gg]
theorem LN:(∀ (p:Prop) [Decidable p],(decide p=true)=p)∧(∀ (p:Prop) [Decidable p],decide p=false↔¬ p) ∧
  (∀ (α:Type) (a b:List α),(a++b).length=a.length+b.length)∧(∀ (α:Type) (x:α) (a:List α),(x :: a).length=a.length+1)∧(∀ α:Type,([]:List α).length=0) ∧
  (∀ (α:Type) (a:List α) (i:Nat) (x:α),(a.set i x).length=a.length)∧(∀ (α:Type) (n:Nat) (x:α),(List.replicate n x).length=n) ∧
  (∀ b:Bool,(¬ b=true)=(b=false))∧(∀ b:Bool,(¬ b=false)=(b=true))∧(∀ a b:Int,¬ a < b↔b≤a)∧(∀ a b:Int,¬ a≤b↔b < a) ∧
  (∀ a b:Bool,((a&&b)=true)=(a=true∧b=true))∧(∀ a b:Bool,((a||b)=true)=(a=true∨b=true))∧(∀ a b:Bool,(a&&b)=false↔a=false∨b=false)∧(∀ a b:Bool,(a||b)=false↔a=false∧b=false) ∧
  (∀ a b:Bool,(!a)=b↔a = !b)∧((!true)=false)∧((!false)=true) ∧
  (∀ (α:Type) [BEq α] [LawfulBEq α] (a b:α),(a == b)=true↔a=b)∧(∀ (α:Type) [BEq α] [LawfulBEq α] (a b:α),(a != b)=true↔a≠b) ∧
  (∀ (α:Type) [BEq α] [LawfulBEq α] (a b:α),(a == b)=false↔a≠b)∧(∀ (α:Type) [BEq α] [LawfulBEq α] (a b:α),(a != b)=false↔a=b) ∧
  (∀ (α:Type) (a b:α),(a≠b) = ¬ a=b)∧(∀ (α:Type) [Inhabited α] (L:List α) (lo n:Nat),(qt L lo n).length=n) :=
 ⟨fun _ _=>decide_eq_true_eq,fun _ _=>decide_eq_false_iff_not,fun _ _ _=>List.length_append,fun _ _ _=>rfl,fun _=>rfl,fun _ _ _ _=>List.length_set,fun _ _ _=>List.length_replicate,
  Bool.not_eq_true,Bool.not_eq_false,fun _ _=>Int.not_lt,fun _ _=>Int.not_le,Bool.and_eq_true,Bool.or_eq_true,fun _ _=>Bool.and_eq_false_iff,fun _ _=>Bool.or_eq_false_iff,
  fun _ _=>Bool.not_eq_eq_eq_not,rfl,rfl,fun _ _ _ _ _=>beq_iff_eq,fun _ _ _ _ _=>bne_iff_ne,fun _ _ _ _ _=>beq_eq_false_iff_ne,fun _ _ _ _ _=>bne_eq_false_iff_eq,fun _ _ _=>rfl,fun _ _=>Nt⟩
theorem ON:(∀ (x:Unit),aY.z.post x=True) ∧
 (∀ (p:Prop) (x:Unit),(aY.p p).post x=True) ∧
 (∀ {p:Prop} (h:p) (x:Unit),(aY.t h).post x=True) ∧
 (∀ (p:Prop) {q:Prop} (h:q) (x:Unit),(aY.pt p h).post x=True) ∧
 (∀ (l:List yn) (x:Unit),(aY.o l).post x=True) ∧
 (∀ {α β:Type} (a:aY α) (b:aY β) (x:α × β),(a.and b).post x=(a.post x.1∧b.post x.2)) ∧
 (∀ {β:Type} (a:aY Unit) (b:aY β) (x:β),(a.al b).post x=b.post x) ∧
 (∀ {β:Type} (a:aY β) (b:aY Unit) (x:β),(a.Ba b).post x=a.post x) ∧
 (∀ {β:Type} (e w:Bool) (a:aY β) (x:β),(a.wh e w).post x=a.post x) ∧
 (∀ {α β:Type} (a:aY α) (b:α→aY β) (x:α × β),(a.dep b).post x=(a.post x.1∧(b x.1).post x.2)) ∧
 (∀ {α:Type} (a:aY α) (b:α→aY Unit) (x:α),(a.mM b).post x=a.post x) ∧
 (∀ {β:Type} (c:gV β) (x:β),c.c.post x=c.post x) ∧
 (∀ {β:Type} (c:gV β) (i:Nat) (h:∃ g,c.args[i]? = some (.d (.sl 0 g))) (x:β),(c.nil i h).post x=c.post x) ∧
 (∀ {β:Type} (c:gV β) (i j:Nat) (cs:List D) (h:c.args[i]? = some (.d (.agg cs))) (h2:∃ g,cs[j]? = some (.sl 0 g)) (x:β),(c.Bb i j cs h h2).post x=c.post x) ∧
 (aY.z.pre=True) ∧
 (∀ (p:Prop),(aY.p p).pre=p) ∧
 (∀ {p:Prop} (h:p),(aY.t h).pre=True) ∧
 (∀ (p:Prop) {q:Prop} (h:q),(aY.pt p h).pre=p) ∧
 (∀ (l:List yn),(aY.o l).pre=True) ∧
 (∀ {α β:Type} (a:aY α) (b:aY β),(a.and b).pre=(a.pre∧b.pre)) ∧
 (∀ {β:Type} (a:aY Unit) (b:aY β),(a.al b).pre=(a.pre∧b.pre)) ∧
 (∀ {β:Type} (a:aY β) (b:aY Unit),(a.Ba b).pre=(a.pre∧b.pre)) ∧
 (∀ {β:Type} (e w:Bool) (a:aY β),(a.wh e w).pre=(e=w→a.pre)) ∧
 (∀ {α β:Type} (a:aY α) (b:α→aY β),(a.dep b).pre=(a.pre∧∀ x,x=a.v→a.post x→(b x).pre)) ∧
 (∀ {α:Type} (a:aY α) (b:α→aY Unit),(a.mM b).pre=(a.pre∧∀ x,x=a.v→a.post x→(b x).pre)) ∧
 (∀ {α β:Type} (a:aY α) (b:α→aY β),(a.dep b).v=(a.v,(b a.v).v)) ∧
 (∀ {α:Type} (a:aY α) (b:α→aY Unit),(a.mM b).v=a.v) ∧
 (∀ {β:Type} (c:gV β),c.c.pre=c.pre) ∧
 (∀ {β:Type} (c:gV β),c.c.v=c.v) ∧
 (∀ {β:Type} (c:gV β) (i:Nat) (h:∃ g,c.args[i]? = some (.d (.sl 0 g))),(c.nil i h).pre=c.pre) ∧
 (∀ {β:Type} (c:gV β) (i:Nat) (h:∃ g,c.args[i]? = some (.d (.sl 0 g))),(c.nil i h).v=c.v) ∧
 (∀ {β:Type} (c:gV β) (i j:Nat) (cs:List D) (h:c.args[i]? = some (.d (.agg cs))) (h2:∃ g,cs[j]? = some (.sl 0 g)),(c.Bb i j cs h h2).pre=c.pre) ∧
 (∀ {β:Type} (c:gV β) (i j:Nat) (cs:List D) (h:c.args[i]? = some (.d (.agg cs))) (h2:∃ g,cs[j]? = some (.sl 0 g)),(c.Bb i j cs h h2).v=c.v) ∧
 (∀ {α β:Type} (a:aY α) (b:aY β),(a.and b).v=(a.v,b.v)) ∧
 (∀ {β:Type} (a:aY Unit) (b:aY β),(a.al b).v=b.v) ∧
 (∀ {β:Type} (a:aY β) (b:aY Unit),(a.Ba b).v=a.v) ∧
 (∀ {β:Type} (e w:Bool) (a:aY β),(a.wh e w).v=a.v) ∧
 (∀ {β:Type} (c:gW β),c.c.pre=c.pre) ∧
 (∀ {β:Type} (c:gW β),c.c.v=c.v) ∧
 (∀ {β:Type} (c:gW β) (i:Nat) (h:∃ g,c.args[i]? = some (.d (.sl 0 g))),(c.nil i h).pre=c.pre) ∧
 (∀ {β:Type} (c:gW β) (i:Nat) (h:∃ g,c.args[i]? = some (.d (.sl 0 g))),(c.nil i h).v=c.v) ∧
 (∀ {β:Type} (c:gW β) (x:β),c.c.post x=c.post x) ∧
 (∀ {β:Type} (c:gW β) (i:Nat) (h:∃ g,c.args[i]? = some (.d (.sl 0 g))) (x:β),(c.nil i h).post x=c.post x) ∧
 (∀ {α β:Type} (L:α→Prop) (J:β→Prop) (a:α),nU L J (.inl a)=L a) ∧
 (∀ {α β:Type} (L:α→Prop) (J:β→Prop) (b:β),nU L J (.inr b)=J b) ∧
 (∀ {α β:Type} (L:α→Prop) (J:β→Prop) (a:α),fL L J (.inl a)=L a) ∧
 (∀ {α β:Type} (L:α→Prop) (J:β→Prop) (b:β),fL L J (.inr b)=J b) ∧
 (∀ (i:Int) (n:Nat),bA i n=(0≤i∧i < (n:Int))) ∧
 (∀ n m bytes:Nat,yw n m bytes=(n+m≤maxLen∧(n+m) * bytes≤140737488355328)) ∧
 (∀ (n:Int) (bytes:Nat),Ti n bytes=(0≤n∧n.toNat≤maxLen∧n.toNat * bytes≤140737488355328)) ∧
 (∀ α:Prop,(α→True)=True) ∧
 (∀ α:Type,(α→True)=True) ∧
 (∀ p:Prop,(True∧p)=p) ∧
 (∀ p:Prop,(p∧True)=p) ∧
 (∀ p:Prop,(p∧p)=p) ∧
 (∀ p:Prop,(True→p)=p) ∧
 (∀ p:Prop,(False→p)=True):=by
 refine ⟨?_,?_,?_,?_,?_,?_,?_,?_,?_,?_,?_,?_,?_,?_,?_,?_,?_,?_,?_,?_,?_,?_,?_,?_,?_,?_,?_,?_,?_,?_,?_,?_,?_,?_,?_,?_,?_,?_,?_,?_,?_,?_,?_,?_,?_,?_,?_,?_,?_,?_,?_,?_,?_,?_,?_,?_,?_⟩
 all_goals first | rfl | (intros; rfl) | (intros; simp)
def kk {P:Program} {T:List (Nat × TI)} (hT:la P T) (hm:P.follows .mixedOrders=true) {f:FuncId} {fn:Func} (hf:P.funcs[f]? = some fn) (args:List AV) {α:Type} (enc:α→AV) (fl:Bool) (s:Sk α) (v:α) {pre:Prop} (ok:pre→s.aZ fun _=>True)
  (post:α→Prop:=fun _=>True) (hp:post v:=by trivial) (hv:v=s.val:=by exact id rfl) (n:Nat:=3000) (hb:fn.body.isSome=true:=by exact id (by kernel_rfl)) (hc:(ev P f&&Nat.ble args.length fn.ntmps)=true:=by exact id (by kernel_rfl))
  (h:mK P T fn.ntmps fn.results.toList (A6 fn.results.toList) 0 [] n [.code (fn.body.get hb)] ⟨du 0 args,[]⟩ (fun a=>.ret (enc a) []) s=(mK P T fn.ntmps fn.results.toList (A6 fn.results.toList) 0 [] n [.code (fn.body.get hb)] ⟨du 0 args,[]⟩ (fun a=>.ret (enc a) []) s).diag:=by exact id (by kernel_rfl)):gV α :=
 ⟨P,f,args,enc,fl,v,pre,fun hp=>hv ▸ fA.sk hT hm enc (fun _=>[]) hf (Option.some_get hb).symm hc n s h (ok hp),post,hp⟩
theorem u0 {c:Prop} (f:c) (_:True):c:=f
theorem u2 {a b c:Prop} (f:a→b→c) (h:a∧b):c:=f h.1 h.2
theorem u3 {a b c d:Prop} (f:a→b→c→d) (h:a∧b∧c):d:=f h.1 h.2.1 h.2.2
theorem u4 {a b c d e:Prop} (f:a→b→c→d→e) (h:a∧b∧c∧d):e:=f h.1 h.2.1 h.2.2.1 h.2.2.2
theorem u5 {a b c d e g:Prop} (f:a→b→c→d→e→g) (h:a∧b∧c∧d∧e):g:=f h.1 h.2.1 h.2.2.1 h.2.2.2.1 h.2.2.2.2
theorem u6 {a b c d e g i:Prop} (f:a→b→c→d→e→g→i) (h:a∧b∧c∧d∧e∧g):i:=f h.1 h.2.1 h.2.2.1 h.2.2.2.1 h.2.2.2.2.1 h.2.2.2.2.2
theorem u7 {a b c d e g i j:Prop} (f:a→b→c→d→e→g→i→j) (h:a∧b∧c∧d∧e∧g∧i):j:=f h.1 h.2.1 h.2.2.1 h.2.2.2.1 h.2.2.2.2.1 h.2.2.2.2.2.1 h.2.2.2.2.2.2
def kp {P:Program} {T:List (Nat × TI)} (hT:la P T) (hm:P.follows .mixedOrders=true) {f:FuncId} {fn:Func} (hf:P.funcs[f]? = some fn) (args:List AV) {α:Type} (enc:α→AV) (fl:Bool) {s:Sk α} (v:α) {pre:Prop} (ok:pre→s.aZ fun _=>True)
  {post:α→Prop} (hq:s.cC post) (hv:v=s.val:=by exact id rfl) (n:Nat:=3000) (hb:fn.body.isSome=true:=by exact id (by kernel_rfl)) (hc:(ev P f&&Nat.ble args.length fn.ntmps)=true:=by exact id (by kernel_rfl))
  (h:mK P T fn.ntmps fn.results.toList (A6 fn.results.toList) 0 [] n [.code (fn.body.get hb)] ⟨du 0 args,[]⟩ (fun a=>.ret (enc a) []) s=(mK P T fn.ntmps fn.results.toList (A6 fn.results.toList) 0 [] n [.code (fn.body.get hb)] ⟨du 0 args,[]⟩ (fun a=>.ret (enc a) []) s).diag:=by exact id (by kernel_rfl)):gV α :=
 ⟨P,f,args,enc,fl,v,pre,fun hp=>hv ▸ fA.sk hT hm enc (fun _=>[]) hf (Option.some_get hb).symm hc n s h (ok hp),post,hv ▸ Sk.cZ s hq⟩
@[simp] theorem adP {P:Program} {T:List (Nat × TI)} (hT:la P T) (hm:P.follows .mixedOrders=true) {f:FuncId} {fn:Func} (hf:P.funcs[f]? = some fn) (args:List AV) {α:Type} (enc:α→AV) (fl:Bool) (s:Sk α) (v:α) {pre:Prop} (ok:pre→s.aZ fun _=>True) (post:α→Prop) (hp:post v) (hv:v=s.val) (n:Nat) (hb:fn.body.isSome=true) (hc:(ev P f&&Nat.ble args.length fn.ntmps)=true) (h:mK P T fn.ntmps fn.results.toList (A6 fn.results.toList) 0 [] n [.code (fn.body.get hb)] ⟨du 0 args,[]⟩ (fun a=>.ret (enc a) []) s=(mK P T fn.ntmps fn.results.toList (A6 fn.results.toList) 0 [] n [.code (fn.body.get hb)] ⟨du 0 args,[]⟩ (fun a=>.ret (enc a) []) s).diag):(kk hT hm hf args enc fl s v ok post hp hv n hb hc h).v=v:=rfl
@[simp] theorem ac2 {P:Program} {T:List (Nat × TI)} (hT:la P T) (hm:P.follows .mixedOrders=true) {f:FuncId} {fn:Func} (hf:P.funcs[f]? = some fn) (args:List AV) {α:Type} (enc:α→AV) (fl:Bool) (s:Sk α) (v:α) {pre:Prop} (ok:pre→s.aZ fun _=>True) (post:α→Prop) (hp:post v) (hv:v=s.val) (n:Nat) (hb:fn.body.isSome=true) (hc:(ev P f&&Nat.ble args.length fn.ntmps)=true) (h:mK P T fn.ntmps fn.results.toList (A6 fn.results.toList) 0 [] n [.code (fn.body.get hb)] ⟨du 0 args,[]⟩ (fun a=>.ret (enc a) []) s=(mK P T fn.ntmps fn.results.toList (A6 fn.results.toList) 0 [] n [.code (fn.body.get hb)] ⟨du 0 args,[]⟩ (fun a=>.ret (enc a) []) s).diag):(kk hT hm hf args enc fl s v ok post hp hv n hb hc h).pre=pre:=rfl
@[simp] theorem abR {P:Program} {T:List (Nat × TI)} (hT:la P T) (hm:P.follows .mixedOrders=true) {f:FuncId} {fn:Func} (hf:P.funcs[f]? = some fn) (args:List AV) {α:Type} (enc:α→AV) (fl:Bool) (s:Sk α) (v:α) {pre:Prop} (ok:pre→s.aZ fun _=>True) (post:α→Prop) (hp:post v) (hv:v=s.val) (n:Nat) (hb:fn.body.isSome=true) (hc:(ev P f&&Nat.ble args.length fn.ntmps)=true) (h:mK P T fn.ntmps fn.results.toList (A6 fn.results.toList) 0 [] n [.code (fn.body.get hb)] ⟨du 0 args,[]⟩ (fun a=>.ret (enc a) []) s=(mK P T fn.ntmps fn.results.toList (A6 fn.results.toList) 0 [] n [.code (fn.body.get hb)] ⟨du 0 args,[]⟩ (fun a=>.ret (enc a) []) s).diag):(kk hT hm hf args enc fl s v ok post hp hv n hb hc h).post=post:=rfl
theorem okT {p:Prop} (h:p:=by
 all_goals (repeat' first | assumption | (apply And.intro) | (intro h))
 all_goals first | trivial | assumption | omega | ((try simp only [LN] at *) <;> first | omega | (refine (aD ?_ ?_).trans ?_ <;> omega) | (simp (disch:=omega) only [aD] at *; omega) | (grind) | (simp_all; done) | (simp_all; omega))):p:=h
theorem aa2 {p:Prop} (h:p:=by
 all_goals (repeat' first | assumption | (apply And.intro) | (intro h))
 all_goals first | trivial | assumption | omega | ((try simp only [LN] at *) <;> first | omega | (refine (aD ?_ ?_).trans ?_ <;> omega) | (simp (disch:=omega) only [aD] at *; omega) | (grind) | (simp (disch:=omega) only [aD] at *; grind) | (simp_all; done) | (simp_all; omega))):p:=h
theorem mO {p:Prop} (h:p:=by
 refine Sk.aU _ ?_
 simp only [Sk.jb,Sk.aI,reduceCtorEq,nU,fL,aY.z,aY.p,aY.t,aY.pt,aY.o,aY.and,aY.al,aY.Ba,aY.wh,aY.dep,aY.mM,gV.c,kk,kp,gV.nil,gV.Bb,gW.c,gW.nil,Sk.cC,Sk.cx,maxLen,implies_true,true_and,and_true,and_self,true_implies,false_implies,bA,yw,Ti]):p:=h
theorem mu {p:Prop} (h:p:=by
 refine Sk.aU _ ?_
 simp only [Sk.jb,Sk.aI,reduceCtorEq,nU,fL,aY.z,aY.p,aY.t,aY.pt,aY.o,aY.and,aY.al,aY.Ba,aY.wh,aY.dep,aY.mM,gV.c,kk,kp,gV.nil,gV.Bb,gW.c,gW.nil,Sk.cC,Sk.cx,maxLen,implies_true,true_and,and_true,and_self,true_implies,false_implies,bA,yw,Ti]
 all_goals (repeat' first | assumption | (apply And.intro) | (intro h))
 all_goals first | trivial | assumption | omega | ((try simp only [LN] at *) <;> first | omega | (refine (aD ?_ ?_).trans ?_ <;> omega) | (simp (disch:=omega) only [aD] at *; omega) | (grind) | (simp_all; done) | (simp_all; omega))):p:=h
theorem wx {p:Prop} (h:p:=by
 refine Sk.aU _ ?_
 simp only [Sk.jb,Sk.aI,reduceCtorEq,nU,fL,aY.z,aY.p,aY.t,aY.pt,aY.o,aY.and,aY.al,aY.Ba,aY.wh,aY.dep,aY.mM,gV.c,kk,kp,gV.nil,gV.Bb,gW.c,gW.nil,Sk.cC,Sk.cx,forall_eq,Sum.forall,maxLen,implies_true,true_and,and_true,and_self,true_implies,false_implies,bA,yw,Ti]
 all_goals (repeat' first | assumption | (apply And.intro) | (intro h))
 all_goals first | trivial | assumption | omega | ((try simp only [LN] at *) <;> first | omega | (refine (aD ?_ ?_).trans ?_ <;> omega) | (simp (disch:=omega) only [aD] at *; omega) | (grind) | (simp_all; done) | (simp_all; omega))):p:=h
theorem B7 {p:Prop} (h:p:=by
 refine Sk.aX _ ?_
 simp only [Sk.aI,reduceCtorEq,nU,fL,aY.z,aY.p,aY.t,aY.pt,aY.o,aY.and,aY.al,aY.Ba,aY.wh,aY.dep,aY.mM,gV.c,kk,kp,gV.nil,gV.Bb,gW.c,gW.nil,Sk.cx,maxLen,implies_true,true_and,and_true,and_self,true_implies,false_implies,bA,yw,Ti]
 all_goals (repeat' first | assumption | (apply And.intro) | (intro h))
 all_goals first | trivial | assumption | omega | ((try simp only [LN] at *) <;> first | omega | (refine (aD ?_ ?_).trans ?_ <;> omega) | (simp (disch:=omega) only [aD] at *; omega) | (grind) | (simp_all; done) | (simp_all; omega))):p:=h
theorem O3 {p:Prop} (h:p:=by
 refine Sk.aX _ ?_
 simp only [Sk.aI,reduceCtorEq,nU,fL,aY.z,aY.p,aY.t,aY.pt,aY.o,aY.and,aY.al,aY.Ba,aY.wh,aY.dep,aY.mM,gV.c,kk,kp,gV.nil,gV.Bb,gW.c,gW.nil,Sk.cx,forall_eq,Sum.forall,maxLen,implies_true,true_and,and_true,and_self,true_implies,false_implies,bA,yw,Ti]
 all_goals (repeat' first | assumption | (apply And.intro) | (intro h))
 all_goals first | trivial | assumption | omega | ((try simp only [LN] at *) <;> first | omega | (refine (aD ?_ ?_).trans ?_ <;> omega) | (simp (disch:=omega) only [aD] at *; omega) | (grind) | (simp_all; done) | (simp_all; omega))):p:=h
theorem PO {α σ β:Type} {step:α→σ→β ⊕ σ} {I:Nat→σ→Prop} {Q:β→Prop}:∀ (l:List α) (k0:Nat) (s:σ),(∀ k x s,x∈l→I k s→match step x s with | .inl b=>Q b | .inr s'=>I (k+1) s')→I k0 s →
  (∃ b,Q b∧∀ fin,walk step fin l s=b)∨∃ s',I (k0+l.length) s'∧∀ fin,walk step fin l s=fin s'
 | [],k0,s,_,h0=>.inr ⟨s,h0,fun _=>rfl⟩
 | x :: r,k0,s,h,h0=>by
  have hx:=h k0 x s (by simp) h0
  simp only [walk]
  cases hs:step x s with
  | inl b=>rw [hs] at hx; exact .inl ⟨b,hx,fun _=>rfl⟩
  | inr s' =>
   rw [hs] at hx
   rcases PO r (k0+1) s' (fun k y t hy=>h k y t (List.mem_cons_of_mem _ hy)) hx with ⟨b,q,e⟩ | ⟨t,q,e⟩
   ·exact .inl ⟨b,q,e⟩
   ·exact .inr ⟨t,by rw [List.length_cons,show k0+(r.length+1)=k0+1+r.length by omega]; exact q,e⟩
theorem Gh {α σ γ δ ι:Type} [Inhabited α] (l:List α) (pack:σ→Nat→ι) {f:ι→(γ ⊕ δ) ⊕ ι} {d:γ ⊕ δ} (step:α→σ→γ ⊕ σ) (fin:σ→δ) (g:δ→γ)
  (hs:∀ s i,i < l.length→f (pack s i)=match step (l.getD i default) s with | .inl b=>.inl (.inl b) | .inr s'=>.inr (pack s' (i+1)))
  (he:∀ s,f (pack s l.length)=.inl (.inr (fin s))) {n:Nat} (hn:l.length < n) (s:σ):ki (iter f d n (pack s 0)) g=walk step (fun s=>g (fin s)) l s:=by
 rw [l9 (d:=d) l pack (fun x s=>match step x s with | .inl b=>.inl (.inl b) | .inr s'=>.inr s') (fun s=>.inr (fin s)) (fun s i hi=>by rw [hs s i hi]; cases step (l.getD i default) s <;> rfl) he hn s]
 clear hs he
 induction l generalizing s with
 | nil=>rfl
 | cons x r ih =>
  simp only [walk]
  cases step x s with
  | inl b=>rfl
  | inr s'=>exact ih (by simp at hn; omega) s'
section
structure qu (P:Program) (fi:FuncId) (nt:Nat) (ys:List (List AV)) where
 l:Nat
 w0:World
 S:Nat→Prop
 J:Nat→(Nat→Prop)→World→Prop
 Jx:(Nat→Prop)→World→Prop
 jk:∀ i F W W',J i F W→Kept W W' (fun b=>w0.heap.size≤b∧¬ F b∧¬ S b)→J i F W'
 jxk:∀ F W W',Jx F W→Kept W W' (fun b=>w0.heap.size≤b∧¬ F b∧¬ S b)→Jx F W'
 yl:∀ i F W (vs:Array Value),i < ys.length→J i F W→(∀ ν,cP W (fun _=>False) (fun _=>none) ν (ys.getD i []) vs.toList)→YieldAt Fence.wide 0 P l vs W fun e W'=>∃ F',(∀ b,F' b→F b∨W.heap.size≤b)∧(∀ b,F' b→b < W'.heap.size)∧Kept W W' F∧((e=.returned (.bool true)∧J (i+1) F' W')∨(e=.returned (.bool false)∧Jx F' W'))
variable {P : Program} {fi : FuncId} {nt : Nat} {ys : List (List AV)}
def qu.yv (X:qu P fi nt ys):Value:=.func (.yield X.l) #[] #[]
structure qu.Rt (X:qu P fi nt ys) (F:Nat→Prop) (C:Cx):Prop where
 dl:C.dl=[]
 sz:X.w0.heap.size≤C.w0.heap.size
 sub:∀ b,X.S b→C.S0 b
 Zp:∀ b,C.S0 b→¬ F b
 zC:∀ b,F b→b < C.w0.heap.size
 own:∀ b,C.T0 b→¬ F b∧X.w0.heap.size≤b
def qu.H (X:qu P fi nt ys) (i:Nat) (C:Cx):Prop:=∃ F,X.Rt F C∧X.J i F C.w0
def qu.Wq (X:qu P fi nt ys) (C:Cx):Prop:=∃ F,X.Rt F C∧X.Jx F C.w0
def qu.Fin (X:qu P fi nt ys) (cs:List Frame) (m:Machine):Prop:=∃ v w' fr,((∃ F,X.J ys.length F w')∨∃ F,X.Jx F w')∧Steps P m (lone fr cs w')∧fr.fn=fi∧fr.leaving P w' (.returned v)
theorem qu.Fin.steps {X:qu P fi nt ys} {cs:List Frame} {m m':Machine} (hs:Steps P m m') (h:X.Fin cs m'):X.Fin cs m :=
 let ⟨v,w',fr,q1,q2,q3⟩:=h
 ⟨v,w',fr,q1,hs.trans q2,q3⟩
def qu.g (X:qu P fi nt ys) (T:List (Nat × TI)) (fn:Func) (H:Cx→Prop):Goal :=
 ⟨P,T,nt,fi,fn,.any,[],2,[0],#[X.yv],fun C _ cs m=>H C→X.Fin cs m,fun _ _ cs m m' hs hz h=>.steps hs (hz h)⟩
theorem qu.Rt.still {X:qu P fi nt ys} {F:Nat→Prop} {C:Cx} {A:M} {a:Act} {w:World} {S:Nat→Prop} {μ:Mu} {ν:Nat→Bool} (hF:X.Rt F C) (h:cE C A a w S μ ν):Kept C.w0 w (fun b=>X.w0.heap.size≤b∧¬ F b∧¬ X.S b) :=
 h.kept.vV fun b hb=>⟨(hF.own b hb).2,(hF.own b hb).1,fun hs=>C.Zp b (hF.sub b hs) hb⟩
theorem qu.yield {X:qu P fi nt ys} {F:Nat→Prop} {C:Cx} {A:M} {a:Act} {w:World} {S:Nat→Prop} {μ:Mu} {i:Nat} (cG:∀ ν,cE C A a w S μ ν) (hF:X.Rt F C) (hJ:X.J i F C.w0) (hi:i < ys.length) {vs:Array Value}
  (hr:∀ ν,cP w (fun _=>False) (fun _=>none) ν (ys.getD i []) vs.toList):YieldAt Fence.wide 0 P X.l vs w fun e W'=>∃ C',C'.P=C.P∧C'.nt=C.nt∧(∀ ν,cE C' A a W' S μ ν)∧((e=.returned (.bool true)∧X.H (i+1) C')∨(e=.returned (.bool false)∧X.Wq C')):=by
 have h0:=cG fun _=>false
 obtain ⟨fn,tmps,Fe,body,h1,h2⟩:=X.yl i F w vs hi (X.jk _ _ _ _ hJ (hF.still h0)) hr
 refine ⟨fn,tmps,Fe,body,h1,h2.mono ?_⟩
 rintro e W' ⟨F',q1,q2,q3,q4⟩
 have gS:=h0.kept.size
 have nS:∀ b,S b→¬ F b:=fun b hb hf=>by
  rcases h0.fresh b hb with h | h | h
  ·exact hF.Zp b h hf
  ·have:=hF.zC b hf; omega
  ·exact (hF.own b h).1 hf
 have nO:∀ b,pS A μ b→¬ F b:=fun b hb hf=>by
  rcases h0.Nd hb with h | h
  ·have:=hF.zC b hf; omega
  ·exact (hF.own b h).1 hf
 have hS:∀ b,S b→W'.heap[b]? = w.heap[b]?:=fun b hb=>q3.block b (h0.bound b hb) (nS b hb)
 have rj:∀ ν,Core A a.tmps W' S μ ν:=fun ν=>(cG ν).core.keep (fun _=>.inr rfl) hS (fun q hq=>q3.block q (by obtain ⟨_,_,hb⟩:=h0.core.pA hq; exact hb.lt) (nO q hq)) q3.size
 have Xy:gT W' S:=h0.wL.mono (fun _ x=>x) hS
 have hrt:X.Rt F' (Cx.at C.P C.nt W' S A μ Xy (rj fun _=>false).mem (rj fun _=>false).bound [] (fun d h=>by cases h) List.nodup_nil):=by
  refine ⟨rfl,Nat.le_trans hF.sz (Nat.le_trans gS q3.size),fun b hb=>h0.dG b (hF.sub b hb),fun b hb hf=>?_,q2,fun b hb=>⟨fun hf=>?_,?_⟩⟩
  ·rcases q1 b hf with h | h
   ·exact nS b hb h
   ·have:=h0.bound b hb; omega
  ·rcases q1 b hf with h | h
   ·exact nO b hb h
   ·obtain ⟨_,_,kC⟩:=h0.core.pA hb
    have:=kC.lt
    omega
  ·rcases h0.Nd hb with h | h
   ·exact Nat.le_trans hF.sz h
   ·exact (hF.own b h).2
 refine ⟨Cx.at C.P C.nt W' S A μ Xy (rj fun _=>false).mem (rj fun _=>false).bound [] (fun d h=>by cases h) List.nodup_nil,rfl,rfl,fun ν=>(rj ν).sim h0.tmps _ _ _ _ _ _ (h0.defers.trans hF.dl),?_⟩
 exact q4.imp (fun ⟨a,b⟩=>⟨a,F',hrt,b⟩) (fun ⟨a,b⟩=>⟨a,F',hrt,b⟩)
def YW (X:qu P fi nt ys) (k:List Item) (ops:Array Oper) (H:Cx→Prop) (ya:List Nat) (kn:Option (Nat × Bool)) (l:List Nat) (st:St):Prop :=
 ∀ C:Cx,C.P=P→C.nt=nt→H C→∀ a w,(∀ u,u∈ya→a.tmps.getD u undef=X.yv)→(∀ s b,kn=some (s,b)→s < nt∧a.tmps.getD s undef=.bool b)→iH C st a w →
  wpOpsIn Fence.wide 0 P ops (fun e a' w'=>e=.normal∧∀ (b:Frame) (cs:List Frame),b.fn=fi→b.kind=.normal→b.roundOf=none→X.Fin cs (lone (b.atR a' k) cs w')) l a w
variable {X : qu P fi nt ys} {k : List Item} {ops : Array Oper} {H : Cx → Prop} {ya : List Nat} {kn : Option (Nat × Bool)} {l : List Nat} {st st' : St}
theorem YW.le (h:HW st st') (hg:YW X k ops H ya kn l st'):YW X k ops H ya kn l st:=fun C h1 h2 h3 a w h4 h5 h6=>hg C h1 h2 h3 a w h4 h5 (h C a w h6)
theorem YW.nil {T:List (Nat × TI)} {fn:Func} (h0:0∈ya) (h:G (X.g T fn H) k st):YW X k ops H ya kn [] st:=fun C h1 h2 h3 a w h4 _ h6 =>
 ⟨rfl,fun b cs e1 e2 e3=>h C h1 h2 a w (fun u hu=>by
  have hu:u=0:=by simpa [qu.g] using hu
  subst hu
  exact h4 0 h0) h6 b cs e1 e2 ⟨fun _=>by show (2:Nat)≠1; decide,fun _=>e3⟩ h3⟩
theorem Kd {P:Program} {o o':Oper} {a:Act} {w:World} {next next':Act→World→Prop} {Q Q':Exit→Act→World→Prop} {n:Nat} (ho:o'.op=o.op) (hd':o'.dst=o.dst) (ht:o'.type=o.type) (hd:∀ c,o.op≠.defer c) (hn:∀ a w,next a w→next' a w) (hq:∀ e a w,Q e a w→e=.normal) (h:o'.wp P a w next Q):o.wpIn Fence.wide n P a w next' Q':=by
 refine ⟨fun _ _=>trivial,?_⟩
 rw [Oper.semAt_eq _ _ _ hd]
 unfold Oper.wp at h
 have he:execOp a.eval o'=execOp a.eval o:=by
  unfold execOp
  rw [ho,ht]
 rw [he] at h
 generalize (execOp a.eval o).run P w=r at *
 have no:¬ LetsOut Q:=fun ⟨_,_,q⟩=>by cases hq _ _ _ q
 have hdp:(Fence.wide.depth.isSome=true→1≤n):=fun h=>by simp [Fence.wide] at h
 cases r with
 | ok x w' =>
  cases x <;> simp only [Oper.upon,Oper.uponIn,hd'] at h ⊢ <;>
   first
    | exact hn _ _ h
    | exact ⟨hdp,(callsIn_wide.2 h).mono (fun e Tj he=>by cases e <;> first | exact hn _ _ he | exact absurd (hq _ _ _ he) (by simp) | exact absurd he no)⟩
    | exact ⟨hdp,fun c cs _=>by obtain ⟨v,Tj,q,s⟩:=h c cs; exact ⟨v,Tj,hn _ _ q,stepsIn_wide.2 s⟩⟩
 | halt x w'=>cases x <;> simp only [Oper.upon,Oper.uponIn] at h ⊢ <;> first | exact h.elim | exact absurd (hq _ _ _ h) (by simp)
theorem Nu {P:Program} {pre ops:Array Oper} {Q Q':Exit→Act→World→Prop} {l:List Nat} (KE:∀ i,i < pre.size→ops[i]? = pre[i]?) (hg:(pre.toList.all fun o=>match o.guard with | some (j,_)=>Nat.blt j pre.size | none=>true)=true) (hd:jQ pre=true) (hq:∀ e a w,Q e a w→e=.normal) :
  ∀ (is:List Nat),(∀ i,i∈is→i < pre.size)→∀ a w,wpOps P pre Q is a w→(∀ a' w',Q .normal a' w'→wpOpsIn Fence.wide 0 P ops Q' l a' w')→wpOpsIn Fence.wide 0 P ops Q' (is++l) a w
 | [],_,a,w,h,hk=>hk a w h
 | i :: is,hi,a,w,h,hk=>by
  have di:=hi i (by simp)
  have ih:=Nu (P:=P) (l:=l) (Q':=Q') KE hg hd hq is (fun j hj=>hi j (by simp [hj]))
  simp only [wpOps,List.cons_append,wpOpsIn] at h ⊢
  rw [KE i di]
  cases ho:pre[i]? with
  | none=>rw [ho] at h; exact ih a w h hk
  | some o =>
   rw [ho] at h
   simp only at h ⊢
   have hw:Region.wanted o (yielded ops a.tmps)=Region.wanted o (yielded pre a.tmps):=by
    unfold Region.wanted
    cases Zt:o.guard with
    | none=>rfl
    | some jw =>
     obtain ⟨j,want⟩:=jw
     simp only [List.all_eq_true] at hg
     have:=hg o (by obtain ⟨hi,rfl⟩:=Array.getElem?_eq_some_iff.1 ho; simp)
     rw [Zt] at this
     have hj:j < pre.size:=by simpa using this
     simp only [yielded,KE j hj]
   rw [hw]
   split
   ·rename_i hw
    rw [if_pos hw] at h
    rcases h with h | ⟨_,_,_,q⟩
    ·exact Kd rfl rfl rfl (ri hd ho) (fun a' w' hh=>ih a' w' hh hk) hq h
    ·cases hq _ _ _ q
   ·rename_i hw
    rw [if_neg hw] at h
    exact ⟨fun _ _=>trivial,ih _ w h hk⟩
theorem Cv {l:List Nat} {o:Oper} (h:qd l #[o]=true) {a:Act} {v:Value} {u:Nat} (hu:u∈l):(a.put o.dst v).tmps.getD u undef=a.tmps.getD u undef:=by
 simp only [qd,List.all_eq_true] at h
 have h1:=h u hu o (by simp)
 cases hd:o.dst with
 | none=>rfl
 | some d =>
  rw [hd] at h1
  exact cw _ _ _ _ (fun e=>by subst e; simp at h1)
theorem Nv {l:List Nat} {pre:Array Oper} (h:qd l pre=true) {K:Array Value→Prop} (hK:∀ t t':Array Value,(∀ u,u∈l→t'.getD u undef=t.getD u undef)→K t→K t'):vZ pre K:=fun i o a v ho hk =>
 hK _ _ (fun u hu=>Cv (l:=l) (by
  simp only [qd,List.all_eq_true] at h ⊢
  intro t ht o' QI
  have:o'=o:=by simpa using QI
  subst this
  exact h t ht o' (by obtain ⟨hi,rfl⟩:=Array.getElem?_eq_some_iff.1 ho; simp)) hu) hk
def Wr:Option (Nat × Bool)→List Nat
 | some (s,_)=>[s]
 | none=>[]
theorem YW.pre {T:List (Nat × TI)} (hT:la P T) (hm:P.follows .mixedOrders=true) {pre:Array Oper} {ij:List yn} {ob:Ob} (KE:∀ i,i < pre.size→ops[i]? = pre[i]?) (hg:(pre.toList.all fun o=>match o.guard with | some (j,_)=>Nat.blt j pre.size | none=>true)=true) (hd:jQ pre=true) (UC:qd ya pre=true)
  (hr:mR P T nt pre false none st ij=some (st',ob)) (bH:ob.den) (h:YW X k ops H ya none l st'):YW X k ops H ya none (List.range pre.size++l) st:=by
 intro C h1 h2 h3 a w h4 h5 h6
 have hw:=zO (C:=C) (T:=T) (by rw [h1]; exact hT) (by rw [h1]; exact hm) (by rw [h1,h2]; exact hr) bH h6
 rcases hw with ⟨-,hw⟩ | ⟨e,-⟩
 ·rw [h1] at hw
  have hw:=qO (K:=fun t=>∀ u,u∈ya→t.getD u undef=X.yv) (Nv UC fun t t' he hk u hu=>(he u hu).trans (hk u hu)) (fun e a w h=>h.1) _ a w h4 hw
  exact Nu KE hg hd (fun e a w h=>h.1.1) _ (fun i hi=>List.mem_range.1 hi) a w hw fun a' w' hh=>h C h1 h2 h3 a' w' hh.2 (fun s b e=>by cases e) hh.1.2
 ·cases e
def Bd (ops:Array Oper) (kn:Option (Nat × Bool)) (o:Oper):Option Bool :=
 match o.guard with
 | none=>some true
 | some (j,w)=>(match yo ops j,kn with
  | some s,some (s',b)=>bif Nat.beq s s' then some (b == w) else none
  | _,_=>none)
theorem uf {o:Oper} {b:Bool} (h:Bd ops kn o=some b) {a:Act} (hk:∀ s b,kn=some (s,b)→s < a.tmps.size∧a.tmps.getD s undef=.bool b):Region.wanted o (yielded ops a.tmps)=b:=by
 unfold Bd at h
 unfold Region.wanted
 cases Zt:o.guard with
 | none=>rw [Zt] at h; simpa using h
 | some jw =>
  obtain ⟨j,want⟩:=jw
  rw [Zt] at h
  simp only at h ⊢
  split at h
  ·rename_i s s' b' hs
   rw [Bool.cond_eq_ite] at h
   split at h
   ·rename_i he
    have he:=Nat.eq_of_beq_eq_true he
    subst he
    obtain ⟨q1,q2⟩:=hk _ _ rfl
    rw [M6 hs q1,q2]
    simp only [Option.some.injEq] at h
    subst h
    cases b' <;> cases want <;> rfl
   ·cases h
  ·cases h
theorem iH.drop {C:Cx} {a:Act} {w:World} {d:Nat} (h:iH C st a w) (hd:d < C.nt) (v:Value):iH C ⟨aL [d] st.sl,st.lb⟩ (a.put (some d) v) w:=by
 obtain ⟨S,μ,hs⟩:=h
 refine ⟨S,μ,fun ν=>?_⟩
 have:=(hs ν).put (dst:=some d) (x:=.any) (v:=v) (fun t e=>by cases e; exact hd) (.any _)
 refine this.weaken (fun u x hx=>?_) (fun κ b hb=>⟨b,hb,fun _ h=>h⟩)
 simp only [St.eE,M.tS,M.put] at hx ⊢
 by_cases e:u=d
 ·subst e
  have:St.get (aL [u] st.sl) u=.any:=by simp [St.get,kh]
  rw [this]
  exact .any _
 ·simp only [e,if_false] at hx
  have:St.get (aL [d] st.sl) u=St.get st.sl u:=by simp [St.get,kh,e]
  rw [this]
  exact hx
theorem iH.aa3 {C:Cx} {a:Act} {w:World} {d:Nat} (h:iH C st a w) (hd:d < C.nt) {x:AV} {v:Value} (hx:∀ S μ,(∀ ν,cE C st.eE a w S μ ν)→∀ ν,Rel w S μ ν x v):iH C ⟨(d,x) :: aL [d] st.sl,st.lb⟩ (a.put (some d) v) w:=by
 obtain ⟨S,μ,hs⟩:=h
 refine ⟨S,μ,fun ν=>?_⟩
 have:=(hs ν).put (dst:=some d) (x:=x) (v:=v) (fun t e=>by cases e; exact hd) (hx S μ hs ν)
 refine this.weaken (fun u y hy=>?_) (fun κ b hb=>⟨b,hb,fun _ h=>h⟩)
 simp only [St.eE,M.tS,M.put] at hy ⊢
 rw [Fa]
 by_cases e:u=d
 ·subst e; simpa using hy
 ·rw [if_neg (fun h=>e h.symm)]; simpa [e] using hy
theorem Gi {o:Oper} (h:qd (ya++Wr kn) #[o]=true) {a:Act} (v:Value) (h4:∀ u,u∈ya→a.tmps.getD u undef=X.yv) (h5:∀ s b,kn=some (s,b)→s < nt∧a.tmps.getD s undef=.bool b) :
  (∀ u,u∈ya→(a.put o.dst v).tmps.getD u undef=X.yv)∧∀ s b,kn=some (s,b)→s < nt∧(a.put o.dst v).tmps.getD s undef=.bool b :=
 ⟨fun u hu=>(Cv h (by simp [hu])).trans (h4 u hu),fun s b e=>⟨(h5 s b e).1,(Cv h (by simp [Wr,e])).trans (h5 s b e).2⟩⟩
theorem qv {P:Program} {Q:Exit→Act→World→Prop} {i:Nat} {o:Oper} {a:Act} {w:World} (ho:ops[i]? = some o) (hw:Region.wanted o (yielded ops a.tmps)=true) (h:o.wpIn Fence.wide 0 P a w (wpOpsIn Fence.wide 0 P ops Q l) Q):wpOpsIn Fence.wide 0 P ops Q (i :: l) a w:=by
 simp only [wpOpsIn,ho,hw,if_true]
 exact h
theorem YW.op {T:List (Nat × TI)} (hT:la P T) (hm:P.follows .mixedOrders=true) {i:Nat} {o:Oper} {ob:Ob} (ho:ops[i]? = some o) (hw:Bd ops kn o=some true) (hd:jQ #[o]=true) (UC:qd (ya++Wr kn) #[o]=true)
  (hr:mR P T nt #[{ o with guard:=none }] false none st []=some (st',ob)) (bH:ob.den) (h:YW X k ops H ya kn l st'):YW X k ops H ya kn (i :: l) st:=by
 intro C h1 h2 h3 a w h4 h5 h6
 have gS:a.tmps.size=nt:=by obtain ⟨S,μ,hs⟩:=h6; exact (hs fun _=>false).tmps.trans h2
 refine qv ho (uf hw fun s b e=>⟨gS ▸ (h5 s b e).1,(h5 s b e).2⟩) ?_
 have hw:=zO (C:=C) (T:=T) (by rw [h1]; exact hT) (by rw [h1]; exact hm) (by rw [h1,h2]; exact hr) bH h6
 rcases hw with ⟨-,hw⟩ | ⟨e,-⟩
 ·rw [h1] at hw
  have hw:=qO (K:=fun t=>(∀ u,u∈ya→t.getD u undef=X.yv)∧∀ s b,kn=some (s,b)→s < nt∧t.getD s undef=.bool b) (fun j o' a v QI hk=>by
   have e:o' = { o with guard:=none }:=by
    match j,QI with
    | 0,QI=>simpa using QI.symm
    | j+1,QI=>simp at QI
   subst e
   exact Gi (o:=o) UC v hk.1 hk.2) (fun e a w h=>h.1) _ a w ⟨h4,h5⟩ hw
  have e1:List.range (#[{ o with guard:=none }]:Array Oper).size=[0]:=rfl
  rw [e1] at hw
  simp only [wpOps,Region.wanted] at hw
  rcases hw with hw | ⟨_,_,_,q⟩
  ·exact Kd (o':={ o with guard:=none }) rfl rfl rfl (ri (ops:=#[o]) hd (i:=0) rfl) (fun a' w' hh=>h C h1 h2 h3 a' w' hh.2.1 hh.2.2 hh.1.2) (fun e a w h=>h.1.1) hw
  ·cases q.1.1
 ·cases e
theorem YW.skip {i d:Nat} {o:Oper} (ho:ops[i]? = some o) (hw:Bd ops kn o=some false) (hd:o.dst=some d) (Xz:d < nt) (UC:qd (ya++Wr kn) #[o]=true) (h:YW X k ops H ya kn l ⟨aL [d] st.sl,st.lb⟩):YW X k ops H ya kn (i :: l) st:=by
 intro C h1 h2 h3 a w h4 h5 h6
 have gS:a.tmps.size=nt:=by obtain ⟨S,μ,hs⟩:=h6; exact (hs fun _=>false).tmps.trans h2
 have hw:=uf hw (a:=a) fun s b e=>⟨gS ▸ (h5 s b e).1,(h5 s b e).2⟩
 obtain ⟨q1,q2⟩:=Gi UC undef h4 h5
 simp only [wpOpsIn,ho,hw]
 exact ⟨fun _ _=>trivial,h C h1 h2 h3 _ w q1 q2 (by rw [hd]; exact h6.drop (by rw [h2]; exact Xz) _)⟩
theorem YW.value {i d:Nat} {o:Oper} {x:AV} (ho:ops[i]? = some o) (hw:Bd ops kn o=some true) (hd:o.dst=some d) (Xz:d < nt) (hdf:jQ #[o]=true) (UC:qd (ya++Wr kn) #[o]=true)
  (hx:∀ (a:Act) (w:World),(∀ u,u∈ya→a.tmps.getD u undef=X.yv)→(∀ s b,kn=some (s,b)→s < nt∧a.tmps.getD s undef=.bool b)→∃ v,(execOp a.eval o).run P w=.ok (.value v) w∧∀ C S μ,C.P=P→(∀ ν,cE C st.eE a w S μ ν)→∀ ν,Rel w S μ ν x v)
  (h:YW X k ops H ya kn l ⟨(d,x) :: aL [d] st.sl,st.lb⟩):YW X k ops H ya kn (i :: l) st:=by
 intro C h1 h2 h3 a w h4 h5 h6
 have gS:a.tmps.size=nt:=by obtain ⟨S,μ,hs⟩:=h6; exact (hs fun _=>false).tmps.trans h2
 refine qv ho (uf hw fun s b e=>⟨gS ▸ (h5 s b e).1,(h5 s b e).2⟩) ⟨fun _ _=>trivial,?_⟩
 obtain ⟨v,q1,q2⟩:=hx a w h4 h5
 obtain ⟨q3,q4⟩:=Gi UC v h4 h5
 rw [Oper.semAt_eq _ _ _ (ri (ops:=#[o]) (o:=o) hdf (i:=0) rfl),q1]
 simp only [Oper.uponIn]
 exact h C h1 h2 h3 _ w q3 q4 (by rw [hd]; exact h6.aa3 (by rw [h2]; exact Xz) (fun S μ hs=>q2 C S μ h1 hs))
theorem YW.mv {i d u:Nat} {o:Oper} (ho:ops[i]? = some o) (hw:Bd ops kn o=some true) (hd:o.dst=some d) (Xz:d < nt) (UC:qd (ya++Wr kn) #[o]=true) (zE:o.op=.move (.tmp u)) (hu:u∈ya) (h:YW X k ops H (d :: ya) kn l ⟨aL [d] st.sl,st.lb⟩):YW X k ops H ya kn (i :: l) st:=by
 intro C h1 h2 h3 a w h4 h5 h6
 have gS:a.tmps.size=nt:=by obtain ⟨S,μ,hs⟩:=h6; exact (hs fun _=>false).tmps.trans h2
 refine qv ho (uf hw fun s b e=>⟨gS ▸ (h5 s b e).1,(h5 s b e).2⟩) ⟨fun _ _=>trivial,?_⟩
 obtain ⟨q3,q4⟩:=Gi UC X.yv h4 h5
 have hv:a.eval (.tmp u)=X.yv:=h4 u hu
 have he:(execOp a.eval o).run P w=.ok (.value X.yv) w:=by
  simp only [execOp,zE,hv]
  rfl
 rw [Oper.semAt_eq _ _ _ (fun c e=>by rw [zE] at e; cases e),he]
 simp only [Oper.uponIn]
 refine h C h1 h2 h3 _ w (fun u' hu'=>?_) q4 (by rw [hd]; exact h6.drop (by rw [h2]; exact Xz) _)
 rcases List.mem_cons.1 hu' with e | e
 ·subst e
  rw [hd]
  exact fK _ _ _ (by rw [gS]; exact Xz)
 ·exact q3 u' e
theorem YW.yl {i d u n:Nat} {o:Oper} {c:Call} {ts:List Nat} {y:List AV} (ho:ops[i]? = some o) (hw:Bd ops kn o=some true) (hd:o.dst=some d) (Xz:d < nt) (UC:qd (ya++Wr kn) #[o]=true) (zE:o.op=.call c) (hc:c.callee=.value (.tmp u)) (hu:u∈ya)
  (hn:ys[n]? = some y) (ha:c.args.toList=ts.map .tmp) (hy:ts.map (St.get st.sl)=y) (hf:y.all eA=true)
  (hon:YW X k ops (X.H (n+1)) ya kn l ⟨(d,.d (.v (.bool true))) :: aL [d] st.sl,st.lb⟩) (YI:YW X k ops X.Wq ya kn l ⟨(d,.d (.v (.bool false))) :: aL [d] st.sl,st.lb⟩):YW X k ops (X.H n) ya kn (i :: l) st:=by
 intro C h1 h2 h3 a w h4 h5 h6
 have gS:a.tmps.size=nt:=by obtain ⟨S,μ,hs⟩:=h6; exact (hs fun _=>false).tmps.trans h2
 refine qv ho (uf hw fun s b e=>⟨gS ▸ (h5 s b e).1,(h5 s b e).2⟩) ⟨fun _ _=>trivial,?_⟩
 obtain ⟨S,μ,cG⟩:=h6
 obtain ⟨F,hF,hJ⟩:=h3
 have di:n < ys.length:=(List.getElem?_eq_some_iff.1 hn).1
 have hyn:ys.getD n []=y:=by simp [List.getD,hn]
 have jP:(c.args.map a.eval).toList=ts.map fun t=>a.tmps.getD t undef:=by
  rw [Array.toList_map,ha,List.map_map]
  rfl
 have hrel:∀ ν,cP w (fun _=>False) (fun _=>none) ν (ys.getD n []) (c.args.map a.eval).toList:=fun ν=>by
  rw [hyn,jP]
  subst hy
  refine ⟨by simp,fun j hj=>?_⟩
  have B5:j < ts.length:=by simpa using hj
  have h1:=(cG ν).df ts[j]
  have h2:eA (St.get st.sl ts[j])=true:=by
   simp only [List.all_eq_true] at hf
   exact hf _ (List.mem_map.2 ⟨_,List.getElem_mem B5,rfl⟩)
  have h3:=JZ h2 (w':=w) (S':=fun _=>False) (μ':=fun _=>none) (ν':=ν) h1
  simpa [List.getD,B5,St.eE] using h3
 have hv:a.eval (.tmp u)=X.yv:=h4 u hu
 obtain ⟨fn,tmps,Fe,body,q1,q2⟩:=X.yield cG hF hJ di hrel
 have he:(execOp a.eval o).run P w=(Instr.yield X.l (c.args.map a.eval)).run P w:=by
  simp only [execOp,zE,resolve,hc,hv,qu.yv,Deferred.ofValue]
  simp [invoke,go_sem]
 rw [Oper.semAt_eq _ _ _ (fun c e=>by rw [zE] at e; cases e),he,q1]
 refine ⟨fun h=>by simp [Fence.wide] at h,q2.mono ?_⟩
 rintro e W' ⟨C',c1,c2,c3,c4⟩
 have fin:∀ (b:Bool) (H':Cx→Prop),H' C'→YW X k ops H' ya kn l ⟨(d,.d (.v (.bool b))) :: aL [d] st.sl,st.lb⟩→wpOpsIn Fence.wide 0 P ops (fun e a' w'=>e=.normal∧∀ (b:Frame) (cs:List Frame),b.fn=fi→b.kind=.normal→b.roundOf=none→X.Fin cs (lone (b.atR a' k) cs w')) l (a.put o.dst (.bool b)) W':=by
  intro b H' hH hYW
  obtain ⟨q3,q4⟩:=Gi UC (.bool b) h4 h5
  exact hYW C' (c1.trans h1) (c2.trans h2) hH _ W' q3 q4 (by rw [hd]; exact iH.aa3 ⟨S,μ,c3⟩ (by rw [c2,h2]; exact Xz) (fun S μ _ ν=>fB rfl))
 rcases c4 with ⟨rfl,hH⟩ | ⟨rfl,hH⟩
 ·exact fin true _ hH hon
 ·exact fin false _ hH YI
def ZT (P:Program) (T:List (Nat × TI)) (nt:Nat) (pre:Array Oper) (st:St) (ij:List yn) (ja:Option Prop) (J:St):CT :=
 match mR P T nt pre false none st ij with
 | some (st',ob)=>.two ob.eqs (.two (.po ob.prop ja) (Ih st' J))
 | none=>.bad
theorem UD {P:Program} {T:List (Nat × TI)} {nt:Nat} {pre:Array Oper} {ij:List yn} {ja:Option Prop} {J:St} (h:(ZT P T nt pre st ij ja J).ok) (hc:∀ p,ja=some p→p):∃ st' ob,mR P T nt pre false none st ij=some (st',ob)∧ob.den∧HW st' J:=by
 unfold ZT at h
 split at h
 ·rename_i st' ob hr
  obtain ⟨h1,h2,h3⟩:=h
  have h2:ob.prop=ja:=h2
  exact ⟨st',ob,hr,Ob.Cp h1 (fun p hp=>hc p (h2 ▸ hp)),sI h3⟩
 ·exact h.elim
def preB (ya:List Nat) (pre:Array Oper):Bool:=(pre.toList.all fun o=>match o.guard with | some (j,_)=>Nat.blt j pre.size | none=>true)&&jQ pre&&qd ya pre
theorem YW.ac3 {T:List (Nat × TI)} (hT:la P T) (hm:P.follows .mixedOrders=true) {α:Type} (cl:aY α) (j:Nat) (J:α→St) (hb:preB ya ((ops.toList.take j).toArray)=true) (hj:j≤ops.size)
  (h:∀ x,ZT P T nt ((ops.toList.take j).toArray) st (cl.ij x) (cl.ja x) (J x)=(ZT P T nt ((ops.toList.take j).toArray) st (cl.ij x) (cl.ja x) (J x)).diag) (hp:cl.pre) (hk:YW X k ops H ya none (List.range' j (ops.size - j)) (J cl.v)):YW X k ops H ya none (List.range ops.size) st:=by
 obtain ⟨st',ob,hr,bH,hle⟩:=UD (CT.A2 (h cl.v)) (fun p e=>cl.pf hp p e)
 simp only [preB,Bool.and_eq_true] at hb
 have gS:((ops.toList.take j).toArray).size=j:=by simp; omega
 have:=YW.pre (ops:=ops) (H:=H) (k:=k) (l:=List.range' j (ops.size - j)) hT hm (pre:=(ops.toList.take j).toArray) (fun i hi=>by
  rw [gS] at hi
  simp [List.getElem?_take,hi]) hb.1.1 hb.1.2 hb.2 hr bH (hk.le hle)
 rw [gS] at this
 have e:List.range ops.size=List.range j++List.range' j (ops.size - j):=by
  rw [List.range_eq_range',List.range_eq_range']
  have:=List.range'_append (s:=0) (m:=j) (n:=ops.size - j) (step:=1)
  simp only [Nat.zero_add,Nat.one_mul] at this
  rw [this]
  congr 1
  omega
 rw [e]
 exact this
theorem YW.ac4 {s:Nat} {b:Bool} (hs:St.get st.sl s=.d (.v (.bool b))) (di:s < nt) (h:YW X k ops H ya (some (s,b)) l st):YW X k ops H ya none l st:=by
 intro C h1 h2 h3 a w h4 h5 h6
 refine h C h1 h2 h3 a w h4 (fun s' b' e=>?_) h6
 simp only [Option.some.injEq,Prod.mk.injEq] at e
 obtain ⟨rfl,rfl⟩:=e
 obtain ⟨S,μ,cG⟩:=h6
 have:=(cG fun _=>false).df s
 simp only [St.eE,hs] at this
 exact ⟨di,lu this⟩
def YJ (ops:Array Oper) (nt i:Nat) (ya:List Nat) (kn:Option (Nat × Bool)) (want:Bool):Bool :=
 match ops[i]? with
 | some o=>(match Bd ops kn o,o.dst with | some b,some d=>(b == want)&&Nat.ble (d+1) nt | _,_=>false)&&qd (ya++Wr kn) #[o]&&jQ #[o]
 | none=>false
theorem Gj {nt i:Nat} {want:Bool} (h:YJ ops nt i ya kn want=true):∃ o d,ops[i]? = some o∧Bd ops kn o=some want∧o.dst=some d∧d < nt∧qd (ya++Wr kn) #[o]=true∧jQ #[o]=true:=by
 unfold YJ at h
 split at h
 ·rename_i o ho
  simp only [Bool.and_eq_true] at h
  obtain ⟨⟨h1,h2⟩,h3⟩:=h
  split at h1
  ·rename_i b d hb hd
   simp only [Bool.and_eq_true,beq_iff_eq] at h1
   obtain ⟨rfl,h1⟩:=h1
   exact ⟨o,d,ho,hb,hd,Nat.le_of_ble_eq_true h1,h2,h3⟩
  ·cases h1
 ·cases h
theorem YW.XA {T:List (Nat × TI)} (hT:la P T) (hm:P.follows .mixedOrders=true) {i:Nat} {o:Oper} (J:St) (ho:ops[i]? = some o) (hb:YJ ops nt i ya kn true=true)
  (h:ZT P T nt #[{ o with guard:=none }] st [] none J=(ZT P T nt #[{ o with guard:=none }] st [] none J).diag) (hk:YW X k ops H ya kn l J):YW X k ops H ya kn (i :: l) st:=by
 obtain ⟨o',d,q1,q2,q3,q4,q5,q6⟩:=Gj hb
 rw [ho] at q1
 cases q1
 obtain ⟨st',ob,hr,bH,hle⟩:=UD (CT.A2 h) (fun p e=>by cases e)
 exact YW.op hT hm ho q2 q6 q5 hr bH (hk.le hle)
theorem YW.Nw {i d:Nat} {o:Oper} (ho:ops[i]? = some o) (hd:o.dst=some d) (hb:YJ ops nt i ya kn false=true) (hk:YW X k ops H ya kn l ⟨aL [d] st.sl,st.lb⟩):YW X k ops H ya kn (i :: l) st:=by
 obtain ⟨o',d',q1,q2,q3,q4,q5,q6⟩:=Gj hb
 rw [ho] at q1
 cases q1
 rw [hd] at q3
 cases q3
 exact YW.skip ho q2 hd q4 q5 hk
theorem YW.mvC {i d u:Nat} {o:Oper} (ho:ops[i]? = some o) (hd:o.dst=some d) (zE:o.op=.move (.tmp u)) (hu:u∈ya) (hb:YJ ops nt i ya kn true=true) (hk:YW X k ops H (d :: ya) kn l ⟨aL [d] st.sl,st.lb⟩):YW X k ops H ya kn (i :: l) st:=by
 obtain ⟨o',d',q1,q2,q3,q4,q5,q6⟩:=Gj hb
 rw [ho] at q1
 cases q1
 rw [hd] at q3
 cases q3
 exact YW.mv ho q2 hd q4 q5 zE hu hk
def XB (sl:List (Nat × AV)):Operand→AV
 | .tmp t=>St.get sl t
 | .const v=>.d (.v v)
 | _=>.any
theorem YW.UE {i d s:Nat} {b:Bool} {o:Oper} {x y:Operand} (e:Bool) (ho:ops[i]? = some o) (hd:o.dst=some d) (zE:o.op=.pick (.tmp s) x y) (hb:YJ ops nt i ya (some (s,b)) true=true) (he:XB st.sl (bif b then x else y)=.d (.v (.bool e)))
  (hk:YW X k ops H ya (some (s,b)) l ⟨(d,.d (.v (.bool e))) :: aL [d] st.sl,st.lb⟩):YW X k ops H ya (some (s,b)) (i :: l) st:=by
 obtain ⟨o',d',q1,q2,q3,q4,q5,q6⟩:=Gj hb
 rw [ho] at q1
 cases q1
 rw [hd] at q3
 cases q3
 refine YW.value ho q2 hd q4 q6 q5 (fun a w h4 h5=>?_) hk
 obtain ⟨hs,hv⟩:=h5 s b rfl
 have hv:a.eval (.tmp s)=.bool b:=hv
 refine ⟨a.eval (bif b then x else y),?_,fun C S μ hC cG ν=>?_⟩
 ·simp only [execOp,zE,hv]
  cases b <;> simp [asBool,go_sem]
 ·generalize (bif b then x else y)=z at he
  rw [← he]
  cases z with
  | tmp t=>exact (cG ν).df t
  | const v =>
   simp only [XB] at he ⊢
   cases he
   exact fB rfl
  | _=>exact .any _
theorem YW.ylC {i d u n:Nat} {o:Oper} {c:Call} {ts:List Nat} {y:List AV} (ho:ops[i]? = some o) (hd:o.dst=some d) (zE:o.op=.call c) (hc:c.callee=.value (.tmp u)) (hu:u∈ya) (hb:YJ ops nt i ya kn true=true)
  (hn:ys[n]? = some y) (ha:c.args.toList=ts.map .tmp) (hy:ts.map (St.get st.sl)=y) (hf:y.all eA=true)
  (hon:YW X k ops (X.H (n+1)) ya kn l ⟨(d,.d (.v (.bool true))) :: aL [d] st.sl,st.lb⟩) (YI:YW X k ops X.Wq ya kn l ⟨(d,.d (.v (.bool false))) :: aL [d] st.sl,st.lb⟩):YW X k ops (X.H n) ya kn (i :: l) st:=by
 obtain ⟨o',d',q1,q2,q3,q4,q5,q6⟩:=Gj hb
 rw [ho] at q1
 cases q1
 rw [hd] at q3
 cases q3
 exact YW.yl ho q2 hd q4 q5 zE hc hu hn ha hy hf hon YI
theorem G.yr {T:List (Nat × TI)} {fn:Func} {id:Nat} (h:YW X k ops H [0] none (List.range ops.size) st):G (X.g T fn H) (.code (.region id ops false) :: k) st:=by
 intro C h1 h2 a w hk hs b cs e1 e2 e3 h3
 have hr:b.roundOf=none:=e3.2 (by show (2:Nat)≠1; decide)
 have hw:(Code.region id ops false).wpIn Fence.wide 0 P _ a w:=wpIn_region (h C h1 h2 h3 a w (fun u hu=>by
  have:u=0:=by simpa using hu
  subst this
  exact hk 0 (by simp [qu.g])) (fun s b e=>by cases e) hs)
 obtain ⟨e,a',w',⟨q1,q2⟩,T7⟩:=hw b k cs hr trivial (room_wide _)
 subst q1
 exact .steps (StepsIn.steps T7) (q2 b cs e1 e2 hr)
theorem qu.Rk {T:List (Nat × TI)} {fn:Func} (hf:P.funcs[fi]? = some fn) (hrs:fn.results = #[]) {C:Cx} {F:Nat→Prop} (h1:C.P=P) {a:Act} {w:World} (hs:iH C st a w) (hF:X.Rt F C) (hJ:X.J ys.length F w∨X.Jx F w)
  {todo:List Item} (kE:∀ (b:Frame) (cs:List Frame),b.roundOf=none→Steps P (lone (b.atR a todo) cs w) (lone { b.atR a todo with mode:=.returning } cs w)) (b:Frame) (cs:List Frame) (HX:b.fn=fi) (wI:b.kind=.normal) (Fb:b.roundOf=none):X.Fin cs (lone (b.atR a todo) cs w):=by
 obtain ⟨S,μ,cG⟩:=hs
 have h0:=cG fun _=>false
 have hr:(results fn a.tmps).run P w=.ok (.tuple #[]) w:=by
  have:=sH (C:=C) (fn:=fn) (a:=a) (w:=w) (vs:=[]) (by rw [hrs]; simp)
  rw [h1] at this
  exact this
 refine ⟨.tuple #[],w,{ b.atR a todo with mode:=.returning },hJ.imp (fun h=>⟨F,h⟩) (fun h=>⟨F,h⟩),kE b cs Fb,HX,rfl,h0.defers.trans hF.dl,wI,fn,?_,hr⟩
 show P.funcs[b.fn]? = _
 rw [HX]; exact hf
theorem qu.ret {T:List (Nat × TI)} {fn:Func} (hf:P.funcs[fi]? = some fn) (hrs:fn.results = #[]) (hH:∀ C,H C→X.H ys.length C∨X.Wq C):G (X.g T fn H) [] st∧∀ k,G (X.g T fn H) (.code .ret :: k) st:=by
 have key:∀ (C:Cx) (a:Act) (w:World),H C→iH C st a w→∃ F,X.Rt F C∧(X.J ys.length F w∨X.Jx F w):=by
  intro C a w hC hs
  obtain ⟨S,μ,cG⟩:=hs
  have h0:=cG fun _=>false
  rcases hH C hC with ⟨F,hF,hJ⟩ | ⟨F,hF,hJ⟩
  ·exact ⟨F,hF,.inl (X.jk _ _ _ _ hJ (hF.still h0))⟩
  ·exact ⟨F,hF,.inr (X.jxk _ _ _ hJ (hF.still h0))⟩
 exact ⟨fun C h1 h2 a w _ hs b cs e1 e2 e3 hC=>by
   obtain ⟨F,hF,hJ⟩:=key C a w hC hs
   exact qu.Rk (T:=T) hf hrs h1 hs hF hJ (fun b cs hb=>.one (stepR_end hb)) b cs e1 e2 (e3.2 (by show (2:Nat)≠1; decide)),
  fun k C h1 h2 a w _ hs b cs e1 e2 e3 hC=>by
   obtain ⟨F,hF,hJ⟩:=key C a w hC hs
   exact qu.Rk (T:=T) hf hrs h1 hs hF hJ (fun b cs hb=>.one (stepR_ret hb)) b cs e1 e2 (e3.2 (by show (2:Nat)≠1; decide))⟩
theorem Sg.intro {P:Program} {T:List (Nat × TI)} {f:FuncId} {fn:Func} {body:Code} {bZ:List AV} {ys:List (List AV)} (hf:P.funcs[f]? = some fn) (hb:fn.body=some body) (hc:ev P f=true) (hn:bZ.length+1≤fn.ntmps)
  (h:∀ X:qu P f fn.ntmps ys,G (X.g T fn (X.H 0)) [.code body] ⟨du 1 bZ,[]⟩):Sg P f bZ ys:=by
 refine ⟨hc,fun w0 S μ wH l J Jx F0 hS Tv R4 hSF hF hJk ac5 QP hJ cs=>?_⟩
 let X:qu P f fn.ntmps ys:=⟨l,w0,S,J,Jx,hJk,ac5,QP⟩
 let C:Cx:=⟨P,w0,S,fun _=>False,fn.ntmps,Tv,fun b hb h=>h.elim,hS,[],fun d h=>(by cases h),List.nodup_nil⟩
 let b:Frame:={ (default:Frame) with fn:=f,kind:=.normal,roundOf:=none }
 let vs:Array Value:=#[.func (.yield l) #[] #[]]++wH
 have hl:wH.size=bZ.length:=by have:=(R4 fun _=>false).1; simpa using this
 have VP:vs.size=bZ.length+1:=by simp [vs,hl]; omega
 have Pw:Frame.enter P f vs .normal=b.atR { tmps:=vs++Array.replicate (fn.ntmps - vs.size) undef,defers:=[] } [.code body]:=by
  simp [Frame.enter,Frame.atR,hf,hb,b]
 have cG:iH C ⟨du 1 bZ,[]⟩ { tmps:=vs++Array.replicate (fn.ntmps - vs.size) undef,defers:=[] } w0:=by
  refine ⟨S,μ,fun ν=>⟨by simp only [C,Array.size_append,Array.size_replicate]; omega,rfl,fun t=>?_,fun κ b h=>by simp [St.eE,look] at h,fun κ κ' b b' g c c' h=>by simp [St.eE,look] at h,fun κ bk q c h1 h2=>by simp [St.eE,look] at h1,fun _ hb=>hb,fun _ hb=>.inl hb,hS,Kept.refl _ _⟩⟩
  simp only [St.eE,St.get,th]
  by_cases ht:1≤t∧t - 1 < bZ.length
  ·rw [if_pos ht.1,List.getElem?_eq_getElem ht.2]
   have h2:=(R4 ν).2 (t - 1) ht.2
   rw [show bZ.getD (t - 1) default=bZ[t - 1] from by simp [List.getD,ht.2]] at h2
   have e:(vs++Array.replicate (fn.ntmps - vs.size) undef).getD t undef=wH.toList.getD (t - 1) undef:=by
    rw [← ct]
    simp only [Array.getD_eq_getD_getElem?]
    rw [Array.getElem?_append_left (by omega)]
    simp only [vs]
    rw [Array.getElem?_append_right (by simp; omega)]
    simp
   rw [e]
   exact h2
  ·by_cases h1:1≤t
   ·rw [if_pos h1,List.getElem?_eq_none (by omega)]
    exact .any _
   ·rw [if_neg h1]
    exact .any _
 obtain ⟨v,w',fr,q1,q2,q3,q4⟩:=h X C rfl rfl _ _ (fun u hu=>by
  have:u=0:=by simpa [qu.g] using hu
  subst this
  simp only [qu.g,qu.yv,Array.getD_eq_getD_getElem?]
  rw [Array.getElem?_append_left (by omega)]
  simp only [vs,X]
  rw [Array.getElem?_append_left (by simp)]) cG b cs rfl rfl ⟨fun _=>by show (2:Nat)≠1; decide,fun _=>rfl⟩
  ⟨F0,⟨rfl,Nat.le_refl _,fun _ h=>h,hSF,hF,fun b h=>h.elim⟩,hJ⟩
 exact ⟨.returned v,w',fr,⟨⟨v,rfl⟩,q1⟩,by show Steps _ _ _; rw [Pw]; exact q2,q3,q4⟩
theorem Rl {st st':St} (h:Ih st st'=(Ih st st').diag):HW st st':=sI (CT.A2 h)
def cA:Code→Code
 | .seq x _=>x
 | .cond _ x _=>x
 | .block _ x=>x
 | .loop x=>x
 | c=>c
def cB:Code→Code
 | .seq _ y=>y
 | .cond _ _ y=>y
 | c=>c
def opsOf:Code→Array Oper
 | .region _ ops _=>ops
 | _=>#[]
theorem qu.sk {T:List (Nat × TI)} {fn:Func} (hT:la P T) (hm:P.follows .mixedOrders=true) (hf:P.funcs[fi]? = some fn) {α:Type} (todo:List Item) (sk:Sk α) (L:α→Uu) (n:Nat) (h:mK P T nt fn.results.toList 0 2 [0] n todo st L sk=(mK P T nt fn.results.toList 0 2 [0] n todo st L sk).diag) (ho:sk.aZ fun _=>True)
  (hL:∀ a,a=sk.val→PJ (X.g T fn H) (L a)):G (X.g T fn H) todo st :=
 yu n (g:=X.g T fn H) hT hm hf (fun h=>(by cases h)) 0 todo st L sk (fun _=>True) (CT.A2 h) ho (fun a e _=>hL a e)
theorem G.UF {g:Goal} {c:Code} (h:G g (.code c :: .inLoop c :: k) st):G g (.code (.loop c) :: k) st:=fun C h1 h2 a w hk hs=>(h C h1 h2 a w hk hs).step fun _ _=>.one stepR_loop
end
section
open Go Go.Sort
def ry (l:List Int):List Int:=l.mergeSort fun x y=>decide (x≤y)
variable {w : World} {S : Nat → Prop} {μ : Mu} {e g c : Nat} {L : List Int}
theorem Ke (h:cD w S μ (bg e 1 bF L) g c):Holds (Value.int .i64) w g 0 L.toArray∧∃ cur,w.heap[g]? = some (.cells cur e (0,0))∧L.length≤c∧c≤maxLen∧cur.size=c:=by
 obtain ⟨cur,hg,oO,zm,ML,H9,lh⟩:=h
 refine ⟨fun j hj=>?_,cur,hg,ML,H9,by omega⟩
 have B5:j < L.length:=by simpa using hj
 refine ⟨?_,by simp [World.frozen?,hg]⟩
 obtain ⟨x,hx,hr⟩:=(lh j B5).2 0 (by omega)
 have hx:cur[j]? = some x:=by simpa using hx
 have hr:Rd w S (.v (.int .i64 (L.getD j default))) x:=by simpa [bF,dI] using hr
 cases hr
 simp only [World.cell?,hg,Nat.zero_add]
 simp only [Option.isSome_none,Bool.false_eq_true,if_false,hx]
 simp [List.getD,B5]
theorem Rm {k:Nat} {os:Array Obj} {d L':List Int} (h:cD w S μ (bg e 1 bF L) g c) (hd:d.length≤c) (hl:L'.length≤d.length) (he:∀ i,i < L'.length→d.getD i default=L'.getD i default) :
  cD (grow (putRow (Value.int .i64) (Sort.ahead w k) g 0 d.toArray) os) S μ (bg e 1 bF L') g c:=by
 obtain ⟨cur,hg,oO,zm,ML,H9,lh⟩:=h
 refine ⟨_,heap_sortedI d.toArray hg,oO,by simpa [putCells] using zm,by omega,H9,fun i hi=>⟨rfl,fun j hj=>?_⟩⟩
 have hj0:j=0:=by omega
 subst hj0
 have hid:i < d.length:=by omega
 have hic:i < cur.size:=by omega
 refine ⟨.int .i64 (L'.getD i default),?_,Rd.v _ rfl⟩
 have:=he i hi
 simp only [putCells,Nat.mul_one,Nat.add_zero,Nat.zero_le,Nat.zero_add,Nat.sub_zero,true_and,Array.getElem?_mapIdx,List.size_toArray,hid,if_true]
 rw [Array.getElem?_eq_getElem hic]
 simp only [Option.map_some,Option.some.injEq,Value.int.injEq,true_and]
 rw [← this]
 simp [List.getD,hid]
theorem DH {k:Nat} {os:Array Obj} {d:Array Int} {κ:Nat} (h:μ κ=some (some (g,c))):Kept w (grow (putRow (Value.int .i64) (Sort.ahead w k) g 0 d) os) (fun q=>∃ c,μ κ=some (some (q,c))):=by
 have hb:=grownBy_sortedI (w:=w) (g:=g) (n:=k) (os:=os) d
 exact ⟨hb.os,hb.tape,hb.output,hb.size,fun b di kC=>hb.block b di (fun e=>by cases e; exact kC ⟨c,h⟩)⟩
theorem UG {P:Program} {f:FuncId} (hc:ev P f=true)
  (h1:∀ (blk off cap:Nat) (zs:List Int) (w:World),Holds (Value.int .i64) w blk off zs.toArray→blk < w.heap.size→zs.length < 4611686018427387904 →
   Calls P f #[.slice (some ⟨blk,off,none⟩) zs.length cap] w fun e w'=>e=.returned (.tuple #[])∧∃ n os,w'=grow (putRow (Value.int .i64) (Sort.ahead w n) blk off (zs.mergeSort fun x y=>decide (x≤y)).toArray) os)
  (h0:∀ (p:Option Addr) (cap:Nat) (w:World),Calls P f #[.slice p 0 cap] w fun e w'=>e=.returned (.tuple #[])∧w'=w) (κ e:Nat) (L:List Int) (hL:L.length < 4611686018427387904) :
  Zx P f [ow κ L] κ (bg e 1 bF L) (bg e 1 bF (ry L)):=by
 refine ⟨hc,fun w S μ vs hS hg hr hb=>?_⟩
 obtain ⟨v,rfl⟩:∃ v,vs = #[v]:=by
  have:=(hr fun _=>false).1
  match vs,this with
  | ⟨[v]⟩,_=>exact ⟨v,rfl⟩
 have hv:Rel w S μ (fun _=>false) (.own κ L.length) v:=by simpa using (hr fun _=>false).2 0 (by simp)
 have ME:(ry L).length=L.length:=by simp [ry]
 generalize hn:L.length=n at hv
 cases hv with
 | cu hm =>
  refine (h0 _ _ w).mono ?_
  rintro e' w' ⟨rfl,rfl⟩
  refine ⟨⟨_,rfl⟩,?_,Kept.refl _ _⟩
  rw [hm]
  show (ry L).length=0
  omega
 | @own _ _ g cap hm =>
  rw [hm] at hb
  have KG:cD w S μ (bg e 1 bF L) g cap:=hb
  obtain ⟨q1,cur,q2,q3,q4,q5⟩:=Ke KG
  subst hn
  refine (h1 g 0 cap L w q1 (Array.getElem?_eq_some_iff.1 q2).1 hL).mono ?_
  rintro e' w' ⟨rfl,k,os,rfl⟩
  refine ⟨⟨_,rfl⟩,?_,DH hm⟩
  rw [hm]
  exact Rm (d:=ry L) (L':=ry L) KG (by omega) (Nat.le_refl _) (fun _ _=>rfl)
theorem Nx {P:Program} {f:FuncId} (hc:ev P f=true) (L L':List Int) (hl:L'.length≤L.length)
  (h1:∀ (blk cap:Nat) (w:World),Holds (Value.int .i64) w blk 0 L.toArray→L.length≤9223372036854775807→L.length≤cap →
   Calls P f #[.slice (some ⟨blk,0,none⟩) L.length cap] w fun e w'=>e=.returned (.slice (some ⟨blk,0,none⟩) L'.length cap)∧∃ q,w'=putRow (Value.int .i64) (Sort.ahead w q) blk 0 (L'++List.replicate (L.length - L'.length) 0).toArray)
  (h0:∀ (p:Option Addr) (cap:Nat) (w:World),Calls P f #[.slice p 0 cap] w fun e w'=>e=.returned (.slice p 0 cap)∧w'=w) (κ κ' e:Nat) :
  fA P f [ow κ L] [(κ,bg e 1 bF L)] (ow κ' L') [(κ',bg e 1 bF L')]:=by
 refine ⟨hc,fun w S μ vs hS hg hr hb hi=>?_⟩
 obtain ⟨v,rfl⟩:∃ v,vs = #[v]:=by
  have:=(hr fun _=>false).1
  match vs,this with
  | ⟨[v]⟩,_=>exact ⟨v,rfl⟩
 have hv:Rel w S μ (fun _=>false) (.own κ L.length) v:=by simpa using (hr fun _=>false).2 0 (by simp)
 have hb:=hb κ (bg e 1 bF L) (by simp [look])
 have lk:∀ k b,look [(κ',bg e 1 bF L')] k=some b→k=κ'∧b=bg e 1 bF L':=fun k b h=>by
  simp only [bq] at h
  split at h
  ·rename_i e'; exact ⟨e'.symm,by simpa using h.symm⟩
  ·cases h
 have inj:∀ μ':Mu,QS [(κ',bg e 1 bF L')] μ':=fun μ' k1 k2 b1 b2 g c c' h1 h2 _ _=>((lk _ _ h1).1).trans ((lk _ _ h2).1).symm
 generalize hn:L.length=n at hv
 cases hv with
 | @cu _ ad hm =>
  refine (h0 _ _ w).mono ?_
  rintro e' w' ⟨rfl,rfl⟩
  have hz:L'.length=0:=by omega
  refine ⟨_,S,fun k=>if k=κ' then some none else none,rfl,⟨fun ν=>?_,fun k b h=>?_,inj _,fun k b g c h zo=>?_,fun _ h=>h,fun _ h=>.inl h,hS,Kept.refl _ _⟩⟩
  ·show Rel _ _ _ _ (.own κ' L'.length) _
   rw [hz]
   exact .cu (by simp)
  ·obtain ⟨rfl,rfl⟩:=lk k b h
   simp only [if_true]
   exact hz
  ·obtain ⟨rfl,rfl⟩:=lk k b h
   simp at zo
 | @own _ _ g cap hm =>
  rw [hm] at hb
  have KG:cD w S μ (bg e 1 bF L) g cap:=hb
  obtain ⟨q1,cur,q2,q3,q4,q5⟩:=Ke KG
  subst hn
  have h4:=q4
  simp only [maxLen] at h4
  refine (h1 g cap w q1 (by omega) q3).mono ?_
  rintro e' w' ⟨rfl,k,rfl⟩
  have XC:∀ W:World,W=grow W #[]:=fun W=>by simp [grow]
  have ac6:cD (putRow (Value.int .i64) (Sort.ahead w k) g 0 (L'++List.replicate (L.length - L'.length) 0).toArray) S (fun k=>if k=κ' then some (some (g,cap)) else none) (bg e 1 bF L') g cap:=by
   rw [XC (putRow _ _ _ _ _)]
   exact Rm (d:=L'++List.replicate (L.length - L'.length) 0) (L':=L') KG (by simp; omega) (by simp) (fun i hi=>by simp [List.getD,List.getElem?_append_left hi])
  have hk:Kept w (putRow (Value.int .i64) (Sort.ahead w k) g 0 (L'++List.replicate (L.length - L'.length) 0).toArray) (Handed [(κ,bg e 1 bF L)] μ):=by
   rw [XC (putRow _ _ _ _ _)]
   exact (DH hm).vV (fun q ⟨c,hq⟩=>⟨κ,bg e 1 bF L,c,by simp [look],hq⟩)
  refine ⟨_,S,fun k=>if k=κ' then some (some (g,cap)) else none,rfl,⟨fun ν=>.own (by simp),fun k b h=>?_,inj _,fun k b g' c h zo=>?_,fun _ h=>h,fun _ h=>.inl h,fun b kC=>Nat.lt_of_lt_of_le (hS b kC) hk.size,hk⟩⟩
  ·obtain ⟨rfl,rfl⟩:=lk k b h
   simp only [if_true]
   exact ac6
  ·obtain ⟨rfl,rfl⟩:=lk k b h
   simp only [if_true,Option.some.injEq,Prod.mk.injEq] at zo
   obtain ⟨rfl,rfl⟩:=zo
   exact .inr ⟨κ,bg e 1 bF L,cap,by simp [look],hm⟩
end
section
open Go Go.Sort Go.Proofs
def PQ:D→Bool
 | .v x=>scalar x
 | _=>false
def UH:D→Value
 | .v x=>x
 | _=>undef
theorem Ws {w:World} {S:Nat→Prop} {d:D} (h:PQ d=true) {x:Value} (hr:Rd w S d x):x=UH d:=by
 cases d with
 | v y=>cases hr; rfl
 | agg=>cases h
 | sl=>cases h
theorem Wt {w:World} {S:Nat→Prop} {d:D} (h:PQ d=true):Rd w S d (UH d):=by
 cases d with
 | v y=>exact .v _ h
 | agg=>cases h
 | sl=>cases h
def encS {α:Type} (cells:α→List D) (x:α):List Value:=(cells x).map UH
theorem Rn {α:Type} {cells:α→List D} {x:α} {j:Nat} (h:j < (cells x).length):(encS cells x)[j]! = UH ((cells x).getD j default):=by
 generalize hc:cells x=cs at h
 simp [encS,hc,List.getD,h]
def rz {α:Type} [Inhabited α] (cf:α→α→Int) (L:List α):List α:=(pdq (ltOf cf) L.toArray 0 L.toArray.size (Lib.bitLen L.toArray.size) true true).toList
section
variable {α : Type} [Inhabited α] {cells : α → List D} {k : Nat}
theorem PR {w:World} {g n:Nat} {os:Array Obj} {cur:Array Value} {e:TypeId} {fr:Nat × Nat} (d:Array α) (hb:w.heap[g]? = some (.cells cur e fr)) :
  (sortWorldK (encS cells) k w g 0 n d os).heap[g]? = some (.cells (putCells id 0 (flatK (encS cells) k d) cur) e fr):=by
 have hg:g < w.heap.size:=(Array.getElem?_eq_some_iff.1 hb).1
 unfold sortWorldK putRowK
 rw [heap_grow_old _ _ (by simpa using hg)]
 simp [putRow,mapBlock,Sort.ahead,Array.getElem?_modify,hb,onCells]
theorem Ik {w:World} {g n:Nat} {os:Array Obj} (d:Array α):w.grownBy (sortWorldK (encS cells) k w g 0 n d os) (some g):=by
 unfold sortWorldK putRowK
 refine ⟨rfl,rfl,rfl,by simp,fun q hq qW=>?_⟩
 rw [heap_grow_old _ _ (by simpa using hq)]
 have:g≠q:=fun e=>qW (by rw [e])
 simp [putRow,mapBlock,Sort.ahead,Array.getElem?_modify,this]
theorem PS {w:World} {g n:Nat} {os:Array Obj} (d:Array α):Kept w (sortWorldK (encS cells) k w g 0 n d os) (fun q=>q=g):=by
 have hb:=Ik (cells:=cells) (k:=k) (w:=w) (g:=g) (n:=n) (os:=os) d
 exact ⟨hb.os,hb.tape,hb.output,hb.size,fun b di kC=>hb.block b di (fun e=>by cases e; exact kC rfl)⟩
variable {w : World} {S : Nat → Prop} {μ : Mu} {e g c : Nat} {L : List α}
theorem PT (hk:∀ x,(cells x).length=k) (tg:∀ x,(cells x).all PQ=true) (h:cD w S μ (bg e k cells L) g c):HoldsK (encS cells) k w g 0 L.toArray:=by
 obtain ⟨cur,hg,oO,zm,ML,H9,lh⟩:=h
 intro t ht
 have ht':t < L.length * k:=by simpa using ht
 have k0:0 < k:=by
  rcases Nat.eq_zero_or_pos k with h | h
  ·subst h; simp at ht'
  ·exact h
 have hi:t / k < L.length:=Nat.div_lt_of_lt_mul (by rw [Nat.mul_comm]; exact ht')
 have hj:t % k < k:=Nat.mod_lt _ k0
 refine ⟨?_,by simp [World.frozen?,hg]⟩
 obtain ⟨x,hx,hr⟩:=(lh (t / k) hi).2 (t % k) hj
 have e0:t / k * k+t % k=t:=by rw [Nat.mul_comm]; exact Nat.div_add_mod t k
 rw [e0] at hx
 have ho:=tg (L.getD (t / k) default)
 simp only [List.all_eq_true] at ho
 have hlen:t % k < (cells (L.getD (t / k) default)).length:=by rw [hk]; exact hj
 have hd:PQ ((cells (L.getD (t / k) default)).getD (t % k) default)=true:=ho _ (ru hlen _)
 have hv:=Ws hd hr
 rw [get_flatK _ _ _ _ (by simpa using ht')]
 simp only [World.cell?,hg,Nat.zero_add,Option.isSome_none,Bool.false_eq_true,if_false,hx]
 rw [hv]
 simp only [id,Option.some.injEq]
 have e1:L.toArray[t / k]! = L.getD (t / k) default:=by simp [List.getD,hi]
 rw [e1]
 exact (Rn hlen).symm
theorem UI {n:Nat} {os:Array Obj} {d:Array α} (hk:∀ x,(cells x).length=k) (tg:∀ x,(cells x).all PQ=true) (h:cD w S μ (bg e k cells L) g c) (hd:d.size=L.length) :
  cD (sortWorldK (encS cells) k w g 0 n d os) S μ (bg e k cells d.toList) g c:=by
 obtain ⟨cur,hg,oO,zm,ML,H9,lh⟩:=h
 refine ⟨_,PR d hg,oO,by simpa [putCells] using zm,by simp; omega,H9,fun i hi=>⟨hk _,fun j hj=>?_⟩⟩
 have hid:i < d.size:=by simpa using hi
 have di:i * k+j < d.size * k:=by
  have:=Nat.mul_le_mul_right k (show i+1≤d.size from hid)
  rw [Nat.add_mul,Nat.one_mul] at this
  omega
 have hic:i * k+j < cur.size:=by
  have:d.size * k≤c * k:=Nat.mul_le_mul_right k (by omega)
  omega
 have e1:(i * k+j) / k=i:=(blk_iff k i _ (by omega)).1 ⟨by omega,by omega⟩
 have e2:(i * k+j) % k=j:=by rw [Nat.mod_eq_sub_div_mul,e1]; omega
 have e3:d[i]! = d.toList.getD i default:=by simp [List.getD,hid]
 have hlen:j < (cells (d.toList.getD i default)).length:=by rw [hk]; exact hj
 have ho:=tg (d.toList.getD i default)
 simp only [List.all_eq_true] at ho
 have hds:PQ ((cells (d.toList.getD i default)).getD j default)=true:=ho _ (ru hlen _)
 refine ⟨UH ((cells (d.toList.getD i default)).getD j default),?_,Wt hds⟩
 simp only [putCells,Nat.zero_le,Nat.zero_add,Nat.sub_zero,true_and,Array.getElem?_mapIdx,size_flatK,di,if_true]
 rw [Array.getElem?_eq_getElem hic]
 simp only [Option.map_some,Option.some.injEq,id]
 rw [get_flatK _ _ _ _ di,e1,e2,e3]
 exact Rn hlen
theorem Gk (cf:α→α→Int) (hO:SWO (ltOf cf)) (L:List α):(pdq (ltOf cf) L.toArray 0 L.toArray.size (Lib.bitLen L.toArray.size) true true).size=L.length:=by
 have h:=(pdq_sorts (ltOf cf) hO L.toArray 0 L.toArray.size (Lib.bitLen L.toArray.size) true true (Nat.zero_le _) (Nat.le_refl _) (Or.inl rfl)).1.1
 simpa using h
theorem PU (cf:α→α→Int) (hO:SWO (ltOf cf)) (L:List α):(rz cf L).Perm L:=by
 have h:=(pdq_sorts (ltOf cf) hO L.toArray 0 L.toArray.size (Lib.bitLen L.toArray.size) true true (Nat.zero_le _) (Nat.le_refl _) (Or.inl rfl)).1
 have h2:=h.2.2
 have hs:=h.1
 unfold rz
 generalize pdq (ltOf cf) L.toArray 0 L.toArray.size (Lib.bitLen L.toArray.size) true true=d at *
 have e1:d.extract 0 L.toArray.size=d:=by rw [← hs]; simp
 rw [e1] at h2
 simpa using h2
theorem K8 (cf:α→α→Int) (hO:SWO (ltOf cf)) (L:List α):∀ i j,i < j→j < (rz cf L).length→ltOf cf ((rz cf L).getD j default) ((rz cf L).getD i default)=false:=by
 have h:=pdq_sorts (ltOf cf) hO L.toArray 0 L.toArray.size (Lib.bitLen L.toArray.size) true true (Nat.zero_le _) (Nat.le_refl _) (Or.inl rfl)
 have hs:=h.1.1
 have h2:=h.2
 intro i j hij hj
 unfold rz at *
 generalize pdq (ltOf cf) L.toArray 0 L.toArray.size (Lib.bitLen L.toArray.size) true true=d at *
 have B5:j < d.size:=by simpa using hj
 have:=h2 i j (Nat.zero_le _) hij (by omega)
 have e1:d[i]! = d.toList.getD i default:=by simp [List.getD,show i < d.size by omega]
 have e2:d[j]! = d.toList.getD j default:=by simp [List.getD,B5]
 rw [e1,e2] at this
 exact this
end
theorem Sq {P:Program} {f gf:FuncId} (hc:ev P f=true) {α:Type} [Inhabited α] (cells:α→List D) (k:Nat) (hk:∀ x,(cells x).length=k) (tg:∀ x,(cells x).all PQ=true) (cf:α→α→Int) (hO:SWO (ltOf cf))
  (uV:∀ (g n:Nat) (w:World),CmpLays P gf #[] (encS cells) k cf g 0 n w)
  (h1:∀ (blk off cap:Nat) (d:Array α) (w:World),CmpLays P gf #[] (encS cells) k cf blk off d.size w→HoldsK (encS cells) k w blk off d→blk < w.heap.size→d.size < 4611686018427387904 →
   Calls P f #[.slice (some ⟨blk,off,none⟩) d.size cap,.func (.func gf) #[] #[]] w fun e w'=>e=.returned (.tuple #[])∧∃ n os,w'=sortWorldK (encS cells) k w blk off n (pdq (ltOf cf) d 0 d.size (Lib.bitLen d.size) true true) os)
  (h0:∀ (p:Option Addr) (cap:Nat) (w:World),Calls P f #[.slice p 0 cap,.func (.func gf) #[] #[]] w fun e w'=>e=.returned (.tuple #[])∧w'=w) (κ e:Nat) (L:List α) (hL:L.length < 4611686018427387904) :
  Zx P f [ow κ L,.fn gf []] κ (bg e k cells L) (bg e k cells (rz cf L)):=by
 refine ⟨hc,fun w S μ vs hS hg hr hb=>?_⟩
 have hr0:=hr fun _=>false
 obtain ⟨v,u,rfl⟩:∃ v u,vs = #[v,u]:=by
  have:=hr0.1
  match vs,this with
  | ⟨[v,u]⟩,_=>exact ⟨v,u,rfl⟩
 have hv:Rel w S μ (fun _=>false) (.own κ L.length) v:=by simpa using hr0.2 0 (by simp)
 have hu:Rel w S μ (fun _=>false) (.fn gf []) u:=by simpa using hr0.2 1 (by simp)
 obtain rfl:u=.func (.func gf) #[] #[]:=by
  cases hu with
  | @fn _ _ wH hl hh =>
   have:wH = #[]:=Array.eq_empty_of_size_eq_zero (hl.trans rfl)
   subst this
   rfl
 have ME:(rz cf L).length=L.length:=by have:=Gk cf hO L; simpa [rz] using this
 generalize hn:L.length=n at hv
 cases hv with
 | cu hm =>
  refine (h0 _ _ w).mono ?_
  rintro e' w' ⟨rfl,rfl⟩
  refine ⟨⟨_,rfl⟩,?_,Kept.refl _ _⟩
  rw [hm]
  show (rz cf L).length=0
  omega
 | @own _ _ g cap hm =>
  rw [hm] at hb
  have KG:cD w S μ (bg e k cells L) g cap:=hb
  have hH:=PT hk tg KG
  obtain ⟨cur,q2,oO,q5,q3,q4,lh⟩:=id KG
  have di:g < w.heap.size:=(Array.getElem?_eq_some_iff.1 q2).1
  subst hn
  refine (h1 g 0 cap L.toArray w (uV _ _ _) hH di (by simpa using hL)).mono ?_
  rintro e' w' ⟨rfl,m,os,rfl⟩
  refine ⟨⟨_,rfl⟩,?_,(PS _).vV (fun q hq=>⟨cap,by rw [hq]; exact hm⟩)⟩
  rw [hm]
  exact UI hk tg KG (Gk cf hO L)
theorem UJ {P:Program} {T:List (Nat × TI)} (hT:la P T) {t:Nat} {i:TI} (h:look T t=some i) (w:World):(isAgg t).run P w=.ok (zG i.kind) w∧(sizeOf t).run P w=.ok i.size w:=by
 obtain ⟨j,z,F⟩:=aw (hT _ _ h)
 exact ⟨zH F.kind w,by simp [sizeOf,typeInfo,F.info,F.size]⟩
theorem Ny {α β:Type} [Inhabited α] [Inhabited β] (e k:Nat) (c:β→List D) (g:α→β) (hd:g default=default) (L:List α):bg e k (fun s=>c (g s)) L=bg e k c (L.map g):=by
 have h1:(L.map g).length=L.length:=List.length_map _
 have h2:(fun i=>c (g (L.getD i default)))=fun i=>c ((L.map g).getD i default):=by
  funext i
  by_cases hi:i < L.length
  ·simp [List.getD,hi]
  ·simp [List.getD,hi,hd]
 show ba.row e k L.length _=ba.row e k (L.map g).length _
 rw [h1,h2]
end
end
end Go.Av
