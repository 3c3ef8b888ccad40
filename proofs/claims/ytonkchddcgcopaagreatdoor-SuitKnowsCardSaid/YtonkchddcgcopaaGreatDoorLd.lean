/- Sketches: what a piece of code computes, told once; the check that the code does so, by computation. -/
import Derived.Test.YtonkchddcgcopaaGreatDoorLc
import Derived.Maps.RangeRun
import Derived.Sort.OwnSortedInts
set_option linter.unusedSimpArgs false
set_option linter.unusedVariables false
set_option linter.unusedSectionVars false
namespace Go.Av
open Go
variable [DS]
inductive CT:Type 1 where
 | nil
 | bad
 | bb (a b:Bool)
 | nn (a b:Nat)
 | zz (a b:Int)
 | dd (a b:D)
 | ll (a b:List D)
 | vv (a b:AV)
 | ff (f g:Nat→List D)
 | mm (f g:Nat→Value × D)
 | ss (a b:List Nat)
 | po (a b:Option Prop)
 | td (a b:List Item)
 | two (a b:CT)
 | pi {β:Type} (f:β→CT)
def CT.ok:CT→Prop
 | .nil=>True
 | .bad=>False
 | .bb a b=>a=b
 | .nn a b=>a=b
 | .zz a b=>a=b
 | .dd a b=>a=b
 | .ll a b=>a=b
 | .vv a b=>a=b
 | .ff f g=>f=g
 | .mm f g=>f=g
 | .ss a b=>a=b
 | .po a b=>a=b
 | .td a b=>a=b
 | .two a b=>a.ok∧b.ok
 | .pi f=>∀ b,(f b).ok
def CT.diag:CT→CT
 | .nil=>.nil
 | .bad=>.nil
 | .bb _ b=>.bb b b
 | .nn _ b=>.nn b b
 | .zz _ b=>.zz b b
 | .dd _ b=>.dd b b
 | .ll _ b=>.ll b b
 | .vv _ b=>.vv b b
 | .ff _ g=>.ff g g
 | .mm _ g=>.mm g g
 | .ss _ b=>.ss b b
 | .po _ b=>.po b b
 | .td _ b=>.td b b
 | .two a b=>.two a.diag b.diag
 | .pi f=>.pi fun b=>(f b).diag
theorem CT.BM:∀ {t:CT},t=t.diag→t.ok
 | .nil,_=>trivial
 | .bad,h=>by cases h
 | .bb a b,h=>by simpa [CT.diag,CT.ok] using h
 | .nn a b,h=>by simpa [CT.diag,CT.ok] using h
 | .zz a b,h=>by simpa [CT.diag,CT.ok] using h
 | .dd a b,h=>by simpa [CT.diag,CT.ok] using h
 | .ll a b,h=>by simpa [CT.diag,CT.ok] using h
 | .vv a b,h=>by simpa [CT.diag,CT.ok] using h
 | .ff a b,h=>by simpa [CT.diag,CT.ok] using h
 | .mm a b,h=>by simpa [CT.diag,CT.ok] using h
 | .ss a b,h=>by simpa [CT.diag,CT.ok] using h
 | .po a b,h=>by simp only [CT.diag,CT.po.injEq] at h; exact h.1
 | .td a b,h=>by simpa [CT.diag,CT.ok] using h
 | .two a b,h=>by
  simp only [CT.diag,CT.two.injEq] at h
  exact ⟨CT.BM h.1,CT.BM h.2⟩
 | .pi f,h=>by
  simp only [CT.diag] at h
  have h1:f=fun b=>(f b).diag:=by injection h
  exact fun b=>CT.BM (congrFun h1 b)
def Ob.eqs:Ob→CT
 | .tt=>.nil
 | .pr _=>.nil
 | .be a b=>.bb a b
 | .ne a b=>.nn a b
 | .ze a b=>.zz a b
 | .fe f g=>.ff f g
 | .me f g=>.mm f g
 | .ve a b=>.vv a b
 | .two a b=>.two a.eqs b.eqs
 | .wh _ _ a=>a.eqs
def GZ:Option Prop→Option Prop→Option Prop
 | none,x=>x
 | x,none=>x
 | some p,some q=>some (p∧q)
def Ob.prop:Ob→Option Prop
 | .pr p=>some p
 | .two a b=>GZ a.prop b.prop
 | .wh e w a=>(match a.prop with | none=>none | some p=>some (e=w→p))
 | _=>none
theorem XM {x y:Option Prop} (h:∀ p,GZ x y=some p→p):(∀ p,x=some p→p)∧∀ p,y=some p→p:=by
 cases x with
 | none=>exact ⟨fun p hp=>(by cases hp),fun p hp=>h p (by simpa [GZ] using hp)⟩
 | some a =>
  cases y with
  | none=>exact ⟨fun p hp=>h p (by simpa [GZ] using hp),fun p hp=>(by cases hp)⟩
  | some b =>
   have:=h (a∧b) rfl
   exact ⟨fun p hp=>(by cases hp; exact this.1),fun p hp=>(by cases hp; exact this.2)⟩
theorem Ob.G0:∀ {ob:Ob},ob.eqs.ok→(∀ p,ob.prop=some p→p)→ob.den
 | .tt,_,_=>trivial
 | .pr p,_,h=>h p rfl
 | .be _ _,h,_=>h
 | .ne _ _,h,_=>h
 | .ze _ _,h,_=>h
 | .fe _ _,h,_=>h
 | .me _ _,h,_=>h
 | .ve _ _,h,_=>h
 | .two a b,h,hp=>⟨Ob.G0 h.1 (XM hp).1,Ob.G0 h.2 (XM hp).2⟩
 | .wh e w a,h,hp=>fun he=>Ob.G0 h (fun p hq=>hp (e=w→p) (by simp [Ob.prop,hq]) he)
def El (ob:Ob):CT:=match ob.prop with | none=>ob.eqs | some _=>.bad
theorem vQ {ob:Ob} (h:(El ob).ok):ob.den:=by
 unfold El at h
 split at h
 ·rename_i hn
  exact Ob.G0 h (fun p hp=>by rw [hn] at hp; cases hp)
 ·exact h.elim
def cEq:D→D→CT
 | .v (.slice none 0 0),.sl n _=>.nn n 0
 | x,y=>.dd x y
def Wg:List D→List D→CT
 | [],[]=>.nil
 | c :: cs,d :: ds=>.two (cEq c d) (Wg cs ds)
 | _,_=>.bad
def dEq:D→D→CT
 | .agg cs,.agg ds=>Wg cs ds
 | x,y=>cEq x y
theorem aaM {x y:D} (h:(cEq x y).ok):uc x y:=by
 unfold cEq at h
 split at h
 ·have h:_=0:=h
  subst h
  exact uc.nil _
 ·exact uc.of_eq h
theorem Fo:∀ {cs ds:List D},(Wg cs ds).ok→cs.length=ds.length∧∀ i,i < cs.length→uc (cs.getD i default) (ds.getD i default)
 | [],[],_=>⟨rfl,fun i hi=>absurd hi (by simp)⟩
 | c :: cs,d :: ds,h=>by
  obtain ⟨h1,h2⟩:=Fo h.2
  refine ⟨by simp [h1],fun i hi=>?_⟩
  cases i with
  | zero=>simpa using aaM h.1
  | succ i=>simpa using h2 i (by simpa using hi)
 | [],_ :: _,h=>h.elim
 | _ :: _,[],h=>h.elim
theorem aeh {x y:D} (h:(dEq x y).ok):uc x y:=by
 unfold dEq at h
 split at h
 ·exact uc.agg (Fo h).1 (Fo h).2
 ·exact aaM h
mutual
def Wh (ρ:Ren):AV→AV→CT
 | _,.any=>.nil
 | .d x,.d y=>dEq x y
 | .own κ n,.own κ' n'=>.two (.bb (tI ρ κ' κ) true) (.nn n n')
 | .d (.v (.slice none 0 0)),.own κ' n'=>.two (.bb (TL ρ κ') true) (.nn n' 0)
 | .ptr κ o,.ptr κ' o'=>.bb (tI ρ κ' κ&&Nat.beq o o') true
 | .ref cs,.ref C0=>.ll cs C0
 | .fn f l,.fn f' l'=>.two (.bb (Nat.beq f f') true) (Fp ρ l l')
 | .fD l,.fD l'=>Fp ρ l l'
 | .ag l,.ag l'=>Fp ρ l l'
 | .vp κ,.vp κ'=>.bb (tI ρ κ' κ) true
 | .CP n f,.CP n' f'=>.two (.nn n n') (.mm f f')
 | .Bo n f,.Bo n' f'=>.two (.nn n n') (.ff f f')
 | .Bo n f,.d (.sl n' f')=>.two (.nn n n') (.ff f f')
 | .zL κ k i o,.zL κ' k' i' o'=>.two (.bb (tI ρ κ' κ&&Nat.beq k k'&&Nat.beq o o') true) (.nn i i')
 | _,_=>.bad
def Fp (ρ:Ren):List AV→List AV→CT
 | [],[]=>.nil
 | x :: r,y :: s=>.two (Wh ρ x y) (Fp ρ r s)
 | _,_=>.bad
end
def aei (ρ:Ren):bP→bP→CT
 | .box cs,.box C0=>Fp ρ cs C0
 | .row e k n f,.row e' k' n' f'=>.two (.bb (Nat.beq e e'&&Nat.beq k k') true) (.two (.nn n n') (.ff f f'))
 | .mp n f,.mp n' f'=>.two (.nn n n') (.mm f f')
 | .it mk n s,.it mk' n' s'=>.two (.bb (tI ρ mk' mk) true) (.two (.nn n n') (.ss s s'))
 | .mx,.mx=>.nil
 | _,_=>.bad
def acs (ρ:Ren) (sl:List (Nat × AV)):List (Nat × AV)→CT
 | []=>.nil
 | (t,x) :: r=>.two (Wh ρ (St.get sl t) x) (acs ρ sl r)
def Wi (ρ:Ren) (lb:List (Nat × bP)):List (Nat × bP)→CT
 | []=>.nil
 | (κ,b) :: r=>(match look ρ κ with
  | some (some o)=>(match look lb o with | some c=>.two (aei ρ c b) (Wi ρ lb r) | none=>.bad)
  | some none=>(match b with | .row _ _ n _=>.two (.nn n 0) (Wi ρ lb r) | _=>.bad)
  | none=>.bad)
mutual
theorem Fq {ρ:Ren}:∀ (x y:AV),(Wh ρ x y).ok→∃ p,tJ ρ x y=some p∧p
 | x,y,h=>by
  unfold Wh at h
  split at h
  ·exact ⟨True,by unfold tJ; rfl,trivial⟩
  ·exact ⟨_,by unfold tJ; rfl,aeh h⟩
  ·obtain ⟨h1,h2⟩:=h
   have h1:tI ρ _ _=true:=h1
   exact ⟨_,by unfold tJ; rw [h1]; rfl,h2⟩
  ·obtain ⟨h1,h2⟩:=h
   have h1:TL ρ _=true:=h1
   exact ⟨_=0,by simp [tJ,h1],h2⟩
  ·have h:(tI ρ _ _&&Nat.beq _ _)=true:=h
   exact ⟨True,by unfold tJ; rw [h]; rfl,trivial⟩
  ·exact ⟨_,by unfold tJ; rfl,h⟩
  ·rename_i f l f' l'
   obtain ⟨h1,h2⟩:=h
   have h1:Nat.beq f f'=true:=h1
   obtain ⟨p,hp,hq⟩:=BN l l' h2
   exact ⟨p,by unfold tJ; rw [h1]; exact hp,hq⟩
  ·rename_i l l'
   obtain ⟨p,hp,hq⟩:=BN l l' h
   exact ⟨p,by unfold tJ; exact hp,hq⟩
  ·rename_i l l'
   obtain ⟨p,hp,hq⟩:=BN l l' h
   exact ⟨p,by unfold tJ; exact hp,hq⟩
  ·have h:tI ρ _ _=true:=h
   exact ⟨True,by unfold tJ; rw [h]; rfl,trivial⟩
  ·rename_i n f n' f'
   exact ⟨n=n'∧f=f',by unfold tJ; rfl,h.1,h.2⟩
  ·rename_i n f n' f'
   exact ⟨n=n'∧f=f',by unfold tJ; rfl,h.1,h.2⟩
  ·rename_i n f n' f'
   exact ⟨n=n'∧f=f',by unfold tJ; rfl,h.1,h.2⟩
  ·rename_i κ k i o κ' k' i' o'
   obtain ⟨h1,h2⟩:=h
   have h1:(tI ρ κ' κ&&Nat.beq k k'&&Nat.beq o o')=true:=h1
   exact ⟨i=i',by unfold tJ; rw [h1]; rfl,h2⟩
  ·exact h.elim
theorem BN {ρ:Ren}:∀ (x y:List AV),(Fp ρ x y).ok→∃ p,yM ρ x y=some p∧p
 | [],[],_=>⟨True,by unfold yM; rfl,trivial⟩
 | x :: r,y :: s,h=>by
  unfold Fp at h
  obtain ⟨p,h1,h2⟩:=Fq x y h.1
  obtain ⟨q,h3,h4⟩:=BN r s h.2
  exact ⟨p∧q,by unfold yM; rw [h1,h3],h2,h4⟩
 | [],_ :: _,h=>by unfold Fp at h; exact h.elim
 | _ :: _,[],h=>by unfold Fp at h; exact h.elim
end
theorem acu {ρ:Ren} {b c:bP} (h:(aei ρ b c).ok):∃ p,pv ρ b c=some p∧p:=by
 unfold aei at h
 split at h
 ·rename_i cs C0
  obtain ⟨p,h1,h2⟩:=BN cs C0 h
  exact ⟨p,h1,h2⟩
 ·rename_i e k n f e' k' n' f'
  obtain ⟨h1,h2,h3⟩:=h
  have h1:(Nat.beq e e'&&Nat.beq k k')=true:=h1
  have h3:f=f':=h3
  exact ⟨n=n'∧∀ i,i < n→f i=f' i,by unfold pv; dsimp only; rw [h1]; rfl,h2,fun i _=>by rw [h3]⟩
 ·rename_i n f n' f'
  exact ⟨n=n'∧f=f',rfl,h.1,h.2⟩
 ·rename_i mk n s mk' n' s'
  obtain ⟨h1,h2,h3⟩:=h
  have h1:tI ρ mk' mk=true:=h1
  exact ⟨n=n'∧s=s',by unfold pv; dsimp only; rw [h1]; rfl,h2,h3⟩
 ·exact ⟨True,rfl,trivial⟩
 ·exact h.elim
theorem Q9 {ρ:Ren} {sl:List (Nat × AV)}:∀ {l:List (Nat × AV)},(acs ρ sl l).ok→∃ p,Lq ρ sl l=some p∧p
 | [],_=>⟨True,rfl,trivial⟩
 | (t,x) :: r,h=>by
  obtain ⟨p,h1,h2⟩:=Fq _ _ h.1
  obtain ⟨q,h3,h4⟩:=Q9 h.2
  exact ⟨p∧q,by unfold Lq; rw [h1,h3],h2,h4⟩
theorem Fs {ρ:Ren} {lb:List (Nat × bP)}:∀ {l:List (Nat × bP)},(Wi ρ lb l).ok→∃ p,Je ρ lb l=some p∧p
 | [],_=>⟨True,rfl,trivial⟩
 | (κ,b) :: r,h=>by
  unfold Wi at h
  split at h
  ·rename_i o ho
   split at h
   ·rename_i c hc
    obtain ⟨p,h1,h2⟩:=acu h.1
    obtain ⟨q,h3,h4⟩:=Fs h.2
    exact ⟨p∧q,by unfold Je; rw [ho,h3]; simp only [hc,h1],h2,h4⟩
   ·exact h.elim
  ·rename_i ho
   split at h
   ·obtain ⟨q,h3,h4⟩:=Fs h.2
    exact ⟨_∧q,by unfold Je; rw [ho,h3]; rfl,h.1,h4⟩
   ·exact h.elim
  ·exact h.elim
def G1 (κ:Nat) (o:Option Nat) (ρ:Ren):Ren:=match look ρ κ with | some _=>ρ | none=>(κ,o) :: ρ
mutual
def PW:AV→AV→Ren→Ren
 | .own κ _,.own κ' _,ρ=>G1 κ' (some κ) ρ
 | .d _,.own κ' _,ρ=>G1 κ' none ρ
 | .ptr κ _,.ptr κ' _,ρ=>G1 κ' (some κ) ρ
 | .vp κ,.vp κ',ρ=>G1 κ' (some κ) ρ
 | .zL κ _ _ _,.zL κ' _ _ _,ρ=>G1 κ' (some κ) ρ
 | .fn _ l,.fn _ l',ρ=>Lx l l' ρ
 | .fD l,.fD l',ρ=>Lx l l' ρ
 | .ag l,.ag l',ρ=>Lx l l' ρ
 | _,_,ρ=>ρ
def Lx:List AV→List AV→Ren→Ren
 | x :: r,y :: s,ρ=>Lx r s (PW x y ρ)
 | _,_,ρ=>ρ
end
def aaN (sl:List (Nat × AV)):List (Nat × AV)→Ren→Ren
 | [],ρ=>ρ
 | (t,x) :: r,ρ=>aaN sl r (PW (St.get sl t) x ρ)
def Ly (lb:List (Nat × bP)):List (Nat × bP)→Ren→Ren
 | [],ρ=>ρ
 | (κ,b) :: r,ρ=>Ly lb r (match look ρ κ with
  | some (some o)=>(match look lb o,b with | some (.box cs),.box C0=>Lx cs C0 ρ | some (.it m _ _),.it m' _ _=>G1 m' (some m) ρ | _,_=>ρ)
  | _=>ρ)
def aaO (st st':St):Ren:=Ly st.lb st'.lb (Ly st.lb st'.lb (aaN st.sl st'.sl []))
def N5 (st st':St):CT:=.two (.bb (Fl (aaO st st')) true) (.two (acs (aaO st st') st.sl st'.sl) (Wi (aaO st st') st.lb st'.lb))
theorem xi {st st':St} (h:(N5 st st').ok):N2 st st':=by
 obtain ⟨h1,h2,h3⟩:=h
 obtain ⟨p,q1,q2⟩:=Q9 h2
 obtain ⟨p',q3,q4⟩:=Fs h3
 exact N2.of _ h1 q1 q2 q3 q4
def acv (t:Nat):Nat:=Nat.shiftLeft 1 t
def Lz:Operand→Nat
 | .tmp t=>acv t
 | _=>0
def PX:List Operand→Nat
 | []=>0
 | x :: r=>Nat.lor (Lz x) (PX r)
def aaP:List Oper→Nat
 | []=>0
 | o :: r=>Nat.lor (PX o.op.operands.toList) (aaP r)
def DW:Code→Nat
 | .region _ ops _=>aaP ops.toList
 | .seq a b=>Nat.lor (DW a) (DW b)
 | .cond c a b=>Nat.lor (Lz c) (Nat.lor (DW a) (DW b))
 | .block _ c=>DW c
 | .loop c=>DW c
 | .rangeFunc f _ a b=>Nat.lor (Lz f) (Nat.lor (DW a) (DW b))
 | _=>0
def mB:List Item→Nat
 | []=>0
 | .code c :: r=>Nat.lor (DW c) (mB r)
 | .inLoop c :: r=>Nat.lor (DW c) (mB r)
 | _ :: r=>mB r
def Dv:List ResultVar→Nat
 | []=>0
 | .tmp t :: r=>Nat.lor (acv t) (Dv r)
 | .cell t _ :: r=>Nat.lor (acv t) (Dv r)
def LA (m t:Nat):Bool:=Nat.beq (Nat.land (Nat.shiftRight m t) 1) 1
def uJ (m:Nat):List (Nat × AV)→List (Nat × AV)
 | []=>[]
 | (t,x) :: r=>bif LA m t then (t,x) :: uJ m r else uJ m r
theorem LB (m:Nat):∀ (l:List (Nat × AV)) (t:Nat),look (uJ m l) t=bif LA m t then look l t else none
 | [],t=>by cases LA m t <;> rfl
 | (k,x) :: r,t=>by
  have ih:=LB m r t
  simp only [uJ]
  cases hk:LA m k with
  | true =>
   simp only [cond_true,ca]
   by_cases e:k=t
   ·subst e; simp [hk]
   ·simp only [e,if_false]; exact ih
  | false =>
   simp only [cond_false,ca]
   by_cases e:k=t
   ·subst e; rw [ih,hk]; rfl
   ·simp only [e,if_false]; exact ih
def St.keep (m:Nat) (st:St):St:=⟨uJ m st.sl,st.lb⟩
theorem N2.keep (m:Nat) (st:St):N2 st (st.keep m):=by
 rintro C a w ⟨S,μ,hs⟩
 refine ⟨S,μ,fun ν=>(hs ν).weaken (fun t v hv=>?_) (fun κ b hb=>⟨b,hb,fun _ h=>h⟩)⟩
 simp only [St.gK,St.get,St.keep,LB] at hv ⊢
 cases LA m t with
 | true=>exact hv
 | false=>exact .any _
def Ra (lb:List (Nat × bP)):List Nat→List Nat
 | []=>[]
 | k :: r=>(match look lb k with | some b=>b.keys++Ra lb r | none=>Ra lb r)
def aaQ:List (Nat × AV)→List Nat
 | []=>[]
 | (_,x) :: r=>x.keys++aaQ r
def LC (ks:List Nat):List (Nat × bP)→List (Nat × bP)
 | []=>[]
 | (k,b) :: r=>bif ks.any (fun q=>Nat.beq q k) then (k,b) :: LC ks r else LC ks r
structure Z2 where
 sl:List (Nat × AV):=[]
 lb:List (Nat × bP):=[]
def St.E1 (st:St) (m:Nat) (u:Z2):St :=
 let sl:=u.sl++uJ m (aY (u.sl.map (·.1)) st.sl)
 let lb:=u.lb++aY (u.lb.map (·.1)) st.lb
 let k0:=aaQ sl
 let k1:=Ra lb k0
 let k2:=Ra lb k1
 ⟨sl,LC (k0++k1++k2) lb⟩
structure bH (β:Type) where
 v:β
 kW:β→List CX
 kU:β→Option Prop
 pre:Prop
 pf:pre→∀ p,kU v=some p→p
 post:β→Prop
 hp:post v
def iter {α ι:Type} (f:ι→α ⊕ ι) (d:α):Nat→ι→α
 | 0,_=>d
 | n+1,i=>match f i with | .inl a=>a | .inr j=>iter f d n j
def iX {α β:Type}:α ⊕ β→(β→α)→α
 | .inl a,_=>a
 | .inr b,f=>f b
def sq {α β:Type} (L:α→Prop) (J:β→Prop):α ⊕ β→Prop
 | .inl a=>L a
 | .inr b=>J b
def iY {α ι:Type} (L:α→Prop) (J:ι→Prop):α ⊕ ι→Prop
 | .inl a=>L a
 | .inr j=>J j
structure ItC (Y:Type) where
 P:Program
 gf:FuncId
 cY:List AV
 ys:List Y
 enc:Y→List AV
 pre:Prop
 pf:pre→Y6 P gf cY (ys.map enc)
inductive Sk:Type→Type 1 where
 | fin {α:Type} (a:α):Sk α
 | br {α:Type} (e:Bool) (x y:Sk α):Sk α
 | r {α β:Type} (id:Nat) (c:bH β) (k:β→Sk α):Sk α
 | wi {α:Type} (t:Nat) (m n:Int) (k:Sk α):Sk α
 | wn {α:Type} (κ n n':Nat) (k:Sk α):Sk α
 | KC {α:Type} (k:Sk α):Sk α
 | Dw {α:Type} (k:Sk α):Sk α
 | dead {α:Type} (a:α):Sk α
 | GG {α:Type} (t j n:Nat) (k:Sk α):Sk α
 | XN {α:Type} (t:Nat) (c:Bool) (x y:AV) (k1 k2:Sk α):Sk α
 | VJ {α:Type} (t n:Nat) (k1 k2:Sk α):Sk α
 | fz {α:Type} (κ:Nat) (k:Sk α):Sk α
 | op {α:Type} (κ:Nat) (k:List (Int × Int)→Sk α):Sk α
 | cl {α:Type} (κ:Nat) (m:List (Int × Int)) (k:Sk α):Sk α
 | PV {α:Type} (id:Nat) (x:Int) (c:tF) (k:Sk α):Sk α
 | mr {α γ:Type} (n:Nat) (V:γ→Prop) (init:γ) (u:γ→List Nat→Z2) (v:γ→Z2) (b:γ→Nat→Sk γ) (k:γ→Sk α):Sk α
 | bind {α β:Type} (blk:Bool) (J:β→Prop) (s:Sk (α ⊕ β)) (u:β→Z2) (k:β→Sk α):Sk α
 | loop {α ι:Type} (d:α) (I:ι→Prop) (m:ι→Nat) (i0:ι) (u:ι→Z2) (b:ι→Sk (α ⊕ ι)):Sk α
 | rf {α σ β Y:Type} (it:ItC Y) (I:Nat→σ→Prop) (B:β→Prop) (id:Nat) (s0:σ) (u:σ→List (Nat × bP)) (v:β→List (Nat × bP)) (b:σ→Y→Sk (β ⊕ σ)) (k:β ⊕ σ→Sk α):Sk α
abbrev Sk.bt {α β:Type} (s:Sk (α ⊕ β)) (u:β→Z2) (k:β→Sk α):Sk α:=.bind true (fun _=>True) s u k
abbrev Sk.lt {α:Type} (t j i n:Nat) (x y:Sk α):Sk α:=.GG t j n (.br (decide ((i:Int) < (n:Int))) x y)
def Sk.val:{α:Type}→Sk α→α
 | _,.fin a=>a
 | _,.br e x y=>bif e then x.val else y.val
 | _,.r _ c k=>(k c.v).val
 | _,.wi _ _ _ k=>k.val
 | _,.wn _ _ _ k=>k.val
 | _,.KC k=>k.val
 | _,.Dw k=>k.val
 | _,.dead a=>a
 | _,.GG _ _ _ k=>k.val
 | _,.XN _ c _ _ x y=>bif c then x.val else y.val
 | _,.VJ _ _ _ k=>k.val
 | _,.fz _ k=>k.val
 | _,.op _ k=>(k []).val
 | _,.cl _ _ k=>k.val
 | _,.PV _ _ _ k=>k.val
 | _,.mr n _ init _ _ b k=>(k ((List.range n).foldr (fun i g=>(b g i).val) init)).val
 | _,.bind _ _ s _ k=>iX s.val fun b=>(k b).val
 | _,.loop d _ m i0 _ b=>iter (fun i=>(b i).val) d (m i0+1) i0
 | _,.rf it _ _ _ s0 _ _ b k=>(k (ry (fun s y=>(b s y).val) it.ys s0)).val
def Sk.dj:{α:Type}→Sk α→(α→Prop)→Prop
 | _,.fin a,L=>L a
 | _,.br e x y,L=>(e=true→x.dj L)∧(e=false→y.dj L)
 | _,.r _ c k,L=>∀ x,x=c.v→c.post x→(k x).dj L
 | _,.wi _ _ _ k,L=>k.dj L
 | _,.wn _ _ _ k,L=>k.dj L
 | _,.KC k,L=>k.dj L
 | _,.Dw k,L=>k.dj L
 | _,.dead a,L=>L a
 | _,.GG _ _ _ k,L=>k.dj L
 | _,.XN _ c _ _ x y,L=>(c=true→x.dj L)∧(c=false→y.dj L)
 | _,.VJ _ _ _ k,L=>k.dj L
 | _,.fz _ k,L=>k.dj L
 | _,.op _ k,L=>(k []).dj L
 | _,.cl _ _ k,L=>k.dj L
 | _,.PV _ _ _ k,L=>k.dj L
 | _,.mr n V init _ _ b k,L=>V init∧(∀ g i,V g→i < n→(b g i).dj V)∧∀ g,g=(List.range n).foldr (fun i g=>(b g i).val) init→V g→(k g).dj L
 | _,.bind _ J s _ k,L=>s.dj (sq L J)∧∀ b,s.val=.inr b→J b→(k b).dj L
 | _,.loop _ I m i0 _ b,L=>I i0∧∀ i,I i→(b i).dj (iY L fun j=>I j∧m j < m i)
 | _,.rf it I B _ s0 _ _ b k,L=>I 0 s0∧(∀ i s y,I i s→it.ys[i]? = some y→(b s y).dj (iY B (I (i+1))))∧∀ r,r=ry (fun s y=>(b s y).val) it.ys s0→iY B (I it.ys.length) r→(k r).dj L
def Sk.bC:{α:Type}→Sk α→(α→Prop)→Prop
 | _,.fin a,L=>L a
 | _,.br e x y,L=>(e=true→x.bC L)∧(e=false→y.bC L)
 | _,.r _ c k,L=>c.pre∧∀ x,x=c.v→c.post x→(k x).bC L
 | _,.wi _ m n k,L=>m=n∧k.bC L
 | _,.wn _ n n' k,L=>n=n'∧k.bC L
 | _,.KC k,L=>k.bC L
 | _,.Dw k,L=>k.bC L
 | _,.dead _,_=>False
 | _,.GG _ _ n k,L=>n≤maxLen→k.bC L
 | _,.XN _ c _ _ x y,L=>(c=true→x.bC L)∧(c=false→y.bC L)
 | _,.VJ _ n k1 k2,L=>(n=0→k1.bC L∧k1.val=k2.val)∧k2.bC L
 | _,.fz _ k,L=>k.bC L
 | _,.op _ k,L=>∀ m,(k m).val=(k []).val∧(k m).bC L
 | _,.cl _ _ k,L=>k.bC L
 | _,.PV _ x c k,L=>(0≤x∧x≤(c.n:Int))∧k.bC L
 | _,.mr n V init _ _ b k,L=>V init∧(∀ g i,V g→i < n→(b g i).dj V∧(b g i).bC fun _=>True)∧(∀ g i j,V g→i < n→j < n→i≠j→(b (b g j).val i).val=(b (b g i).val j).val)∧∀ g,g=(List.range n).foldr (fun i g=>(b g i).val) init→V g→(k g).bC L
 | _,.bind _ J s _ k,L=>s.bC (sq L J)∧∀ b,s.val=.inr b→J b→(k b).bC L
 | _,.loop _ I m i0 _ b,L=>I i0∧∀ i,I i→(b i).bC (iY L fun j=>I j∧m j < m i)
 | _,.rf it I B _ s0 _ _ b k,L=>it.pre∧I 0 s0∧(∀ i s y,I i s→it.ys[i]? = some y→(b s y).dj (iY B (I (i+1)))∧(b s y).bC (iY B (I (i+1))))∧∀ r,r=ry (fun s y=>(b s y).val) it.ys s0→iY B (I it.ys.length) r→(k r).bC L
theorem PY {σ β Y:Type} {f:σ→Y→β ⊕ σ} {I:Nat→σ→Prop} {B:β→Prop} (l:List Y) (h:∀ i s y,I i s→l[i]? = some y→iY B (I (i+1)) (f s y)) (s:σ) (hs:I 0 s):iY B (I l.length) (ry f l s):=by
 have:=Lr (f:=f) (I:=I) (B:=B) l 0 (fun i s y hs hy=>by
  rw [Nat.zero_add] at hs ⊢
  have:=h i s y hs hy
  cases e:f s y <;> rw [e] at this <;> exact this) s hs
 rw [Nat.zero_add] at this
 cases e:ry f l s <;> rw [e] at this <;> exact this
theorem yO {γ:Type} {V:γ→Prop} {f:γ→Nat→γ} {n:Nat} (hf:∀ g i,V g→i < n→V (f g i)) {init:γ} (h0:V init):∀ (s:List Nat),(∀ i,i∈s→i < n)→V (s.foldr (fun i g=>f g i) init)
 | [],_=>h0
 | i :: s,h=>hf _ i (yO hf h0 s (fun j hj=>h j (List.mem_cons_of_mem _ hj))) (h i List.mem_cons_self)
theorem Wj {γ:Type} {V:γ→Prop} {f:γ→Nat→γ} {n:Nat} (hf:∀ g i,V g→i < n→V (f g i)) (hc:∀ g i j,V g→i < n→j < n→i≠j→f (f g j) i=f (f g i) j) {init:γ} (h0:V init) {s t:List Nat} (h:s.Perm t) :
  (∀ i,i∈s→i < n)→s.foldr (fun i g=>f g i) init=t.foldr (fun i g=>f g i) init:=by
 induction h with
 | nil=>intro _; rfl
 | cons x _ ih=>intro hs; simp only [List.foldr_cons]; rw [ih (fun i hi=>hs i (List.mem_cons_of_mem _ hi))]
 | swap x y l =>
  intro hs
  simp only [List.foldr_cons]
  by_cases e:x=y
  ·rw [e]
  ·exact hc _ y x (yO hf h0 l (fun i hi=>hs i (by simp [hi]))) (hs y (by simp)) (hs x (by simp)) (fun e'=>e e'.symm)
 | trans h1 _ ih1 ih2=>intro hs; rw [ih1 hs,ih2 (fun i hi=>hs i (h1.mem_iff.2 hi))]
theorem PZ {α ι:Type} {f:ι→α ⊕ ι} {d:α} {L:α→Prop} {I:ι→Prop} {m:ι→Nat} (h:∀ i,I i→iY L (fun j=>I j∧m j < m i) (f i)):∀ (n:Nat) (i:ι),I i→m i < n→L (iter f d n i)
 | 0,i,_,hn=>absurd hn (by omega)
 | n+1,i,hi,hn=>by
  have:=h i hi
  simp only [iter]
  cases hf:f i with
  | inl a=>rw [hf] at this; exact this
  | inr j=>rw [hf] at this; exact PZ h n j this.1 (by have:=this.2; omega)
theorem Sk.dk:{α:Type}→(s:Sk α)→{L:α→Prop}→s.dj L→L s.val
 | _,.fin a,_,h=>h
 | _,.br e x y,L,h=>by
  cases e with
  | true=>exact x.dk (h.1 rfl)
  | false=>exact y.dk (h.2 rfl)
 | _,.r _ c k,L,h=>(k c.v).dk (h _ rfl c.hp)
 | _,.wi _ _ _ k,L,h=>k.dk (L:=L) h
 | _,.wn _ _ _ k,L,h=>k.dk (L:=L) h
 | _,.KC k,L,h=>k.dk (L:=L) h
 | _,.Dw k,L,h=>k.dk (L:=L) h
 | _,.dead _,_,h=>h
 | _,.GG _ _ n k,L,h=>k.dk (L:=L) h
 | _,.XN _ c _ _ x y,L,h=>by
  cases c with
  | true=>exact x.dk (h.1 rfl)
  | false=>exact y.dk (h.2 rfl)
 | _,.VJ _ _ _ k,L,h=>k.dk (L:=L) h
 | _,.fz _ k,L,h=>k.dk (L:=L) h
 | _,.op _ k,L,h=>(k []).dk (L:=L) h
 | _,.cl _ _ k,L,h=>k.dk (L:=L) h
 | _,.PV _ _ _ k,L,h=>k.dk (L:=L) h
 | _,.mr n V init _ _ b k,L,h=>(k _).dk (h.2.2 _ rfl (yO (fun g i hg hi=>(b g i).dk (h.2.1 g i hg hi)) h.1 _ (fun i hi=>List.mem_range.1 hi)))
 | _,.bind _ J s _ k,L,h=>by
  have h1:=s.dk h.1
  show L (iX s.val fun b=>(k b).val)
  cases hs:s.val with
  | inl a=>rw [hs] at h1; exact h1
  | inr b=>rw [hs] at h1; exact (k b).dk (h.2 b hs h1)
 | _,.loop d I m i0 _ b,L,h=>PZ (f:=fun i=>(b i).val) (fun i hi=>(b i).dk (h.2 i hi)) (m i0+1) i0 h.1 (Nat.lt_succ_self _)
 | _,.rf it I B _ s0 _ _ b k,L,h=>(k _).dk (h.2.2 _ rfl (PY it.ys (fun i s y hs hy=>(b s y).dk (h.2.1 i s y hs hy)) s0 h.1))
def wnA (κ n':Nat):AV→AV
 | .own k m=>bif Nat.beq k κ then .own k n' else .own k m
 | x=>x
def wnC (κ n:Nat):AV→CT
 | .own k m=>bif Nat.beq k κ then .nn m n else .nil
 | _=>.nil
def acw (κ n':Nat):List AV→List AV
 | []=>[]
 | x :: r=>wnA κ n' x :: acw κ n' r
def aej (κ n:Nat):List AV→CT
 | []=>.nil
 | x :: r=>.two (wnC κ n x) (aej κ n r)
def acx (κ n':Nat):List (Nat × AV)→List (Nat × AV)
 | []=>[]
 | (t,x) :: r=>(t,wnA κ n' x) :: acx κ n' r
def aaR (κ n:Nat):List (Nat × AV)→CT
 | []=>.nil
 | (_,x) :: r=>.two (wnC κ n x) (aaR κ n r)
def N6 (κ n':Nat):List (Nat × bP)→List (Nat × bP)
 | []=>[]
 | (k,.box cs) :: r=>(k,.box (acw κ n' cs)) :: N6 κ n' r
 | (k,.row e q n f) :: r=>(k,.row e q (bif Nat.beq k κ then n' else n) f) :: N6 κ n' r
 | (k,b) :: r=>(k,b) :: N6 κ n' r
def IA (κ n:Nat) (n':Nat):List (Nat × bP)→CT
 | []=>.nil
 | (_,.box cs) :: r=>.two (aej κ n cs) (IA κ n n' r)
 | (k,.row _ _ m _) :: r=>.two (bif Nat.beq k κ then .nn m n' else .nil) (IA κ n n' r)
 | (_,_) :: r=>IA κ n n' r
theorem aaS {κ n:Nat} {x:AV} (h:(wnC κ n x).ok):wnA κ n x=x:=by
 unfold wnC at h
 split at h
 ·rename_i k m
  show (bif Nat.beq k κ then AV.own k n else AV.own k m)=AV.own k m
  cases hb:Nat.beq k κ with
  | true =>
   rw [hb] at h
   have h:m=n:=h
   subst h
   rfl
  | false=>rfl
 ·rename_i YK
  cases x <;> first | rfl | exact absurd rfl (YK _ _)
theorem XO {κ n:Nat}:∀ {l:List AV},(aej κ n l).ok→acw κ n l=l
 | [],_=>rfl
 | x :: r,h=>by simp only [acw,aaS h.1,XO h.2]
theorem XP {κ n:Nat}:∀ {l:List (Nat × AV)},(aaR κ n l).ok→acx κ n l=l
 | [],_=>rfl
 | (t,x) :: r,h=>by simp only [acx,aaS h.1,XP h.2]
theorem C4 {κ n:Nat}:∀ {l:List (Nat × bP)},(IA κ n n l).ok→N6 κ n l=l
 | [],_=>rfl
 | (k,.box cs) :: r,h=>by simp only [N6,XO h.1,C4 h.2]
 | (k,.row e q m f) :: r,h=>by
  simp only [N6,C4 h.2]
  have h1:=h.1
  cases hb:Nat.beq k κ with
  | false=>rfl
  | true =>
   rw [hb] at h1
   have h1:m=n:=h1
   subst h1
   rfl
 | (k,.mp _ _) :: r,h=>by have h:(IA κ n n r).ok:=h; simp only [N6,C4 h]
 | (k,.it _ _ _) :: r,h=>by have h:(IA κ n n r).ok:=h; simp only [N6,C4 h]
 | (k,.mx) :: r,h=>by have h:(IA κ n n r).ok:=h; simp only [N6,C4 h]
def P1 (lb:List (Nat × bP)):AV→Option Nat
 | .d (.sl q _)=>some q
 | .own κ _=>(match look lb κ with | some (.row _ _ q _)=>some q | _=>none)
 | _=>none
def TW (st:St) (t j:Nat):Option Nat :=
 match St.get st.sl t with
 | .ptr κ _=>(match look st.lb κ with | some (.box cs)=>bif Nat.ble (j+1) cs.length then P1 st.lb (cs.getD j default) else none | _=>none)
 | .ref cs=>bif Nat.ble (j+1) cs.length then P1 st.lb (.d (cs.getD j default)) else none
 | .d (.agg cs)=>bif Nat.ble (j+1) cs.length then P1 st.lb (.d (cs.getD j default)) else none
 | x=>P1 st.lb x
def fzA (κ:Nat) (f:Nat→List D):AV→AV
 | .own k m=>bif Nat.beq k κ then .d (.sl m f) else .own k m
 | x=>x
def fzC (κ n:Nat):AV→CT
 | .own k m=>bif Nat.beq k κ then .nn m n else .nil
 | x=>.bb (x.keys.any fun k=>Nat.beq k κ) false
def Wk (κ:Nat) (f:Nat→List D):List AV→List AV
 | []=>[]
 | x :: r=>fzA κ f x :: Wk κ f r
def aek (κ n:Nat):List AV→CT
 | []=>.nil
 | x :: r=>.two (fzC κ n x) (aek κ n r)
def aaT (κ:Nat) (f:Nat→List D):List (Nat × AV)→List (Nat × AV)
 | []=>[]
 | (t,x) :: r=>(t,fzA κ f x) :: aaT κ f r
def XQ (κ n:Nat):List (Nat × AV)→CT
 | []=>.nil
 | (_,x) :: r=>.two (fzC κ n x) (XQ κ n r)
def fzB (κ:Nat) (f:Nat→List D):bP→bP
 | .box cs=>.box (Wk κ f cs)
 | b=>b
def afN (κ n:Nat):bP→CT
 | .box cs=>aek κ n cs
 | .it m _ _=>.bb (Nat.beq m κ) false
 | _=>.nil
def Wl (κ:Nat) (f:Nat→List D):List (Nat × bP)→List (Nat × bP)
 | []=>[]
 | (k,b) :: r=>bif Nat.beq k κ then Wl κ f r else (k,fzB κ f b) :: Wl κ f r
def XR (κ n:Nat):List (Nat × bP)→CT
 | []=>.nil
 | (k,b) :: r=>.two (bif Nat.beq k κ then .nil else afN κ n b) (XR κ n r)
theorem TX (κ n:Nat) (f:Nat→List D):∀ (l:List (Nat × AV)) (t:Nat),(XQ κ n l).ok→St.get (aaT κ f l) t=fzA κ f (St.get l t)∧(fzC κ n (St.get l t)).ok
 | [],t,_=>⟨rfl,rfl⟩
 | (k,x) :: r,t,h=>by
  obtain ⟨i1,i2⟩:=TX κ n f r t h.2
  simp only [St.get,aaT,ca] at i1 i2 ⊢
  by_cases e:k=t
  ·simp only [e,if_true]
   exact ⟨trivial,h.1⟩
  ·simp only [e,if_false]
   exact ⟨i1,i2⟩
theorem vw (κ n:Nat) (f:Nat→List D):∀ (l:List (Nat × bP)) (κ':Nat) (b:bP),(XR κ n l).ok→look (Wl κ f l) κ'=some b→κ'≠κ∧∃ c,look l κ'=some c∧b=fzB κ f c∧(afN κ n c).ok
 | [],κ',b,_,h=>by simp [Wl,look] at h
 | (k,c) :: r,κ',b,h,hl=>by
  have h1:=h.1
  simp only [Wl] at hl
  cases hb:Nat.beq k κ with
  | true =>
   rw [hb] at hl
   simp only [cond_true] at hl
   obtain ⟨q1,d,q2,q3⟩:=vw κ n f r κ' b h.2 hl
   have hk:=Nat.eq_of_beq_eq_true hb
   refine ⟨q1,d,?_,q3⟩
   rw [ca,if_neg (fun e=>q1 (by omega))]
   exact q2
  | false =>
   rw [hb] at hl h1
   simp only [cond_false,ca] at hl h1
   split at hl
   ·rename_i e
    subst e
    simp only [Option.some.injEq] at hl
    subst hl
    refine ⟨fun e=>(by rw [e,Nat.beq_refl] at hb; cases hb),c,(by rw [ca,if_pos rfl]),rfl,h1⟩
   ·rename_i e
    obtain ⟨q1,d,q2,q3⟩:=vw κ n f r κ' b h.2 hl
    exact ⟨q1,d,by rw [ca,if_neg e]; exact q2,q3⟩
theorem N2.fz {st:St} {κ e k n:Nat} {f:Nat→List D} (hl:look st.lb κ=some (.row e k n f)) (h1:(XQ κ n st.sl).ok) (h2:(XR κ n st.lb).ok):N2 st ⟨aaT κ f st.sl,Wl κ f st.lb⟩:=by
 rintro C a w ⟨S,μ,hs⟩
 have GY:=hs fun _=>false
 have hm:=GY.mem κ _ hl
 let S':Nat→Prop:=fun q=>S q∨∃ c,μ κ=some (some (q,c))
 have hS:∀ q,S q→S' q:=fun _ h=>.inl h
 have main:∀ {ν:Nat→Bool} {x:AV} {v:Value},(fzC κ n x).ok→Rel w S μ ν x v→Rel w S' μ ν (fzA κ f x) v:=by
  intro ν x v hc hr
  have other:fzA κ f x=x→Rel w S' μ ν (fzA κ f x) v:=fun e=>by rw [e]; exact hr.mono hS (fun _ _=>rfl) (fun _ _ e=>e)
  cases x with
  | own q m =>
   cases hb:Nat.beq q κ with
   | false=>exact other (by simp [fzA,hb])
   | true =>
    have e:=Nat.eq_of_beq_eq_true hb
    subst e
    simp only [fzC,hb,cond_true] at hc
    have hc:m=n:=hc
    subst hc
    simp only [fzA,hb,cond_true]
    cases hr with
    | @dt _ ad hμ =>
     cases ad with
     | none=>exact .d (.nil f)
     | some ad=>exact .d (.sl 0 f ad 0 0 (fun _ _=>undef) (Nat.le_refl _) (by simp [maxLen]) (.inl rfl) (fun i hi=>absurd hi (by omega)) (fun i j hi=>absurd hi (by omega)) (fun i j hi=>absurd hi (by omega)))
    | @own _ _ g cap hμ =>
     rw [hμ] at hm
     obtain ⟨cur,hg,_,kM,hn,hcp,rq⟩:=hm.at
     refine .d (.sl m f ⟨g,0,none⟩ cap k (fun i j=>(cur[i * k+j]?).getD undef) hn hcp (.inr rfl) (fun i hi=>(rq i hi).1) (fun i j hi hj=>⟨.inr ⟨cap,hμ⟩,?_⟩) (fun i j hi hj=>?_))
     ·obtain ⟨u,hu,_⟩:=(rq i hi).2 j hj
      rw [Nat.zero_add,iJ w g _ cur e _ hg,hu]
      rfl
     ·obtain ⟨u,hu,VV⟩:=(rq i hi).2 j hj
      rw [hu]
      exact VV.mono hS (fun _ _=>rfl)
  | any=>exact other rfl
  | d=>exact other rfl
  | ptr=>exact other rfl
  | zL=>exact other rfl
  | ref=>exact other rfl
  | Bo=>exact other rfl
  | vp=>exact other rfl
  | CP=>exact other rfl
  | fn=>exact other rfl
  | fD=>exact other rfl
  | ag=>exact other rfl
  | g=>exact other rfl
 refine ⟨S',μ,fun ν=>?_⟩
 have Z3:=hs ν
 refine ⟨Z3.tmps,Z3.defers,fun t=>?_,fun κ' b hb=>?_,fun κ1 κ2 b1 b2 g c c' q1 q2 q3 q4=>?_,fun κ' b g c q1 q2=>?_,fun b hb=>.inl (Z3.fU b hb),fun b hb=>?_,fun b hb=>?_,Z3.kept⟩
 ·obtain ⟨e1,e2⟩:=TX κ n f st.sl t h1
  simp only [St.gK]
  rw [e1]
  exact main e2 (Z3.fa t)
 ·obtain ⟨vD,c,hc,rfl,SQ⟩:=vw κ n f st.lb κ' b h2 hb
  have Bq:=Z3.mem κ' c hc
  have hnS:∀ g cc,μ κ'=some (some (g,cc))→¬ S' g:=fun g cc hμ' hS'=>by
   rcases hS' with h | ⟨c2,I9⟩
   ·rw [hμ'] at Bq; exact Bq.at.not h
   ·exact vD (Z3.inj κ' κ c _ g cc c2 hc hl hμ' I9)
  have XS:=Bq.mono (S':=S') hS (fun _ _=>rfl) (fun _ _ e=>e) (fun g cc e=>⟨rfl,hnS g cc e⟩)
  cases c with
  | box cs =>
   cases hμ':μ κ' with
   | none=>rw [hμ'] at Bq; exact Bq.elim
   | some y =>
    cases y with
    | none=>rw [hμ'] at Bq; exact Bq.elim
    | some gc =>
     obtain ⟨g,cc⟩:=gc
     rw [hμ'] at Bq
     obtain ⟨cur,e0,x1,x2,x3,x4⟩:=Bq.at
     have hlen:∀ (l:List AV),(Wk κ f l).length=l.length:=fun l=>by induction l with | nil=>rfl | cons _ _ ih=>simp [Wk,ih]
     have NY:∀ (l:List AV) (j:Nat),j < l.length→(aek κ n l).ok→(Wk κ f l).getD j default=fzA κ f (l.getD j default)∧(fzC κ n (l.getD j default)).ok:=fun l=>by
      induction l with
      | nil=>intro j hj; exact absurd hj (by simp)
      | cons x r ih =>
       intro j hj hk
       cases j with
       | zero=>exact ⟨rfl,hk.1⟩
       | succ j=>simpa [Wk] using ih j (by simpa using hj) hk.2
     refine eH.ok (b:=.box (Wk κ f cs)) ⟨cur,e0,x1,hnS g cc hμ',by rw [hlen]; exact x3,fun j hj=>?_⟩
     rw [hlen] at hj
     obtain ⟨x,y1,y2⟩:=x4 j hj
     obtain ⟨z1,z2⟩:=NY cs j hj SQ
     exact ⟨x,y1,fun ν'=>by rw [z1]; exact main z2 (y2 ν')⟩
  | row=>exact XS
  | mp=>exact XS
  | it=>exact XS
  | mx=>exact XS
 ·obtain ⟨_,d1,e1,_⟩:=vw κ n f st.lb κ1 b1 h2 q1
  obtain ⟨_,d2,e2,_⟩:=vw κ n f st.lb κ2 b2 h2 q2
  exact Z3.inj κ1 κ2 d1 d2 g c c' e1 e2 q3 q4
 ·obtain ⟨_,d1,e1,_⟩:=vw κ n f st.lb κ' b h2 q1
  exact Z3.own κ' d1 g c e1 q2
 ·rcases hb with h | ⟨c,hc⟩
  ·exact Z3.fresh b h
  ·rcases Z3.own κ _ b c hl hc with h | h
   ·exact .inr (.inl h)
   ·exact .inr (.inr h)
 ·rcases hb with h | ⟨c,hc⟩
  ·exact Z3.bound b h
  ·rw [hc] at hm
   exact hm.at.lt
def Wm (ops:Array Oper):Option (Nat × Nat × Nat) :=
 match ops.toList with
 | [o1,o2]=>(match o1.op,o1.dst,o1.guard,o2.op,o2.dst,o2.guard with
  | .next (.tmp it) false,some d1,none,.extract (.tmp Z0) 0,some d2,none=>bif Nat.beq d1 Z0 then some (it,d1,d2) else none
  | _,_,_,_,_,_=>none)
 | _=>none
def qO:Code→Option (Array Oper × List Item)
 | .seq x y=>(match qO x with | some (ops,l)=>some (ops,l++[.code y]) | none=>none)
 | .region _ ops false=>some (ops,[])
 | _=>none
def Wn (st:St) (d1 d2 κi κ n i:Nat) (s:List Nat):St:=⟨(d2,.d (.v (.bool true))) :: aY [d1,d2] st.sl,(κi,.it κ n (i :: s)) :: aY [κi] st.lb⟩
def LD (st:St) (d1 d2 it:Nat):St:=⟨(d2,.d (.v (.bool false))) :: aY [d1,d2,it] st.sl,st.lb⟩
inductive aaU where
 | ret (x:AV) (c6:List (Nat × bP))
 | Y5 (x:AV) (c6:List (Nat × bP)) (jX:List (Nat × Nat))
 | go (todo:List Item) (st:St)
 | brk (id:Nat) (st:St)
def Wo (g:Goal):aaU→Prop
 | .ret x c6=>g.Nrm∧g.res=x∧g.c6=c6
 | .Y5 x c6 jX=>g.TJ jX∧g.res=x∧g.c6=c6
 | .go todo st=>G g todo st
 | .brk id st=>∀ k,exitTo id k=none→G g (.code (.exit id) :: k) st
def acy (T:List (Nat × TI)) (rs:List ResultVar) (st:St) (x:AV) (c6:List (Nat × bP)):CT :=
 match xg T st rs with
 | some (l,_,ob)=>(match c6 with
  | []=>(match yJ st.lb l with | some (l',_,E0)=>.two (El ob) (.two (El E0) (Wh [] (tG l') x)) | none=>.bad)
  | c6=>.two (El ob) (.two (.bb (Fl (Ly st.lb c6 (PW (tG l) x []))) true) (.two (Wh (Ly st.lb c6 (PW (tG l) x [])) (tG l) x) (Wi (Ly st.lb c6 (PW (tG l) x [])) st.lb c6))))
 | none=>.bad
def afO (jX:List (Nat × Nat)):List (Nat × AV):=jX.map fun p=>(p.1,.ptr p.2 0)
def acz (st:St) (x:AV) (c6:List (Nat × bP)) (jX:List (Nat × Nat)) (l:List AV):Ren:=Ly st.lb c6 (aaN st.sl (afO jX) (PW (tG l) x []))
def XT (T:List (Nat × TI)) (rs:List ResultVar) (st:St) (x:AV) (c6:List (Nat × bP)) (jX:List (Nat × Nat)):CT :=
 match xg T st rs with
 | some (l,_,ob)=>.two (El ob) (.two (.bb (Fl (acz st x c6 jX l)) true) (.two (Wh (acz st x c6 jX l) (tG l) x) (.two (acs (acz st x c6 jX l) st.sl (afO jX)) (Wi (acz st x c6 jX l) st.lb c6))))
 | none=>.bad
def qP (P:Program) (T:List (Nat × TI)) (nt:Nat) (rm:Nat) (md:Nat) (pr:List Nat) (todo:List Item) (st:St):Option (List Item × St × CT) :=
 match todo with
 | .code (.seq x y) :: k=>some (.code x :: .code y :: k,st,.nil)
 | .code .skip :: k=>some (k,st,.nil)
 | .code (.label _) :: k=>some (k,st,.nil)
 | .code (.cond (.const (.bool e)) x y) :: k=>some (.code (bif e then x else y) :: k,st,.nil)
 | .code (.block id c) :: k=>some (.code c :: .inBlock id :: k,st,.nil)
 | .inBlock _ :: k=>some (k,st,.nil)
 | .code (.exit id) :: k=>(match exitTo id k with | some k'=>some (k',st,.nil) | none=>none)
 | .code (.region _ ops draw) :: k=>(match ru P T nt ops draw none st [] with
  | some (st',ob)=>some (k,st'.keep (Nat.lor rm (mB k)),.two (.bb (Jd md pr ops) true) (El ob))
  | none=>none)
 | _=>none
def acA (c:Bool):AV→AV→AV
 | .d x,.d y=>.d (bif c then x else y)
 | x,y=>bif c then x else y
theorem acB (c:Bool) (x y:AV):acA c x y=bif c then x else y:=by
 unfold acA
 split
 ·cases c <;> rfl
 ·rfl
def SJ (rm:Nat) (todo:List Item):Nat:=Nat.lor rm (mB todo)
def aaV (P:Program) (T:List (Nat × TI)) (nt:Nat) (rm:Nat) (md:Nat) (pr:List Nat):Nat→List Item→St→Option (List Item × St × CT)
 | 0,_,_=>none
 | n+1,todo,st=>(match todo with
  | .beginRound :: k=>some (.beginRound :: k,st,.nil)
  | todo=>(match qP P T nt rm md pr todo st with
   | some (k,pV,c)=>(match aaV P T nt rm md pr n k pV with
    | some (k',st2,c')=>some (k',st2,.two c c')
    | none=>none)
   | none=>none))
def aaW (P:Program) (T:List (Nat × TI)) (nt:Nat) (rm:Nat) (md:Nat) (pr:List Nat) (n:Nat) (todo:List Item) (st:St):St:=match aaV P T nt rm md pr n todo st with | some (_,st2,_)=>st2 | none=>⟨[],[]⟩
def afP (P:Program) (T:List (Nat × TI)) (nt:Nat) (rm:Nat) (md:Nat) (pr:List Nat) (n:Nat) (todo:List Item) (st:St) (k:List Item):CT:=match aaV P T nt rm md pr n todo st with | some (k',_,c)=>.two c (.td k' k) | none=>.bad
def mxf (m:List (Int × Int)):Nat→Value × D:=fun i=>(.int .i64 (m.getD i default).1,.v (.int .i64 (m.getD i default).2))
def rk (P:Program) (T:List (Nat × TI)) (nt:Nat) (rs:List ResultVar) (rm:Nat) (md:Nat) (pr:List Nat):Nat→{α:Type}→List Item→St→(α→aaU)→Sk α→CT
 | 0,_,_,_,_,_=>.bad
 | n+1,_,todo,st,L,sk =>
  match sk with
  | .op κ k=>(match look st.lb κ with
   | some .mx=>.pi fun m=>rk P T nt rs rm md pr n todo ⟨st.sl,(κ,.mp m.length (mxf m)) :: aY [κ] st.lb⟩ L (k m)
   | _=>.bad)
  | .cl κ m k=>(match look st.lb κ with
   | some (.mp q f)=>.two (.nn q m.length) (.two (.mm f (mxf m)) (rk P T nt rs rm md pr n todo ⟨st.sl,(κ,.mx) :: aY [κ] st.lb⟩ L k))
   | _=>.bad)
  | .PV id x c k=>(match todo with
   | .code (.region i ops false) :: K=>bif Nat.beq i id then (match aaI ops with
    | some (ts,ti,ty,d1,d2,d3)=>(match St.get st.sl ts,St.get st.sl ti,look T ty with
     | .own κ m,.d (.v (.int .i64 xx)),some { kind:=.slice e',.. }=>(match look st.lb κ,look T e' with
      | some (.row e q m2 f),some i=>.two (.bb (Nat.ble (d1+1) nt&&Nat.ble (d2+1) nt&&Nat.ble (d3+1) nt&&Jd md pr ops&&Nat.beq e e'&&Nat.beq q i.size&&i.zero.all A8&&!Nat.beq ts d1&&!Nat.beq ts d2&&!Nat.beq ts d3) true)
        (.two (.zz xx x) (.two (.nn m m2) (.two (.nn m c.n) (.two (.ff (xN xx.toNat f i.zero) c.f)
        (rk P T nt rs rm md pr n K (St.keep (Nat.lor rm (mB K)) ⟨(ts,.own κ c.n') :: aY [ts,d1,d2,d3] st.sl,(κ,.row e q c.n' c.f') :: aY [κ] st.lb⟩) L k)))))
      | _,_=>.bad)
     | _,_,_=>.bad)
    | none=>.bad)
    else (match qP P T nt rm md pr (.code (.region i ops false) :: K) st with | some (k0,pV,c0)=>.two c0 (rk P T nt rs rm md pr n k0 pV L (.PV id x c k)) | none=>.bad)
   | todo=>(match qP P T nt rm md pr todo st with | some (k0,pV,c0)=>.two c0 (rk P T nt rs rm md pr n k0 pV L (.PV id x c k)) | none=>.bad))
  | .wi t a b k=>.two (.vv (St.get st.sl t) (.d (.v (.int .i64 a)))) (rk P T nt rs rm md pr n todo ⟨(t,.d (.v (.int .i64 b))) :: aY [t] st.sl,st.lb⟩ L k)
  | .GG t j m k=>(match TW st t j with
   | some q=>.two (.nn q m) (rk P T nt rs rm md pr n todo st L k)
   | none=>.bad)
  | .wn κ a b k=>.two (aaR κ a st.sl) (.two (IA κ a b st.lb) (rk P T nt rs rm md pr n todo ⟨acx κ b st.sl,N6 κ b st.lb⟩ L k))
  | .dead _=>.nil
  | .VJ t m k1 k2=>(match St.get st.sl t with
   | .d (.sl q f)=>.two (.nn q m) (.two (rk P T nt rs rm md pr n todo ⟨(t,.d (.v (.slice none 0 0))) :: aY [t] st.sl,st.lb⟩ L k1) (rk P T nt rs rm md pr n todo ⟨(t,.Bo q f) :: aY [t] st.sl,st.lb⟩ L k2))
   | _=>.bad)
  | .fz κ k=>(match look st.lb κ with
   | some (.row _ _ q f)=>.two (XQ κ q st.sl) (.two (XR κ q st.lb) (rk P T nt rs rm md pr n todo ⟨aaT κ f st.sl,Wl κ f st.lb⟩ L k))
   | _=>.bad)
  | .mr m V init u v b k=>(match todo with
   | .code (.loop c) :: K=>(match qO c with
    | some (ops,l)=>(match Wm ops with
     | some (it,d1,d2)=>bif Nat.ble (d1+1) nt&&Nat.ble (d2+1) nt&&Jd md pr ops then
       .two (N5 st (st.E1 (Nat.lor rm (mB (.inLoop c :: K))) (u init [])))
       (.two (.pi fun g=>.pi fun s=>(match St.get (st.E1 (Nat.lor rm (mB (.inLoop c :: K))) (u g s)).sl it with
        | .ptr κi 0=>(match look (st.E1 (Nat.lor rm (mB (.inLoop c :: K))) (u g s)).lb κi with
         | some (.it κ m1 s1)=>(match look (st.E1 (Nat.lor rm (mB (.inLoop c :: K))) (u g s)).lb κ with
          | some (.mp m2 _)=>.two (.nn m1 m) (.two (.nn m2 m) (.two (.ss s1 s) (.two
            (N5 (LD (st.E1 (Nat.lor rm (mB (.inLoop c :: K))) (u g s)) d1 d2 it) ((LD st d1 d2 it).E1 (Nat.lor rm (mB (l++.inLoop c :: K))) (v g)))
            (.pi fun i=>rk P T nt rs rm md pr n (l++.inLoop c :: K) (Wn (st.E1 (Nat.lor rm (mB (.inLoop c :: K))) (u g s)) d1 d2 κi κ m i s) (fun g'=>.go (.inLoop c :: K) (st.E1 (Nat.lor rm (mB (.inLoop c :: K))) (u g' (i :: s)))) (b g i)))))
          | _=>.bad)
         | _=>.bad)
        | _=>.bad))
       (.pi fun g=>rk P T nt rs rm md pr n (l++.inLoop c :: K) ((LD st d1 d2 it).E1 (Nat.lor rm (mB (l++.inLoop c :: K))) (v g)) L (k g))) else .bad
     | none=>.bad)
    | none=>.bad)
   | todo=>(match qP P T nt rm md pr todo st with | some (k0,pV,c)=>.two c (rk P T nt rs rm md pr n k0 pV L (.mr m V init u v b k)) | none=>.bad))
  | .KC x=>(match todo with
   | .code (.cond (.tmp c) p _) :: k=>.two (.vv (St.get st.sl c) (.d (.v (.bool true)))) (rk P T nt rs rm md pr n (.code p :: k) st L x)
   | todo=>(match qP P T nt rm md pr todo st with | some (k,pV,c)=>.two c (rk P T nt rs rm md pr n k pV L (.KC x)) | none=>.bad))
  | .Dw x=>(match todo with
   | .code (.cond (.tmp c) _ q) :: k=>.two (.vv (St.get st.sl c) (.d (.v (.bool false)))) (rk P T nt rs rm md pr n (.code q :: k) st L x)
   | todo=>(match qP P T nt rm md pr todo st with | some (k,pV,c)=>.two c (rk P T nt rs rm md pr n k pV L (.Dw x)) | none=>.bad))
  | .XN t c x y k1 k2=>.two (.vv (St.get st.sl t) (acA c x y)) (.two (rk P T nt rs rm md pr n todo ⟨(t,x) :: aY [t] st.sl,st.lb⟩ L k1) (rk P T nt rs rm md pr n todo ⟨(t,y) :: aY [t] st.sl,st.lb⟩ L k2))
  | .fin a=>(match L a with
   | .go Lo st'=>bif Nat.beq todo.length Lo.length then .two (.td todo Lo) (N5 st st') else
     (match qP P T nt rm md pr todo st with | some (k,pV,c)=>.two c (rk P T nt rs rm md pr n k pV L (.fin a)) | none=>.bad)
   | .brk id st'=>(match todo with
    | .code (.exit id') :: k=>bif Nat.beq id id'&&(exitTo id' k).isNone then N5 st st' else
     (match qP P T nt rm md pr (.code (.exit id') :: k) st with | some (k,pV,c)=>.two c (rk P T nt rs rm md pr n k pV L (.fin a)) | none=>.bad)
    | todo=>(match qP P T nt rm md pr todo st with | some (k,pV,c)=>.two c (rk P T nt rs rm md pr n k pV L (.fin a)) | none=>.bad))
   | .ret x c6=>(match todo with
    | []=>acy T rs st x c6
    | .code .ret :: _=>acy T rs st x c6
    | todo=>(match qP P T nt rm md pr todo st with | some (k,pV,c)=>.two c (rk P T nt rs rm md pr n k pV L (.fin a)) | none=>.bad))
   | .Y5 x c6 jX=>(match todo with
    | []=>XT T rs st x c6 jX
    | .code .ret :: _=>XT T rs st x c6 jX
    | todo=>(match qP P T nt rm md pr todo st with | some (k,pV,c)=>.two c (rk P T nt rs rm md pr n k pV L (.fin a)) | none=>.bad)))
  | .br e x y=>(match todo with
   | .code (.cond (.tmp c) p q) :: k=>.two (.vv (St.get st.sl c) (.d (.v (.bool e)))) (.two (rk P T nt rs rm md pr n (.code p :: k) st L x) (rk P T nt rs rm md pr n (.code q :: k) st L y))
   | todo=>(match qP P T nt rm md pr todo st with | some (k,pV,c)=>.two c (rk P T nt rs rm md pr n k pV L (.br e x y)) | none=>.bad))
  | .r id cl kk=>(match todo with
   | .code (.region i ops draw) :: k=>bif Nat.beq i id then
     .pi fun x=>(match ru P T nt ops draw none st (cl.kW x) with
      | some (st',ob)=>.two (.bb (Jd md pr ops) true) <| .two ob.eqs (.two (.po ob.prop (cl.kU x)) (rk P T nt rs rm md pr n k (st'.keep (Nat.lor rm (mB k))) L (kk x)))
      | none=>.bad)
    else (match qP P T nt rm md pr (.code (.region i ops draw) :: k) st with | some (k,pV,c)=>.two c (rk P T nt rs rm md pr n k pV L (.r id cl kk)) | none=>.bad)
   | todo=>(match qP P T nt rm md pr todo st with | some (k,pV,c)=>.two c (rk P T nt rs rm md pr n k pV L (.r id cl kk)) | none=>.bad))
  | .bind true J s u kk=>(match todo with
   | .code (.block id c) :: k=>.two (rk P T nt rs rm md pr n (.code c :: .inBlock id :: k) st (fun q=>match q with | .inl a=>L a | .inr b=>.go k (st.E1 (Nat.lor rm (mB k)) (u b))) s) (.pi fun b=>rk P T nt rs rm md pr n k (st.E1 (Nat.lor rm (mB k)) (u b)) L (kk b))
   | todo=>(match qP P T nt rm md pr todo st with | some (k,pV,c)=>.two c (rk P T nt rs rm md pr n k pV L (.bind true J s u kk)) | none=>.bad))
  | .bind false J s u kk=>(match todo with
   | .code (.cond (.tmp c) p q) :: k=>.two (rk P T nt rs rm md pr n (.code (.cond (.tmp c) p q) :: k) st (fun q=>match q with | .inl a=>L a | .inr b=>.go k (st.E1 (Nat.lor rm (mB k)) (u b))) s) (.pi fun b=>rk P T nt rs rm md pr n k (st.E1 (Nat.lor rm (mB k)) (u b)) L (kk b))
   | todo=>(match qP P T nt rm md pr todo st with | some (k,pV,c)=>.two c (rk P T nt rs rm md pr n k pV L (.bind false J s u kk)) | none=>.bad))
  | .loop d I m i0 u b=>(match todo with
   | .code (.loop c) :: k=>.two (N5 st (st.E1 (Nat.lor rm (mB (.inLoop c :: k))) (u i0))) (.pi fun i=>rk P T nt rs rm md pr n (.code c :: .inLoop c :: k) (st.E1 (Nat.lor rm (mB (.inLoop c :: k))) (u i)) (fun q=>match q with | .inl a=>L a | .inr j=>.go (.inLoop c :: k) (st.E1 (Nat.lor rm (mB (.inLoop c :: k))) (u j))) (b i))
   | todo=>(match qP P T nt rm md pr todo st with | some (k,pV,c)=>.two c (rk P T nt rs rm md pr n k pV L (.loop d I m i0 u b)) | none=>.bad))
  | .rf it I B id s0 u v b kk=>(match todo with
   | .code (.rangeFunc (.tmp t) ps Q3 body) :: k =>
     .two (.bb (Nat.beq md 0) true) <|
     .two (.vv (St.get (uJ (SJ rm todo) (aY [] st.sl)) t) (.fn it.gf it.cY)) <|
     .two (.bb (wU.pE it.cY) true) <|
     .two (.po (some (Y6 P it.gf it.cY (it.ys.map it.enc))) (some (Y6 it.P it.gf it.cY (it.ys.map it.enc)))) <|
     .two (.bb (Wb nt ((uJ (SJ rm todo) (aY [] st.sl)).map (·.1)) ps.toList) true) <|
     .two (N5 st (st.E1 (SJ rm todo) ⟨[],u s0⟩)) <|
     .two (.pi fun y=>.nn ps.toList.length (it.enc y).length) <|
     .two (.pi fun s=>.pi fun y=>.two
      (afP P T nt (SJ rm todo) 1 ((uJ (SJ rm todo) (aY [] st.sl)).map (·.1)) n [.code Q3,.beginRound,.code body] ⟨AW ps.toList (it.enc y)++uJ (SJ rm todo) (aY [] st.sl),(st.E1 (SJ rm todo) ⟨[],u s⟩).lb⟩ [.beginRound,.code body])
      (rk P T nt rs (SJ rm todo) 1 ((uJ (SJ rm todo) (aY [] st.sl)).map (·.1)) n [.code body] (aaW P T nt (SJ rm todo) 1 ((uJ (SJ rm todo) (aY [] st.sl)).map (·.1)) n [.code Q3,.beginRound,.code body] ⟨AW ps.toList (it.enc y)++uJ (SJ rm todo) (aY [] st.sl),(st.E1 (SJ rm todo) ⟨[],u s⟩).lb⟩)
       (fun q=>match q with | .inl a=>.brk id (st.E1 (SJ rm todo) ⟨[],v a⟩) | .inr j=>.go [] (st.E1 (SJ rm todo) ⟨[],u j⟩)) (b s y))) <|
     .two (.pi fun s=>rk P T nt rs rm md pr n k (st.E1 (SJ rm todo) ⟨[],u s⟩) L (kk (.inr s))) (.pi fun a=>rk P T nt rs rm md pr n (.code (.exit id) :: k) (st.E1 (SJ rm todo) ⟨[],v a⟩) L (kk (.inl a)))
   | todo=>(match qP P T nt rm md pr todo st with | some (k,pV,c)=>.two c (rk P T nt rs rm md pr n k pV L (.rf it I B id s0 u v b kk)) | none=>.bad))
section
variable {g : Goal}
theorem G.keep (m:Nat) {k:List Item} {st:St} (h:G g k (st.keep m)):G g k st:=.le (.keep m st) h
theorem XU (hn:g.Nrm) (hT:pj g.P g.T) (hf:g.P.funcs[g.f]? = some g.fn) {st:St} {x:AV} {c6:List (Nat × bP)} (h:(acy g.T g.fn.results.toList st x c6).ok) (hx:g.res=x) (hl:g.c6=c6):G g [] st∧∀ k,G g (.code .ret :: k) st:=by
 subst hx
 subst hl
 unfold acy at h
 split at h
 ·rename_i l ro ob hr
  split at h
  ·rename_i hl
   split at h
   ·rename_i l' PK E0 hb
    obtain ⟨h1,h2,h3⟩:=h
    obtain ⟨p,q1,q2⟩:=Fq _ _ h3
    have hle:uV (tG l') g.res:=fun w S μ ν v hv=>by
     exact (yN (ρ:=[]) (tG l') g.res p q1 q2 v hv).mono (fun _ h=>h) (fun _ _=>rfl) (fun k y hk=>by simp [yL,look] at hk)
    exact G.ret hn hT hf hl hr (vQ h1) hb (vQ h2) hle
   ·exact h.elim
  ·obtain ⟨h1,h2,h3,h4⟩:=h
   obtain ⟨p,q1,q2⟩:=Fq _ _ h3
   obtain ⟨p',q3,q4⟩:=Fs h4
   exact G.ahh hn hT hf _ hr (vQ h1) h2 q1 q2 q3 q4
 ·exact h.elim
theorem TY {jX:List (Nat × Nat)} (hn:g.TJ jX) (hT:pj g.P g.T) (hf:g.P.funcs[g.f]? = some g.fn) {st:St} {x:AV} {c6:List (Nat × bP)} (h:(XT g.T g.fn.results.toList st x c6 jX).ok) (hx:g.res=x) (hl:g.c6=c6):G g [] st∧∀ k,G g (.code .ret :: k) st:=by
 subst hx
 subst hl
 unfold XT at h
 split at h
 ·rename_i l ro ob hr
  obtain ⟨h1,h2,h3,h4,h5⟩:=h
  obtain ⟨p,q1,q2⟩:=Fq _ _ h3
  obtain ⟨p',q3,q4⟩:=Fs h5
  obtain ⟨p'',q5,q6⟩:=Q9 h4
  exact G.Y5 hn hT hf _ hr (vQ h1) h2 q1 q2 q3 q4 q5 q6
 ·exact h.elim
theorem gL (hT:pj g.P g.T) (hm:g.P.follows .mixedOrders=true) {rm:Nat} {todo k:List Item} {st st':St} {c:CT} (h:qP g.P g.T g.nt rm g.md g.pr todo st=some (k,st',c)) (hc:c.ok) (hg:G g k st'):G g todo st:=by
 unfold qP at h
 split at h
 ·simp only [Option.some.injEq,Prod.mk.injEq] at h; obtain ⟨rfl,rfl,-⟩:=h; exact .seq hg
 ·simp only [Option.some.injEq,Prod.mk.injEq] at h; obtain ⟨rfl,rfl,-⟩:=h; exact .skip hg
 ·simp only [Option.some.injEq,Prod.mk.injEq] at h; obtain ⟨rfl,rfl,-⟩:=h; exact .label hg
 ·simp only [Option.some.injEq,Prod.mk.injEq] at h; obtain ⟨rfl,rfl,-⟩:=h; exact .afv hg
 ·simp only [Option.some.injEq,Prod.mk.injEq] at h; obtain ⟨rfl,rfl,-⟩:=h; exact .block hg
 ·simp only [Option.some.injEq,Prod.mk.injEq] at h; obtain ⟨rfl,rfl,-⟩:=h; exact .inBlock hg
 ·split at h
  ·rename_i k' he
   simp only [Option.some.injEq,Prod.mk.injEq] at h; obtain ⟨rfl,rfl,-⟩:=h; exact .exit he hg
  ·cases h
 ·split at h
  ·rename_i pV ob hr
   simp only [Option.some.injEq,Prod.mk.injEq] at h
   obtain ⟨rfl,rfl,rfl⟩:=h
   exact .region hT hm hc.1 hr (vQ hc.2) (.keep _ hg)
  ·cases h
 ·cases h
theorem N2.put {st:St} (t:Nat) {x y:AV} (hx:St.get st.sl t=x) (h:uV x y):N2 st ⟨(t,y) :: aY [t] st.sl,st.lb⟩:=by
 rintro C a w ⟨S,μ,hs⟩
 refine ⟨S,μ,fun ν=>(hs ν).weaken (fun u v hv=>?_) (fun κ b hb=>⟨b,hb,fun _ h=>h⟩)⟩
 simp only [St.gK] at hv ⊢
 rw [Kx]
 split
 ·rename_i e
  subst e
  rw [hx] at hv
  exact h _ _ _ _ _ hv
 ·exact hv
theorem Ft {C:Cx} {A:M} {a:Act} {w:World} {S:Nat→Prop} {μ:Mu} {ν:Nat→Bool} {lb:List (Nat × bP)} (hs:dG C A a w S μ ν) (hA:A.lb=look lb) {x:AV} {v:Value} {q:Nat} (h:P1 lb x=some q) (hr:Rel w S μ ν x v):q≤maxLen:=by
 unfold P1 at h
 split at h
 ·simp only [Option.some.injEq] at h
  subst h
  cases jW.1 hr with
  | nil=>simp [maxLen]
  | sl _ _ _ _ _ _ hc hm=>omega
 ·rename_i κ n
  split at h
  ·rename_i e k q' f hl
   simp only [Option.some.injEq] at h
   subst h
   have hm:=hs.mem κ _ (by rw [hA]; exact hl)
   cases hμ:μ κ with
   | none=>rw [hμ] at hm; exact hm.elim
   | some y =>
    rw [hμ] at hm
    cases y with
    | none=>have:q'=0:=hm; simp [this]
    | some gc =>
     obtain ⟨g,c⟩:=gc
     obtain ⟨cur,_,_,_,q4,q5,_⟩:=hm.at
     omega
  ·cases h
 ·cases h
theorem dG.TZ {C:Cx} {A B:M} {a:Act} {w:World} {S:Nat→Prop} {μ:Mu} {ν:Nat→Bool} (h:dG C A a w S μ ν) (VD:∀ t,B.sl t=A.sl t) (VF:∀ κ b',B.lb κ=some b'→∃ b,A.lb κ=some b∧(jq w S μ b (μ κ)→jq w S μ b' (μ κ))):dG C B a w S μ ν:=by
 refine ⟨h.tmps,h.defers,fun t=>by rw [VD]; exact h.fa t,fun κ b hb=>?_,fun κ κ' b b' g c c' hb pk hm Bq=>?_,fun κ b g c hb hm=>?_,h.fU,h.fresh,h.bound,h.kept⟩
 ·obtain ⟨d,h1,h2⟩:=VF κ b hb
  exact h2 (h.mem κ d h1)
 ·obtain ⟨d,h1,_⟩:=VF κ b hb
  obtain ⟨d',h1',_⟩:=VF κ' b' pk
  exact h.inj κ κ' d d' g c c' h1 h1' hm Bq
 ·obtain ⟨d,h1,_⟩:=VF κ b hb
  exact h.own κ d g c h1 hm
theorem adt (st:St) (κ:Nat) (b:bP) (k:Nat):(St.gK ⟨st.sl,(κ,b) :: aY [κ] st.lb⟩).lb k=if κ=k then some b else st.gK.lb k:=by
 simp only [St.gK,ca,nH]
 split
 ·rfl
 ·rename_i h
  rw [if_neg (by simp; exact fun e=>h e.symm)]
theorem G.cl {g:Goal} {k:List Item} {st:St} {κ n:Nat} {f:Nat→Value × D} {m:List (Int × Int)} (hl:look st.lb κ=some (.mp n f)) (hn:n=m.length) (hf:f=mxf m) (h:G g k ⟨st.sl,(κ,.mx) :: aY [κ] st.lb⟩):G g k st:=by
 subst hn
 subst hf
 refine .le (fun C a w hs=>?_) h
 obtain ⟨S,μ,hs⟩:=hs
 refine ⟨S,μ,fun ν=>(hs ν).TZ (fun _=>rfl) (fun κ' b' hb=>?_)⟩
 rw [adt] at hb
 split at hb
 ·rename_i e
  subst e
  simp only [Option.some.injEq] at hb
  subst hb
  refine ⟨_,hl,fun hy=>?_⟩
  generalize μ κ=y at hy ⊢
  match y,hy with
  | some (some (g,c)),hy=>exact ⟨m,hy⟩
 ·exact ⟨b',hb,fun h=>h⟩
theorem G.op {g:Goal} {k:List Item} {st:St} {κ:Nat} (hl:look st.lb κ=some .mx) (h:∀ m,G g k ⟨st.sl,(κ,.mp m.length (mxf m)) :: aY [κ] st.lb⟩):G g k st:=by
 intro C h1 h2 a w VH hs
 obtain ⟨S,μ,hs⟩:=hs
 have hm:=(hs fun _=>false).mem κ _ hl
 obtain ⟨m,Bq⟩:∃ m:List (Int × Int),jq w S μ (.mp m.length (mxf m)) (μ κ):=by
  generalize μ κ=y at hm ⊢
  match y,hm with
  | some (some (g,c)),hm=>obtain ⟨m,hm⟩:=hm; exact ⟨m,hm⟩
 refine h m C h1 h2 a w VH ⟨S,μ,fun ν=>(hs ν).TZ (fun _=>rfl) (fun κ' b' hb=>?_)⟩
 rw [adt] at hb
 split at hb
 ·rename_i e
  subst e
  simp only [Option.some.injEq] at hb
  subst hb
  exact ⟨_,hl,fun _=>Bq⟩
 ·exact ⟨b',hb,fun h=>h⟩
theorem G.TW {k:List Item} {st:St} {t j q:Nat} (h:TW st t j=some q) (hg:q≤maxLen→G g k st):G g k st:=by
 intro C h1 h2 a w VH hs
 have GY:=hs
 obtain ⟨S,μ,dy⟩:=hs
 refine hg ?_ C h1 h2 a w VH GY
 have hs:=dy fun _=>false
 have hr:=hs.fa t
 simp only [St.gK] at hr
 unfold Go.Av.TW at h
 split at h
 ·rename_i κ o hx
  split at h
  ·rename_i cs hl
   rw [Bool.cond_eq_ite] at h
   split at h
   ·rename_i hj
    have hj:=Nat.le_of_ble_eq_true hj
    rw [hx] at hr
    generalize a.tmps.getD t undef=v at hr
    cases hr with
    | ptr hμ =>
     have hm:=hs.mem κ _ hl
     rw [hμ] at hm
     obtain ⟨cur,e,_,_,kM,hc⟩:=hm.at
     obtain ⟨x,_,hx⟩:=hc j hj
     exact Ft hs rfl h (hx fun _=>false)
   ·cases h
  ·cases h
 ·rename_i cs hx
  rw [Bool.cond_eq_ite] at h
  split at h
  ·rename_i hj
   have hj:=Nat.le_of_ble_eq_true hj
   rw [hx] at hr
   generalize a.tmps.getD t undef=v at hr
   cases hr with
   | ref ef cC hh=>exact Ft hs rfl h (.d (hh j hj))
  ·cases h
 ·rename_i cs hx
  rw [Bool.cond_eq_ite] at h
  split at h
  ·rename_i hj
   have hj:=Nat.le_of_ble_eq_true hj
   rw [hx] at hr
   generalize a.tmps.getD t undef=v at hr
   cases jW.1 hr with
   | agg _ vs hl hh=>exact Ft hs rfl h (.d (hh j hj))
  ·cases h
 ·exact Ft hs rfl h hr
theorem G.VJ {k:List Item} {st:St} {t n:Nat} {f:Nat→List D} (ht:St.get st.sl t=.d (.sl n f)) (h1:n=0→G g k ⟨(t,.d (.v (.slice none 0 0))) :: aY [t] st.sl,st.lb⟩) (h2:G g k ⟨(t,.Bo n f) :: aY [t] st.sl,st.lb⟩):G g k st:=by
 intro C c1 c2 a w VH hs
 obtain ⟨S,μ,dy⟩:=hs
 have hr:=(dy fun _=>false).fa t
 simp only [St.gK,ht] at hr
 have put:∀ y:AV,(∀ ν,Rel w S μ ν y (a.tmps.getD t undef))→kV C ⟨(t,y) :: aY [t] st.sl,st.lb⟩ a w:=fun y hy=>by
  refine ⟨S,μ,fun ν=>?_⟩
  have h:=dy ν
  refine ⟨h.tmps,h.defers,fun u=>?_,h.mem,h.inj,h.own,h.fU,h.fresh,h.bound,h.kept⟩
  simp only [St.gK]
  rw [Kx]
  split
  ·rename_i e
   subst e
   exact hy ν
  ·exact h.fa u
 cases hv:a.tmps.getD t undef with
 | slice ad m cap =>
  rw [hv] at hr
  cases ad with
  | none =>
   cases jW.1 hr with
   | nil=>exact h1 rfl C c1 c2 a w VH (put _ (fun ν=>by rw [hv]; exact iI rfl))
  | some ad=>exact h2 C c1 c2 a w VH (put _ (fun ν=>by rw [hv]; exact .Bo (jW.1 hr)))
 | _=>rw [hv] at hr; cases jW.1 hr
theorem G.qO:∀ {c:Code} {ops:Array Oper} {l K:List Item} {st:St},Go.Av.qO c=some (ops,l)→(∀ id,G g (.code (.region id ops false) :: (l++K)) st)→G g (.code c :: K) st
 | .seq x y,ops,l,K,st,h,hg=>by
  simp only [Go.Av.qO] at h
  split at h
  ·rename_i ahy l' hx
   simp only [Option.some.injEq,Prod.mk.injEq] at h
   obtain ⟨rfl,rfl⟩:=h
   exact .seq (G.qO hx (fun id=>by have:=hg id; rwa [List.append_assoc] at this))
  ·cases h
 | .region id ahy false,ops,l,K,st,h,hg=>by
  simp only [Go.Av.qO,Option.some.injEq,Prod.mk.injEq] at h
  obtain ⟨rfl,rfl⟩:=h
  exact hg id
 | .region _ _ true,_,_,_,_,h,_=>by simp [Go.Av.qO] at h
 | .skip,_,_,_,_,h,_=>by simp [Go.Av.qO] at h
 | .cond ..,_,_,_,_,h,_=>by simp [Go.Av.qO] at h
 | .block ..,_,_,_,_,h,_=>by simp [Go.Av.qO] at h
 | .loop ..,_,_,_,_,h,_=>by simp [Go.Av.qO] at h
 | .rangeFunc ..,_,_,_,_,h,_=>by simp [Go.Av.qO] at h
 | .exit ..,_,_,_,_,h,_=>by simp [Go.Av.qO] at h
 | .scope ..,_,_,_,_,h,_=>by simp [Go.Av.qO] at h
 | .label ..,_,_,_,_,h,_=>by simp [Go.Av.qO] at h
 | .goto ..,_,_,_,_,h,_=>by simp [Go.Av.qO] at h
 | .ret,_,_,_,_,h,_=>by simp [Go.Av.qO] at h
 | .refuse ..,_,_,_,_,h,_=>by simp [Go.Av.qO] at h
theorem kV.afQ {C:Cx} {st:St} {a:Act} {w:World} {S:Nat→Prop} {μ:Mu} (dy:∀ ν,dG C st.gK a w S μ ν) {d1 d2:Nat} (ZZ:d1 < C.nt) (hd2:d2 < C.nt) (x:Value) (b:Bool) (ds:List Nat) (h1:d1∈ds) (h2:d2∈ds) :
  ∀ ν,dG C (St.gK ⟨(d2,.d (.v (.bool b))) :: aY ds st.sl,st.lb⟩) ((a.put (some d1) x).put (some d2) (.bool b)) w S μ ν:=fun ν=>by
 have h:=dy ν
 refine ⟨by simp [Act.put,h.tmps],h.defers,fun u=>?_,h.mem,h.inj,h.own,h.fU,h.fresh,h.bound,h.kept⟩
 simp only [St.gK,St.get,ca]
 by_cases c2:d2=u
 ·subst c2
  simp only [if_true,Act.put]
  rw [iW _ _ _ (by simp [h.tmps]; exact hd2)]
  exact iI rfl
 ·simp only [c2,if_false,nH]
  split
  ·rename_i x hx
   split at hx
   ·cases hx
   ·rename_i hn
    have n1:u≠d1:=fun e=>hn (e ▸ h1)
    have n2:u≠d2:=fun e=>hn (e ▸ h2)
    simp only [Act.put]
    rw [dw _ _ _ _ n2,dw _ _ _ _ n1]
    have:=h.fa u
    simp only [St.gK,St.get,hx] at this
    exact this
  ·exact .any _
theorem G.next (hm:g.P.follows .mixedOrders=true) {K:List Item} {st:St} {id:Nat} {ops:Array Oper} {it d1 d2 κi κ n:Nat} {f:Nat→Value × D} {s:List Nat} (V9:Jd g.md g.pr ops=true) (rz:Wm ops=some (it,d1,d2)) (ZZ:d1 < g.nt) (hd2:d2 < g.nt)
  (hit:St.get st.sl it=.ptr κi 0) (NR:look st.lb κi=some (.it κ n s)) (hl:look st.lb κ=some (.mp n f))
  (yH:∀ i,i < n→i ∉ s→G g K (Wn st d1 d2 κi κ n i s)) (ack:(∀ i,i < n→i∈s)→G g K (LD st d1 d2 it)):G g (.code (.region id ops false) :: K) st:=by
 intro C c1 c2 a w VH hs
 suffices hw:wpOps C.P ops (fun e a' w'=>e=.normal∧((∃ i,i < n∧i ∉ s∧kV C (Wn st d1 d2 κi κ n i s) a' w')∨((∀ i,i < n→i∈s)∧kV C (LD st d1 d2 it) a' w'))) (List.range ops.size) a w by
  rw [c1] at hw
  refine G.ops hm V9 VH (.inl ⟨rfl,hw⟩) (fun a' w' gY yG=>?_)
  rcases yG with ⟨i,hi,hn,yG⟩ | ⟨he,yG⟩
  ·exact yH i hi hn C c1 c2 a' w' gY yG
  ·exact ack he C c1 c2 a' w' gY yG
 obtain ⟨S,μ,dy⟩:=hs
 have h0:=dy fun _=>false
 rw [← c2] at ZZ hd2
 unfold Wm at rz
 split at rz
 ·rename_i o1 o2 hol
  split at rz
  ·rename_i it' Z0 e1 d2' q1 q2 q3 q4 q5 q6
   rw [Bool.cond_eq_ite] at rz
   split at rz
   ·rename_i heq
    have heq:=Nat.eq_of_beq_eq_true heq
    subst heq
    simp only [Option.some.injEq,Prod.mk.injEq] at rz
    obtain ⟨rfl,rfl,rfl⟩:=rz
    have rz:ops = #[o1,o2]:=by cases ops; simpa using hol
    subst rz
    show wpOps C.P #[o1,o2] _ [0,1] a w
    have w1:∀ y,Region.wanted o1 y=true:=fun y=>by simp [Region.wanted,q3]
    have w2:∀ y,Region.wanted o2 y=true:=fun y=>by simp [Region.wanted,q6]
    have hr:=h0.fa it'
    simp only [St.gK,hit] at hr
    generalize ZW:a.tmps.getD it' undef=iv at hr
    cases hr with
    | @ptr _ _ gi ci hμi =>
     have hmi:=h0.mem κi _ NR
     rw [hμi] at hmi
     have ahz:=hmi.at
     obtain ⟨mg,c,hμ,hgi,afo⟩:=ahz
     have N0:=h0.mem κ _ hl
     rw [hμ] at N0
     obtain ⟨cur,hg,uH,kM,cC⟩:=N0.at
     have hev:a.eval (.tmp it')=.pointer (some ⟨gi,0,none⟩):=ZW
     have adu:∀ x,x∈cur.toList→x.born < n:=fun x hx=>by
      obtain ⟨q,hq,rfl⟩:=List.getElem_of_mem hx
      have hqn:q < n:=by simpa [kM] using hq
      obtain ⟨e,y1,_,_,y4,_⟩:=cC q hqn
      have:cur.toList[q]=e:=by simpa using (Array.getElem?_eq_some_iff.1 y1).2
      rw [this,y4]; exact hqn
     have ext:∀ (a':Act) (w':World) (b:Bool) (rest:List Value),a'.eval (.tmp Z0)=.tuple (#[.bool b]++rest.toArray)→(execOp a'.eval o2).run C.P w'=.ok (.value (.bool b)) w':=fun a' w' b rest hh=>by
      simp [execOp,q4,hh,Instr.extract]
     have Y8:∀ (x:Value),(a.put (some Z0) x).eval (.tmp Z0)=x:=fun x=>by
      show (a.tmps.setIfInBounds Z0 x).getD Z0 undef=x
      exact iW _ _ _ (by rw [h0.tmps]; exact ZZ)
     rcases run_next_at (P:=C.P) w o1.type gi mg n n s.reverse.toArray cur n hgi hg adu (Nat.le_refl _) with ⟨hz,iH⟩ | ⟨e,he,wd,hwd,iH⟩
     ·simp only [wpOps,List.getElem?_toArray,List.getElem?_cons_zero,List.getElem?_cons_succ,w1,w2,if_true]
      left
      unfold Oper.wp
      have hx:(execOp a.eval o1).run C.P w=.ok (.value (.tuple #[.bool false])) w:=by
       simp only [execOp,q1,hev,Sem.run_bind,iH,Result.andThen_ok,Sem.run_pure]
      rw [hx,Oper.upon_value,q2]
      left
      rw [ext (a.put (some Z0) (.tuple #[.bool false])) w false [] (by rw [Y8]; rfl),Oper.upon_value,q5]
      refine ⟨trivial,.inr ⟨fun i hi=>?_,⟨S,μ,kV.afQ dy ZZ hd2 _ false [Z0,d2',it'] (by simp) (by simp)⟩⟩⟩
      have:∀ x,x∈cur.toList→x.born∈s:=fun x hx=>by
       have hz':leftOf cur s.reverse.toArray = #[]:=Array.eq_empty_of_size_eq_zero hz
       unfold leftOf at hz'
       rw [Array.filter_eq_empty_iff] at hz'
       have:=hz' x (by simpa using hx)
       simpa using this
      obtain ⟨e,y1,_,_,y4,_⟩:=cC i hi
      have hm:e∈cur.toList:=by
       have:=(Array.getElem?_eq_some_iff.1 y1)
       obtain ⟨gH,rfl⟩:=this
       simp
      have:=this e hm
      rwa [y4] at this
     ·simp only [wpOps,List.getElem?_toArray,List.getElem?_cons_zero,List.getElem?_cons_succ,w1,w2,if_true]
      left
      unfold Oper.wp
      have hx:(execOp a.eval o1).run C.P w=.ok (.value (.tuple #[.bool true,e.key,e.val])) (ChangeMaps.setBlock wd gi (.mapIter (some mg) n (s.reverse.toArray.push e.born) n)):=by
       simp only [execOp,q1,hev,Sem.run_bind,iH,Result.andThen_ok,Sem.run_pure]
      rw [hx,Oper.upon_value,q2]
      left
      rw [ext (a.put (some Z0) (.tuple #[.bool true,e.key,e.val])) _ true [e.key,e.val] (by rw [Y8]; rfl),Oper.upon_value,q5]
      have lr:e∈cur.toList∧e.born ∉ s:=by
       unfold leftOf at he
       simpa using he
      refine ⟨trivial,.inl ⟨e.born,adu e lr.1,lr.2,?_⟩⟩
      have ahA:Kept w wd (fun _=>False):=by
       rcases hwd with rfl | rfl
       ·exact Kept.refl _ _
       ·exact ⟨rfl,rfl,rfl,Nat.le_refl _,fun _ _ _=>rfl⟩
      have ahB:wd.heap[gi]? = some (.mapIter (some mg) n s.reverse.toArray n):=by rcases hwd with rfl | rfl <;> exact hgi
      have aaG:∀ ν,dG C st.gK a wd S μ ν:=fun ν=>(dy ν).world (fun _ x=>x) (fun _ x=>.inl x) ahA
      have ahC:ChangeMaps.setBlock wd gi (.mapIter (some mg) n (s.reverse.toArray.push e.born) n)=World.Ec wd gi (.mapIter (some mg) n (s.reverse.toArray.push e.born) n):=rfl
      rw [ahC]
      have TP:∀ ν,dG C (st.gK.set κi (some (.it κ n (e.born :: s)))) a (World.Ec wd gi (.mapIter (some mg) n (s.reverse.toArray.push e.born) n)) S μ ν:=fun ν=>(aaG ν).QT (b:=.it κ n s) NR hμi (vq gi _) ⟨mg,c,hμ,by rw [Ku _ ahB]; simp,afo⟩
      have lW:(St.gK ⟨st.sl,(κi,.it κ n (e.born :: s)) :: aY [κi] st.lb⟩)=st.gK.set κi (some (.it κ n (e.born :: s))):=by
       unfold St.gK M.set
       congr 1
       funext q
       rw [ca,nH]
       by_cases hq:κi=q
       ·subst hq; simp
       ·have:q ∉ [κi]:=by simp; exact fun e=>hq e.symm
        have QP:¬ q=κi:=fun e=>hq e.symm
        simp [hq,QP]
      exact ⟨S,μ,kV.afQ (st:=⟨st.sl,(κi,.it κ n (e.born :: s)) :: aY [κi] st.lb⟩) (fun ν=>by rw [lW]; exact TP ν) ZZ hd2 _ true [Z0,d2'] (by simp) (by simp)⟩
   ·cases rz
  ·cases rz
 ·cases rz
theorem XV (hT:pj g.P g.T) (hm:g.P.follows .mixedOrders=true) {rm:Nat}:∀ (n:Nat) {todo k:List Item} {st st':St} {c:CT},aaV g.P g.T g.nt rm g.md g.pr n todo st=some (k,st',c)→c.ok→G g k st'→G g todo st
 | 0,_,_,_,_,_,h,_,_=>by cases h
 | n+1,todo,k,st,st',c,h,hc,hg=>by
  unfold aaV at h
  split at h
  ·simp only [Option.some.injEq,Prod.mk.injEq] at h
   obtain ⟨rfl,rfl,rfl⟩:=h
   exact hg
  ·split at h
   ·rename_i k1 pV c1 hs
    split at h
    ·rename_i k2 st2 c2 hr
     simp only [Option.some.injEq,Prod.mk.injEq] at h
     obtain ⟨rfl,rfl,rfl⟩:=h
     exact gL hT hm hs hc.1 (XV hT hm n hr hc.2 hg)
    ·cases h
   ·cases h
theorem yP:∀ (n:Nat) {g:Goal} (hT:pj g.P g.T) (hm:g.P.follows .mixedOrders=true) (hf:g.P.funcs[g.f]? = some g.fn) (hz:g.md=0→g.Nrm∧∀ {C C' b cs m},Reb C C'→g.Z C' b cs m→g.Z C b cs m) (rm:Nat) {α:Type} (todo:List Item) (st:St) (L:α→aaU) (sk:Sk α) (lp:α→Prop),
  (rk g.P g.T g.nt g.fn.results.toList rm g.md g.pr n todo st L sk).ok→sk.bC lp→(∀ a,a=sk.val→lp a→Wo g (L a))→G g todo st
 | 0,_,_,_,_,_,_,_,todo,st,L,sk,lp,h,_,_=>h.elim
 | n+1,g,hT,hm,hf,hz,rm,α,todo,st,L,sk,lp,h,ho,hL=>by
  have ih:=fun {α:Type}=>yP n hT hm hf hz rm (α:=α)
  unfold rk at h
  split at h
  ·-- op
   rename_i κ k
   split at h
   ·rename_i hl
    exact G.op hl fun m=>ih _ _ L (k m) lp (h m) (ho m).2 (fun a ha=>hL a (ha.trans (ho m).1))
   ·exact h.elim
  ·-- cl
   rename_i κ m k
   split at h
   ·rename_i q f hl
    obtain ⟨h1,h2,h3⟩:=h
    exact G.cl hl h1 h2 (ih _ _ L k lp h3 ho hL)
   ·exact h.elim
  ·-- PV
   rename_i id x c k
   split at h
   ·rename_i i ops K
    rw [Bool.cond_eq_ite] at h
    split at h
    ·split at h
     ·rename_i ts ti ty d1 d2 d3 AP
      split at h
      ·rename_i κ m xx e' _ _ _ _ hts hti Q6
       split at h
       ·rename_i e q m2 f ii hl he
        obtain ⟨h0,h1,h2,h3,h4,h5⟩:=h
        have h0:(Nat.ble (d1+1) g.nt&&Nat.ble (d2+1) g.nt&&Nat.ble (d3+1) g.nt&&Jd g.md g.pr ops&&Nat.beq e e'&&Nat.beq q ii.size&&ii.zero.all A8&&!Nat.beq ts d1&&!Nat.beq ts d2&&!Nat.beq ts d3)=true:=h0
        simp only [Bool.and_eq_true,Bool.not_eq_true'] at h0
        obtain ⟨⟨⟨⟨⟨⟨⟨⟨⟨b1,b2⟩,b3⟩,b4⟩,b5⟩,b6⟩,b7⟩,b8⟩,b9⟩,b10⟩:=h0
        have h1:xx=x:=h1
        have h2:m=m2:=h2
        have h3:m=c.n:=h3
        have h4:xN xx.toNat f ii.zero=c.f:=h4
        have b5:=Nat.eq_of_beq_eq_true b5
        have b6:=Nat.eq_of_beq_eq_true b6
        subst h1; subst h2; subst b5
        obtain ⟨⟨o1,o2⟩,o3⟩:=ho
        have ne:∀ d,Nat.beq ts d=false→¬ ts=d:=fun d hd e=>by rw [e,Nat.beq_refl] at hd; cases hd
        refine G.PV hT hm b4 AP (Nat.le_of_ble_eq_true b1) (Nat.le_of_ble_eq_true b2) (Nat.le_of_ble_eq_true b3) hts hti hl Q6 rfl he b6 b7 o1 (by rw [h3]; exact o2) (.le ?_ (.keep _ (ih _ _ L k lp h5 o3 hL)))
        have hcn:m=c.n':=h3.trans c.eq.1
        rintro C a w ⟨S,μ,dy⟩
        refine ⟨S,μ,fun ν=>(dy ν).weaken (fun t v hv=>?_) (fun κ' b' pk=>?_)⟩
        ·simp only [St.gK,St.get,ca,nH] at hv ⊢
         by_cases ht:ts=t
         ·subst ht
          simp only [if_true]
          rw [if_neg (by simp only [List.mem_cons,List.not_mem_nil,or_false,not_or]; exact ⟨ne _ b8,ne _ b9,ne _ b10⟩)] at hv
          simp only [St.get] at hts
          rw [hts,hcn] at hv
          exact hv
         ·have e1:(t∈[ts,d1,d2,d3])↔(t∈[d1,d2,d3]):=by
           rw [List.mem_cons]
           exact ⟨fun h=>h.elim (fun e=>absurd e.symm ht) (fun h=>h),.inr⟩
          simp only [ht,if_false,e1]
          exact hv
        ·simp only [St.gK,ca,nH] at pk ⊢
         by_cases hk:κ=κ'
         ·simp only [hk,if_true,Option.some.injEq] at pk ⊢
          subst pk
          refine ⟨_,rfl,fun y hy=>?_⟩
          rw [h4] at hy
          exact aau hcn (fun i hi=>c.eq.2 i (by rw [← h3]; exact hi)) y hy
         ·simp only [hk,if_false] at pk ⊢
          exact ⟨b',pk,fun _ h=>h⟩
       ·exact h.elim
      ·exact h.elim
     ·exact h.elim
    ·split at h
     ·rename_i k0 pV c0 hs
      exact gL hT hm hs h.1 (ih _ _ L (.PV id x c k) lp h.2 ho hL)
     ·exact h.elim
   ·split at h
    ·rename_i k0 pV c0 hs
     exact gL hT hm hs h.1 (ih _ _ L (.PV id x c k) lp h.2 ho hL)
    ·exact h.elim
  ·-- wi
   rename_i t a b k
   obtain ⟨h1,h2⟩:=h
   obtain ⟨o1,o2⟩:=ho
   refine .le (N2.put t h1 (y:=.d (.v (.int .i64 b))) ?_) (ih _ _ L k lp h2 o2 hL)
   subst o1
   exact uV.rfl'
  ·-- GG
   rename_i t j m k
   split at h
   ·rename_i q hq
    obtain ⟨h1,h2⟩:=h
    have h1:q=m:=h1
    subst h1
    exact G.TW hq fun hb=>ih _ _ L k lp h2 (ho hb) hL
   ·exact h.elim
  ·-- wn
   rename_i κ a b k
   obtain ⟨h1,h2,h3⟩:=h
   obtain ⟨o1,o2⟩:=ho
   subst o1
   rw [XP h1,C4 h2] at h3
   exact ih _ _ L k lp h3 o2 hL
  ·exact (ho:False).elim
  ·-- VJ
   rename_i t m k1 k2
   split at h
   ·rename_i q f hq
    obtain ⟨h1,h2,h3⟩:=h
    have h1:q=m:=h1
    subst h1
    refine G.VJ hq (fun h0=>?_) (ih _ _ L k2 lp h3 ho.2 hL)
    exact ih _ _ L k1 lp h2 (ho.1 h0).1 (fun a ha=>hL a (by rw [ha,(ho.1 h0).2]; rfl))
   ·exact h.elim
  ·-- fz
   rename_i κ k
   split at h
   ·rename_i e0 k0 q f hq
    exact .le (N2.fz hq h.1 h.2.1) (ih _ _ L k lp h.2.2 ho hL)
   ·exact h.elim
  ·-- mr
   rename_i γ m V init u v b k
   split at h
   ·rename_i c K
    split at h
    ·rename_i ops l hh
     split at h
     ·rename_i it d1 d2 hn
      rw [Bool.cond_eq_ite] at h
      split at h
      ·rename_i hb
       simp only [Bool.and_eq_true] at hb
       have ZZ:=Nat.le_of_ble_eq_true hb.1.1
       have hd2:=Nat.le_of_ble_eq_true hb.1.2
       obtain ⟨h1,h2,h3⟩:=h
       obtain ⟨oi,ob,oc,o3⟩:=ho
       have hV:∀ g i,V g→i < m→V ((b g i).val):=fun g i hg hi=>(b g i).dk (ob g i hg hi).1
       have o1:∀ s:List Nat,s.Perm (List.range m)→s.foldr (fun i g=>(b g i).val) init=(List.range m).foldr (fun i g=>(b g i).val) init:=fun s hs=>Wj (f:=fun g i=>(b g i).val) hV oc oi hs (fun i hi=>List.mem_range.1 (hs.mem_iff.1 hi))
       have o2:∀ (s:List Nat) (i:Nat),(∀ j,j∈s→j < m)→i < m→(b (s.foldr (fun i g=>(b g i).val) init) i).bC fun _=>True:=fun s i hs hi=>(ob _ i (yO (f:=fun g i=>(b g i).val) hV oi s hs) hi).2
       have key:∀ (q:Nat) (s:List Nat),s.Nodup→(∀ j,j∈s→j < m)→m - s.length < q→G g (.code c :: .inLoop c :: K) (st.E1 (Nat.lor rm (mB (.inLoop c :: K))) (u (s.foldr (fun i g=>(b g i).val) init) s)):=by
        intro q
        induction q with
        | zero=>intro s _ _ gH; omega
        | succ q ihq =>
         intro s hnd gH hq
         have h2:=h2 (s.foldr (fun i g=>(b g i).val) init) s
         dsimp only at h2
         split at h2
         ·rename_i κi hit
          split at h2
          ·rename_i κ m1 s1 NR
           split at h2
           ·rename_i m2 f hl
            obtain ⟨e1,e2,e3,e4,e5⟩:=h2
            have e1:m1=m:=e1
            have e2:m2=m:=e2
            have e3:s1=s:=e3
            subst e1; subst e2; subst e3
            refine G.qO hh (fun id=>G.next hm hb.2 hn ZZ hd2 hit NR hl (fun i hi hni=>?_) (fun rl=>?_))
            ·refine ih _ _ _ (b _ i) _ (e5 i) (o2 s1 i gH hi) (fun g' hg' _=>?_)
             subst hg'
             refine .inLoop (ihq (i :: s1) (List.nodup_cons.2 ⟨hni,hnd⟩) (fun j hj=>?_) ?_)
             ·rcases List.mem_cons.1 hj with rfl | hj
              ·exact hi
              ·exact gH j hj
             ·have hle:(i :: s1).length≤m2:=by
               have:=List.Nodup.length_le_of_subset (l₁:=i :: s1) (l₂:=List.range m2) (List.nodup_cons.2 ⟨hni,hnd⟩) (fun j hj=>by
                rcases List.mem_cons.1 hj with rfl | hj
                ·exact List.mem_range.2 hi
                ·exact List.mem_range.2 (gH j hj))
               simpa using this
              simp only [List.length_cons] at hle ⊢
              omega
            ·have hp:s1.Perm (List.range m2):=(List.perm_ext_iff_of_nodup hnd List.nodup_range).2 (fun j=>⟨fun hj=>List.mem_range.2 (gH j hj),fun hj=>rl j (List.mem_range.1 hj)⟩)
             refine .le (xi e4) ?_
             rw [o1 s1 hp]
             exact ih _ _ L (k _) lp (h3 _) (o3 _ rfl (yO (f:=fun g i=>(b g i).val) hV oi _ (fun i hi=>List.mem_range.1 hi))) hL
           ·exact h2.elim
          ·exact h2.elim
         ·exact h2.elim
       intro C c1 c2 a w VH hs
       exact (key (m+1) [] List.nodup_nil (fun j hj=>by cases hj) (by simp) C c1 c2 a w VH (xi h1 C a w hs)).step fun _ _=>.one stepR_loop
      ·exact h.elim
     ·exact h.elim
    ·exact h.elim
   ·split at h
    ·rename_i k0 pV c hs
     exact gL hT hm hs h.1 (ih _ _ L (.mr m V init u v b k) lp h.2 ho hL)
    ·exact h.elim
  ·-- KC
   rename_i x
   split at h
   ·exact .cond h.1 (fun _=>ih _ _ L x lp h.2 ho hL) (fun he=>by cases he)
   ·split at h
    ·rename_i k pV c hs
     exact gL hT hm hs h.1 (ih _ _ L (.KC x) lp h.2 ho hL)
    ·exact h.elim
  ·-- Dw
   rename_i x
   split at h
   ·exact .cond h.1 (fun he=>by cases he) (fun _=>ih _ _ L x lp h.2 ho hL)
   ·split at h
    ·rename_i k pV c hs
     exact gL hT hm hs h.1 (ih _ _ L (.Dw x) lp h.2 ho hL)
    ·exact h.elim
  ·-- XN
   rename_i t c x y k1 k2
   obtain ⟨h1,h2,h3⟩:=h
   have h1:St.get st.sl t=acA c x y:=h1
   rw [acB] at h1
   cases c with
   | true=>exact .le (N2.put t h1 uV.rfl') (ih _ _ L k1 lp h2 (ho.1 rfl) hL)
   | false=>exact .le (N2.put t h1 uV.rfl') (ih _ _ L k2 lp h3 (ho.2 rfl) hL)
  ·-- fin
   rename_i a
   have N7:=hL a rfl ho
   split at h
   ·rename_i Lo st' hl
    rw [hl] at N7
    rw [Bool.cond_eq_ite] at h
    split at h
    ·obtain ⟨h1,h2⟩:=h
     have h1:todo=Lo:=h1
     subst h1
     exact .le (xi h2) N7
    ·split at h
     ·rename_i k pV c hs
      exact gL hT hm hs h.1 (ih _ _ L (.fin a) lp h.2 ho hL)
     ·exact h.elim
   ·rename_i id st' hl
    rw [hl] at N7
    split at h
    ·rename_i id' k
     rw [Bool.cond_eq_ite] at h
     split at h
     ·rename_i hb
      simp only [Bool.and_eq_true,Option.isNone_iff_eq_none] at hb
      obtain rfl:=Nat.eq_of_beq_eq_true hb.1
      exact .le (xi h) (N7 k hb.2)
     ·split at h
      ·rename_i k pV c hs
       exact gL hT hm hs h.1 (ih _ _ L (.fin a) lp h.2 ho hL)
      ·exact h.elim
    ·split at h
     ·rename_i k pV c hs
      exact gL hT hm hs h.1 (ih _ _ L (.fin a) lp h.2 ho hL)
     ·exact h.elim
   ·rename_i x c6 hl
    rw [hl] at N7
    split at h
    ·exact (XU N7.1 hT hf h N7.2.1 N7.2.2).1
    ·exact (XU N7.1 hT hf h N7.2.1 N7.2.2).2 _
    ·split at h
     ·rename_i k pV c hs
      exact gL hT hm hs h.1 (ih _ _ L (.fin a) lp h.2 ho hL)
     ·exact h.elim
   ·rename_i x c6 jX hl
    rw [hl] at N7
    split at h
    ·exact (TY N7.1 hT hf h N7.2.1 N7.2.2).1
    ·exact (TY N7.1 hT hf h N7.2.1 N7.2.2).2 _
    ·split at h
     ·rename_i k pV c hs
      exact gL hT hm hs h.1 (ih _ _ L (.fin a) lp h.2 ho hL)
     ·exact h.elim
  ·-- br
   rename_i e x y
   split at h
   ·rename_i c p q k
    obtain ⟨h1,h2,h3⟩:=h
    refine .cond h1 (fun he=>?_) (fun he=>?_)
    ·exact ih _ _ L x lp h2 (ho.1 he) (fun a ha=>hL a (by rw [ha]; simp [Sk.val,he]))
    ·exact ih _ _ L y lp h3 (ho.2 he) (fun a ha=>hL a (by rw [ha]; simp [Sk.val,he]))
   ·split at h
    ·rename_i k pV c hs
     exact gL hT hm hs h.1 (ih _ _ L (.br e x y) lp h.2 ho hL)
    ·exact h.elim
  ·-- r
   rename_i β id cl kk
   split at h
   ·rename_i i ops draw k
    rw [Bool.cond_eq_ite] at h
    split at h
    ·have h:=h cl.v
     dsimp only at h
     split at h
     ·rename_i st' ob hr
      obtain ⟨h0,h1,h2,h3⟩:=h
      have h2:ob.prop=cl.kU cl.v:=h2
      exact .region hT hm h0 hr (Ob.G0 h1 (fun p hp=>cl.pf ho.1 p (h2 ▸ hp))) (.keep _ (ih _ _ L (kk cl.v) lp h3 (ho.2 _ rfl cl.hp) hL))
     ·exact h.elim
    ·split at h
     ·rename_i k pV c hs
      exact gL hT hm hs h.1 (ih _ _ L (.r id cl kk) lp h.2 ho hL)
     ·exact h.elim
   ·split at h
    ·rename_i k pV c hs
     exact gL hT hm hs h.1 (ih _ _ L (.r id cl kk) lp h.2 ho hL)
    ·exact h.elim
  ·-- bind at a block
   rename_i β J s u kk
   split at h
   ·rename_i id c k
    obtain ⟨h1,h2⟩:=h
    refine .block (ih _ _ _ s _ h1 ho.1 (fun q hq hlq=>?_))
    cases q with
    | inl a=>exact hL a (by simp only [Sk.val,← hq,iX]) hlq
    | inr b=>exact ih _ _ L (kk b) lp (h2 b) (ho.2 b hq.symm hlq) (fun a ha=>hL a (by rw [ha]; simp only [Sk.val,← hq,iX]))
   ·split at h
    ·rename_i k pV c hs
     exact gL hT hm hs h.1 (ih _ _ L (.bind true J s u kk) lp h.2 ho hL)
    ·exact h.elim
  ·-- bind at a choice
   rename_i β J s u kk
   split at h
   ·rename_i c p q k
    obtain ⟨h1,h2⟩:=h
    refine ih _ _ _ s _ h1 ho.1 (fun q hq hlq=>?_)
    cases q with
    | inl a=>exact hL a (by simp only [Sk.val,← hq,iX]) hlq
    | inr b=>exact ih _ _ L (kk b) lp (h2 b) (ho.2 b hq.symm hlq) (fun a ha=>hL a (by rw [ha]; simp only [Sk.val,← hq,iX]))
   ·split at h
    ·rename_i k pV c hs
     exact gL hT hm hs h.1 (ih _ _ L (.bind false J s u kk) lp h.2 ho hL)
    ·exact h.elim
  ·-- loop
   rename_i ι d I m i0 u b
   split at h
   ·rename_i c k
    obtain ⟨h1,h2⟩:=h
    obtain ⟨o1,o2⟩:=ho
    have key:∀ (q:Nat) (i:ι),I i→m i < q→(∀ a,a=iter (fun i=>(b i).val) d q i→lp a→Wo g (L a))→G g (.code c :: .inLoop c :: k) (st.E1 (Nat.lor rm (mB (.inLoop c :: k))) (u i)):=by
     intro q
     induction q with
     | zero=>intro i _ gH; omega
     | succ q ihq =>
      intro i hi gH N7
      refine ih _ _ _ (b i) _ (h2 i) (o2 i hi) (fun r hr hlr=>?_)
      cases r with
      | inl a=>exact N7 a (by simp only [iter,← hr]) hlr
      | inr j=>exact .inLoop (ihq j hlr.1 (by have:=hlr.2; omega) (fun a ha=>N7 a (by rw [ha]; simp only [iter,← hr])))
    intro C c1 c2 a w VH hs
    exact (key (m i0+1) i0 o1 (Nat.lt_succ_self _) hL C c1 c2 a w VH (xi h1 C a w hs)).step fun _ _=>.one stepR_loop
   ·split at h
    ·rename_i k pV c hs
     exact gL hT hm hs h.1 (ih _ _ L (.loop d I m i0 u b) lp h.2 ho hL)
    ·exact h.elim
  ·-- rf
   rename_i σ β Y it I B id s0 u v b kk
   split at h
   ·rename_i t ps Q3 body k
    obtain ⟨h1,h2,h3,h4,h5,h6,h7,h8,h9,h10⟩:=h
    obtain ⟨o1,o2,o3,o4⟩:=ho
    have hpr:g.md=0:=Nat.eq_of_beq_eq_true h1
    obtain ⟨hn,ahD⟩:=hz hpr
    have h4:some (Y6 g.P it.gf it.cY (it.ys.map it.enc))=some (Y6 it.P it.gf it.cY (it.ys.map it.enc)):=h4
    have hit:Y6 g.P it.gf it.cY (it.ys.map it.enc):=by rw [Option.some.inj h4]; exact it.pf o1
    have adv:=fun i s y hs hy=>(b s y).dk (o3 i s y hs hy).1
    generalize hmm:SJ rm (Item.code (.rangeFunc (.tmp t) ps Q3 body) :: k)=mm at *
    refine G.rf hn ahD it.ys it.enc (fun s y=>(b s y).val) s0 I (uJ mm (aY [] st.sl)) (fun s=>st.E1 mm ⟨[],u s⟩) (fun a=>st.E1 mm ⟨[],v a⟩) id
     (fun s y=>aaW g.P g.T g.nt mm 1 ((uJ mm (aY [] st.sl)).map (·.1)) n [.code Q3,.beginRound,.code body] ⟨AW ps.toList (it.enc y)++uJ mm (aY [] st.sl),(st.E1 mm ⟨[],u s⟩).lb⟩)
     (fun _=>rfl) (fun _=>rfl) (xi h6) h2 h3 hit h5 (fun y _=>h7 y) o2 (fun i s y hs hy=>?_) (fun s y tm Z zs hy hg=>?_) (fun i s y tm Z zs hs hy hg=>?_) ?_
    ·have:=adv i s y hs hy
     show match (b s y).val with | .inl _=>True | .inr s'=>I (i+1) s'
     cases e:(b s y).val with
     | inl a=>trivial
     | inr s'=>rw [e] at this; exact this
    ·have h8:=(h8 s y).1
     unfold afP at h8
     unfold aaW at hg
     split at h8
     ·rename_i k' st2 c ha
      rw [ha] at hg
      have hk:k'=[.beginRound,.code body]:=h8.2
      subst hk
      exact XV (g:=g.round _ tm Z zs) hT hm n ha h8.1 hg
     ·exact h8.elim
    ·have h8:=(h8 s y).2
     refine yP n (g:=g.round _ tm Z zs) hT hm hf (fun e=>by cases e) mm _ _ _ (b s y) (iY B (I (i+1))) h8 (o3 i s y hs hy).2 (fun q hq hlq=>?_)
     have hg:(match (b s y).val with | .inr s'=>G (g.round _ tm Z zs) [] (st.E1 mm ⟨[],u s'⟩) | .inl b=>∀ k',exitTo id k'=none→G (g.round _ tm Z zs) (.code (.exit id) :: k') (st.E1 mm ⟨[],v b⟩)):=hg
     cases q with
     | inl a=>rw [← hq] at hg; exact hg
     | inr j=>rw [← hq] at hg; exact hg
    ·have hr:=o4 _ rfl (PY it.ys adv s0 o2)
     cases e:ry (fun s y=>(b s y).val) it.ys s0 with
     | inr s =>
      rw [e] at hr
      exact ih _ _ L (kk (.inr s)) lp (h9 s) hr (fun a ha=>hL a (by rw [ha]; simp only [Sk.val,e]))
     | inl a =>
      rw [e] at hr
      exact ih _ _ L (kk (.inl a)) lp (h10 a) hr (fun a' ha=>hL a' (by rw [ha]; simp only [Sk.val,e]))
   ·split at h
    ·rename_i k pV c hs
     exact gL hT hm hs h.1 (ih _ _ L (.rf it I B id s0 u v b kk) lp h.2 ho hL)
    ·exact h.elim
end
theorem gQ.sk {P:Program} {T:List (Nat × TI)} (hT:pj P T) (hm:P.follows .mixedOrders=true) {f:FuncId} {fn:Func} {body:Code} {args:List AV} {c6:List (Nat × bP)} {α:Type} (enc:α→AV) (xO:α→List (Nat × bP)) (hf:P.funcs[f]? = some fn) (hb:fn.body=some body)
  (hc:(ga P f&&Nat.ble args.length fn.ntmps)=true) (n:Nat) (sk:Sk α) (h:rk P T fn.ntmps fn.results.toList (Dv fn.results.toList) 0 [] n [.code body] ⟨dJ 0 args,c6⟩ (fun a=>.ret (enc a) (xO a)) sk=(rk P T fn.ntmps fn.results.toList (Dv fn.results.toList) 0 [] n [.code body] ⟨dJ 0 args,c6⟩ (fun a=>.ret (enc a) (xO a)) sk).diag)
  (ho:sk.bC fun _=>True):gQ P f args c6 (enc sk.val) (xO sk.val):=by
 simp only [Bool.and_eq_true] at hc
 refine gQ.intro (T:=T) hf hb hc.1 (Nat.le_of_ble_eq_true hc.2) ?_
 exact yP n (g:=.of P T fn.ntmps f fn (enc sk.val) (xO sk.val)) hT hm hf (fun _=>⟨Goal.aaC,fun {_ _ b _ _} hr hz=>ZN.reb (b:=b) hr hz⟩) _ _ _ _ sk _ (CT.BM h) ho (fun a ha _=>by subst ha; exact ⟨Goal.aaC,rfl,rfl⟩)
def ael:List (Nat × Nat)→Nat→Nat
 | [],m=>m
 | (t,_) :: r,m=>Nat.lor (acv t) (ael r m)
theorem FnB.sk {P:Program} {T:List (Nat × TI)} (hT:pj P T) (hm:P.follows .mixedOrders=true) {f:FuncId} {fn:Func} {body:Code} {args:List AV} {c6:List (Nat × bP)} {α:Type} (enc:α→AV) (xO:α→List (Nat × bP)) (jX:List (Nat × Nat)) (hf:P.funcs[f]? = some fn) (hb:fn.body=some body)
  (hc:(ga P f&&Nat.ble args.length fn.ntmps&&jX.all fun p=>Nat.ble (p.1+1) args.length)=true) (n:Nat) (sk:Sk α) (h:rk P T fn.ntmps fn.results.toList (ael jX (Dv fn.results.toList)) 3 (jX.map (·.1)) n [.code body] ⟨dJ 0 args,c6⟩ (fun a=>.Y5 (enc a) (xO a) jX) sk=(rk P T fn.ntmps fn.results.toList (ael jX (Dv fn.results.toList)) 3 (jX.map (·.1)) n [.code body] ⟨dJ 0 args,c6⟩ (fun a=>.Y5 (enc a) (xO a) jX) sk).diag)
  (ho:sk.bC fun _=>True):FnB P f args c6 (enc sk.val) (xO sk.val) jX:=by
 simp only [Bool.and_eq_true,List.all_eq_true] at hc
 refine FnB.intro (T:=T) hf hb hc.1.1 (Nat.le_of_ble_eq_true hc.1.2) (fun p hp=>Nat.le_of_ble_eq_true (hc.2 p hp)) (fun tm=>?_)
 exact yP n (g:=.ofB P T fn.ntmps f fn (enc sk.val) (xO sk.val) jX tm) hT hm hf (fun h=>by cases h) _ _ _ _ sk _ (CT.BM h) ho (fun a ha _=>by subst ha; exact ⟨Goal.acg,rfl,rfl⟩)
instance {α β:Type} [Inhabited α]:Inhabited (Sum α β):=⟨.inl default⟩
abbrev iv (n:Int):AV:=.d (.v (.int .i64 n))
abbrev bv (b:Bool):AV:=.d (.v (.bool b))
abbrev sv (s:ByteArray):AV:=.d (.v (.string s))
abbrev av (cs:List D):AV:=.d (.agg cs)
abbrev lv {α:Type} [Inhabited α] (cells:α→List D) (l:List α):AV:=.d (nI cells l)
abbrev nv:AV:=.d (.v (.slice none 0 0))
abbrev ow {α:Type} (κ:Nat) (l:List α):AV:=.own κ l.length
abbrev bw {α:Type} [Inhabited α] (e k:Nat) (cells:α→List D) (l:List α):bP:=.row e k l.length fun i=>cells (l.getD i default)
abbrev dI (n:Int):D:=.v (.int .i64 n)
abbrev dB (b:Bool):D:=.v (.bool b)
def ar (n:Int):Int:=IntKind.i64.wrap n
def eJ (k:IntKind) (a b:Int):Int:=k.wrap (BitVec.ofInt k.bits a &&& BitVec.ofInt k.bits b).toNat
def VK (k:IntKind) (a b:Int):Int:=k.wrap (BitVec.ofInt k.bits a ||| BitVec.ofInt k.bits b).toNat
def gb (k:IntKind) (a b:Int):Int:=k.wrap (a * 2 ^ (min b.toNat k.bits))
def ep (k:IntKind) (a b:Int):Int:=a.fdiv (2 ^ (min b.toNat k.bits))
theorem aA {n:Int} (h1 : -9223372036854775808≤n) (h2:n≤9223372036854775807):ar n=n:=Y9 h1 h2
structure P2 (α:Type) where
 cells:α→List D
 k:Nat
 len:∀ x,(cells x).length=k
 one:∀ x,(cells x).all A8=true
def slE {α:Type} [Inhabited α] (E:P2 α):P2 (List α):=⟨fun l=>[nI E.cells l],1,fun _=>rfl,fun _=>rfl⟩
def dm:P2 Int:=⟨bI,1,fun _=>rfl,fun _=>rfl⟩
def yQ:P2 ByteArray:=⟨kh,1,fun _=>rfl,fun _=>rfl⟩
def u8C (n:Int):List D:=[.v (.int .u8 n)]
def pw (s:ByteArray):List Int:=s.data.toList.map fun b=>(b.toNat:Int)
def aem (s:ByteArray):tF:=⟨s.size,(pw s).length,fun i=>[.v (.int .u8 (s.data.toList.getD i 0).toNat)],fun i=>u8C ((pw s).getD i default),by
 refine ⟨by simp [pw],fun i hi=>?_⟩
 have gP:i < s.data.size:=hi
 have e:(pw s).getD i default=((s.data.toList.getD i 0).toNat:Int):=by
  simp only [pw,List.getD,List.getElem?_map,Array.getElem?_toList,Array.getElem?_eq_getElem gP,Option.map_some,Option.getD_some]
 rw [e]
 exact yD.rfl'⟩
abbrev mpB {α:Type} [Inhabited α] (enc:α→D) (ks:List Int) (vs:List α):bP:=.mp ks.length fun i=>(.int .i64 (ks.getD i 0),enc (vs.getD i default))
def G2 {α:Type} [Inhabited α] (enc:α→D) (ks:List Int) (vs:List α) (h:ks.length=vs.length) (k:Int) (v:α):DU:=⟨ks.length+1,(ks++[k]).length,fun q=>if q < ks.length then (.int .i64 (ks.getD q 0),enc (vs.getD q default)) else (.int .i64 k,enc v),fun i=>(.int .i64 ((ks++[k]).getD i 0),enc ((vs++[v]).getD i default)),by
 refine ⟨by simp,fun i hi=>?_⟩
 by_cases c:i < ks.length
 ·simp only [c,if_true,List.getD,List.getElem?_append_left c,List.getElem?_append_left (h ▸ c:i < vs.length)]
 ·obtain rfl:i=ks.length:=by omega
  simp only [Nat.lt_irrefl,if_false]
  simp [List.getD,h]⟩
def afR {α:Type} [Inhabited α] (enc:α→D) (k:Int) (v:α):DU:=⟨0+1,1,fun q=>if q < 0 then (.bool false,default) else (.int .i64 k,enc v),fun i=>(.int .i64 ([k].getD i 0),enc ([v].getD i default)),by
 refine ⟨rfl,fun i hi=>?_⟩
 obtain rfl:i=0:=by omega
 rfl⟩
abbrev E2 {α:Type} [Inhabited α] (enc:α→D) (m:List (Int × α)):Nat→Value × D:=fun i=>(.int .i64 (m.getD i default).1,enc (m.getD i default).2)
abbrev SK {α:Type} [Inhabited α] (enc:α→D) (m:List (Int × α)):bP:=.mp m.length (E2 enc m)
abbrev pmM {α:Type} [Inhabited α] (enc:α→D) (m:List (Int × α)):AV:=.CP m.length (E2 enc m)
def nB {α:Type}:List (Int × α)→Int→α→List (Int × α)
 | [],k,v=>[(k,v)]
 | p :: r,k,v=>bif k == p.1 then (p.1,v) :: r else p :: nB r k v
def nJ {α:Type}:List (Int × α)→Int→Option α
 | [],_=>none
 | p :: r,k=>bif k == p.1 then some p.2 else nJ r k
def cT {α:Type} (m:List (Int × α)) (k:Int) (z:α):α:=(nJ m k).getD z
def xP {α:Type} (m:List (Int × α)) (k:Int):Bool:=(nJ m k).isSome
theorem pq {α:Type} [Inhabited α] (enc:α→D) (m:List (Int × α)):∀ i,i < m.length→∃ b,(E2 enc m i).1=.int .i64 b:=fun i _=>⟨_,rfl⟩
theorem C6 {α:Type} [Inhabited α] (enc:α→D) (k:Int):∀ (m:List (Int × α)),match pn (.int .i64 k) m.length (E2 enc m) with
  | some p=>p < m.length∧(E2 enc m p).1=.int .i64 k∧nJ m k=some (m.getD p default).2∧∀ v,nB m k v=m.set p ((m.getD p default).1,v)
  | none=>nJ m k=none∧∀ v,nB m k v=m++[(k,v)]
 | []=>⟨rfl,fun _=>rfl⟩
 | p :: r=>by
  have ih:=C6 enc k r
  have e:(fun i=>E2 enc (p :: r) (i+1))=E2 enc r:=by funext i; simp [E2]
  have e0:(E2 enc (p :: r) 0).1=.int .i64 p.1:=rfl
  simp only [List.length_cons,pn,e,e0,Ed,decide_true,Bool.true_and,List.getD_cons_zero]
  cases hk:(k == p.1) with
  | true =>
   have gY:k=p.1:=by simpa using hk
   simp only [cond_true]
   refine ⟨by omega,by rw [gY]; rfl,by simp [nJ,hk],fun v=>by simp [nB,hk]⟩
  | false =>
   simp only [cond_false]
   cases hq:pn (.int .i64 k) r.length (E2 enc r) with
   | none =>
    rw [hq] at ih
    simp only [Option.map_none]
    exact ⟨by simp only [nJ,hk,cond_false]; exact ih.1,fun v=>by simp only [nB,hk,cond_false,ih.2 v,List.cons_append]⟩
   | some q =>
    rw [hq] at ih
    obtain ⟨i1,i2,i3,i4⟩:=ih
    simp only [Option.map_some]
    refine ⟨by simpa using i1,?_,?_,fun v=>?_⟩
    ·rw [← i2]; rfl
    ·simp only [nJ,hk,cond_false]; rw [i3]; simp
    ·simp only [nB,hk,cond_false,i4 v]; simp
def afS:DU:=⟨0,0,fun _=>(.bool false,default),fun _=>(.bool false,default),rfl,fun _ _=>rfl⟩
def sr {α:Type} [Inhabited α] (enc:α→D):DU:=⟨0,([]:List (Int × α)).length,fun _=>(.bool false,default),E2 enc ([]:List (Int × α)),rfl,fun i hi=>absurd hi (by omega)⟩
def Wp {α:Type} [Inhabited α] (enc:α→D) (m:List (Int × α)) (k:Int) (v:α):DU:=⟨mpN (.int .i64 k) m.length (E2 enc m),(nB m k v).length,mpF (.int .i64 k) (enc v) m.length (E2 enc m),E2 enc (nB m k v),by
 have h:=C6 enc k m
 unfold mpN mpF
 cases hq:pn (.int .i64 k) m.length (E2 enc m) with
 | none =>
  rw [hq] at h
  simp only
  rw [h.2 v]
  refine ⟨by simp,fun i hi=>?_⟩
  by_cases c:i < m.length
  ·simp [E2,c,List.getD,List.getElem?_append_left c]
  ·obtain rfl:i=m.length:=by omega
   simp [E2,List.getD]
 | some p =>
  rw [hq] at h
  obtain ⟨h1,h2,h3,h4⟩:=h
  simp only
  rw [h4 v]
  refine ⟨by simp,fun i hi=>?_⟩
  by_cases c:i=p
  ·subst c
   simp [E2,List.getD,h1]
  ·simp [E2,c,List.getD,List.getElem?_set_ne (fun e=>c e.symm)]⟩
def cU {α:Type} [Inhabited α] (enc:α→D) (m:List (Int × α)) (k:Int) (v:α):DU:=⟨m.length+1,(m++[(k,v)]).length,fun q=>if q < m.length then E2 enc m q else (.int .i64 k,enc v),E2 enc (m++[(k,v)]),by
 refine ⟨by simp,fun i hi=>?_⟩
 by_cases c:i < m.length
 ·simp only [c,if_true,E2,List.getD,List.getElem?_append_left c]
 ·obtain rfl:i=m.length:=by omega
  simp [E2,List.getD]⟩
theorem P3 {α:Type} [Inhabited α] (enc:α→D) (m:List (Int × α)) (k:Int) (z:α):vK (.int .i64 k) m.length (E2 enc m) (enc z)=enc (cT m k z):=by
 have h:=C6 enc k m
 unfold vK cT
 cases hq:pn (.int .i64 k) m.length (E2 enc m) with
 | none=>rw [hq] at h; simp only [h.1]; rfl
 | some p=>rw [hq] at h; simp only [h.2.2.1]; rfl
theorem Zb {α:Type} [Inhabited α] (enc:α→D) (m:List (Int × α)) (k:Int):AR (.int .i64 k) m.length (E2 enc m)=xP m k:=by
 have h:=C6 enc k m
 unfold AR xP
 cases hq:pn (.int .i64 k) m.length (E2 enc m) with
 | none=>rw [hq] at h; rw [h.1]; rfl
 | some p=>rw [hq] at h; rw [h.2.2.1]; rfl
def getM {α:Type} [Inhabited α] (enc:α→D) (m:List (Int × α)) (k:Int) (z:α):PN:=⟨.d (vK (.int .i64 k) m.length (E2 enc m) (enc z)),.d (enc (cT m k z)),fun _ _ _ _ _ h=>by rw [← P3 enc m k z]; exact h⟩
def LF {α:Type} [Inhabited α] (enc:α→D) (m:List (Int × α)) (k:Int) (z:α):PN:=⟨.fD [.d (vK (.int .i64 k) m.length (E2 enc m) (enc z)),.d (.v (.bool (AR (.int .i64 k) m.length (E2 enc m))))],.fD [.d (enc (cT m k z)),.d (.v (.bool (xP m k)))],fun _ _ _ _ _ h=>by rw [← P3 enc m k z,← Zb enc m k]; exact h⟩
theorem G3 {n n':Nat} {f f':Nat→List D} (h:n=n'∧∀ i,i < n→f i=f' i):n=n'∧∀ i,i < n→yD (f i) (f' i):=⟨h.1,fun i hi=>yD.of_eq (h.2 i hi)⟩
section
variable {α : Type} [Inhabited α] (E : P2 α)
theorem P2.src (M:List α):(∀ i,i < M.length→(E.cells (M.getD i default)).length=E.k)∧∀ i,i < M.length→(E.cells (M.getD i default)).all A8=true:=⟨fun _ _=>E.len _,fun _ _=>E.one _⟩
theorem P2.ot (M:List α):∀ i,i < M.length→(E.cells (M.getD i default)).all A8=true:=fun _ _=>E.one _
theorem P2.lens (M:List α):∀ i,i < M.length→(E.cells (M.getD i default)).length=E.k:=fun _ _=>E.len _
def mX (L M:List α):tF:=⟨L.length+M.length,(L++M).length,fun q=>if q < L.length then E.cells (L.getD q default) else E.cells (M.getD (q - L.length) default),fun i=>E.cells ((L++M).getD i default),G3 (aco E.cells L M)⟩
def uf (L:List α) (p:Nat) (y:α):tF:=⟨L.length,(L.set p y).length,fun q=>if q=p then E.cells y else E.cells (L.getD q default),fun i=>E.cells ((L.set p y).getD i default),G3 <| by
 refine ⟨by simp,fun i hi=>?_⟩
 split
 ·rename_i h
  subst h
  simp [List.getD,hi]
 ·rename_i h
  simp [List.getD,List.getElem?_set_ne (fun e=>h e.symm)]⟩
def mkC (n:Nat) (z:α):tF:=⟨n,(List.replicate n z).length,fun _=>E.cells z,fun i=>E.cells ((List.replicate n z).getD i default),G3 <| by
 refine ⟨by simp,fun i hi=>?_⟩
 simp [List.getD,hi]⟩
def mY (L:List α) (lo n:Nat):List α:=(List.range n).map fun i=>L.getD (lo+i) default
def aen (L:List α) (lo n:Nat):tF:=⟨n,(mY L lo n).length,fun i=>E.cells (L.getD (lo+i) default),fun i=>E.cells ((mY L lo n).getD i default),G3 <| by
 refine ⟨by simp [mY],fun i hi=>?_⟩
 have:(mY L lo n).getD i default=L.getD (lo+i) default:=by simp [mY,List.getD,hi]
 rw [this]⟩
def afT (L:List α) (h:Nat):tF:=⟨h,(mY L 0 h).length,fun i=>E.cells (L.getD i default),fun i=>E.cells ((mY L 0 h).getD i default),G3 <| by
 refine ⟨by simp [mY],fun i hi=>?_⟩
 have:(mY L 0 h).getD i default=L.getD i default:=by simp [mY,List.getD,hi]
 rw [this]⟩
theorem T1 (k:Nat) (hk:∀ x,(E.cells x).length=k):∀ (xs:List α) (i j:Nat),i < xs.length→j < k→(xs.flatMap E.cells).getD (i * k+j) default=(E.cells (xs.getD i default)).getD j default
 | [],i,j,hi,_=>absurd hi (by simp)
 | x :: r,0,j,_,hj=>by
  simp only [List.flatMap_cons,Nat.zero_mul,Nat.zero_add,List.getD_cons_zero]
  rw [List.getD,List.getElem?_append_left (by rw [hk]; exact hj)]
  rfl
 | x :: r,i+1,j,hi,hj=>by
  have ih:=T1 k hk r i j (by simpa using hi) hj
  simp only [List.flatMap_cons,List.getD_cons_succ]
  rw [List.getD,List.getElem?_append_right (by rw [hk,Nat.add_mul,Nat.one_mul]; omega),hk,show (i+1) * k+j - k=i * k+j by rw [Nat.add_mul,Nat.one_mul]; omega]
  exact ih
theorem T2 (k:Nat) (hk:∀ x,(E.cells x).length=k):∀ (xs:List α),(xs.flatMap E.cells).length=xs.length * k
 | []=>by simp
 | x :: r=>by simp [List.flatMap_cons,hk,T2 k hk r,Nat.add_mul,Nat.add_comm]
def fm (xs:List α):tF:=⟨xs.length,xs.length,Eb E.k xs.length (xs.flatMap E.cells),fun i=>E.cells (xs.getD i default),G3 <| by
 refine ⟨rfl,fun i hi=>?_⟩
 obtain ⟨h1,h2⟩:=BC (k:=E.k) (len:=xs.length) (ds:=xs.flatMap E.cells) (T2 E E.k E.len xs) hi
 apply List.ext_getElem?
 intro j
 by_cases hj:j < E.k
 ·have h3:=h2 j hj
  rw [T1 E E.k E.len xs i j hi hj] at h3
  have l1:j < (Eb E.k xs.length (xs.flatMap E.cells) i).length:=by omega
  have l2:j < (E.cells (xs.getD i default)).length:=by rw [E.len]; exact hj
  rw [List.getD,List.getD,List.getElem?_eq_getElem l1,List.getElem?_eq_getElem l2] at h3
  rw [List.getElem?_eq_getElem l1,List.getElem?_eq_getElem l2]
  simpa using h3
 ·rw [List.getElem?_eq_none (by omega),List.getElem?_eq_none (by rw [E.len]; omega)]⟩
def mkN (n:Nat) (z:α) (ds:List D) (h:Wg ds (E.cells z)=(Wg ds (E.cells z)).diag):tF:=⟨n,(List.replicate n z).length,fun _=>ds,fun i=>E.cells ((List.replicate n z).getD i default),by
 refine ⟨by simp,fun i hi=>?_⟩
 have e:(List.replicate n z).getD i default=z:=by simp [List.getD,hi]
 rw [e]
 exact Fo (CT.BM h)⟩
def G4 (L:List α) (x:Nat) (z:α):List α:=L.take x++List.replicate (L.length - x) z
theorem BO (L:List α) (x:Nat) (z:α):(G4 L x z).length=L.length:=by
 simp [G4]
 omega
def ahE (L:List α) (x:Nat) (z:α) (ds:List D) (h:Wg ds (E.cells z)=(Wg ds (E.cells z)).diag):tF:=⟨L.length,(G4 L x z).length,xN x (fun i=>E.cells (L.getD i default)) ds,fun i=>E.cells ((G4 L x z).getD i default),by
 refine ⟨(BO L x z).symm,fun i hi=>?_⟩
 unfold xN
 split
 ·rename_i h
  have e:(G4 L x z).getD i default=L.getD i default:=by
   simp only [G4,List.getD]
   rw [List.getElem?_append_left (by simp; omega),List.getElem?_take,if_pos h]
  rw [e]
  exact yD.rfl'
 ·rename_i h'
  have e:(G4 L x z).getD i default=z:=by
   simp only [G4,List.getD]
   have h1:(L.take x).length=x:=by simp; omega
   have h2:i - x < L.length - x:=by omega
   rw [List.getElem?_append_right (by omega),h1,List.getElem?_replicate,if_pos h2]
   rfl
  rw [e]
  exact Fo (CT.BM h)⟩
end
def acC {cs ds:List D} (h:yD cs ds):PN:=⟨.ref cs,.ref ds,fun w S μ ν v hr=>by
 cases hr with
 | ref ef cC hh=>exact .ref ef (fun j hj=>cC j (by rw [h.1]; exact hj)) (fun j hj=>h.2 j (by rw [h.1]; exact hj) _ _ _ (hh j (by rw [h.1]; exact hj)))⟩
abbrev bU (i:Int) (n:Nat):Prop:=0≤i∧i < (n:Int)
abbrev yB (n m bytes:Nat):Prop:=n+m≤maxLen∧(n+m) * bytes≤140737488355328
abbrev Zc (n:Int) (bytes:Nat):Prop:=0≤n∧n.toNat≤maxLen∧n.toNat * bytes≤140737488355328
def bH.z:bH Unit:=⟨(),fun _=>[],fun _=>none,True,fun _ _ h=>(by cases h),fun _=>True,trivial⟩
abbrev Sk.nx {α ι:Type} (id t n:Nat) (a:ι):Sk (α ⊕ ι):=.r id .z fun _=>.wi t (ar ((n:Int)+1)) ((n+1:Nat):Int) (.fin (.inr a))
def bH.p (p:Prop):bH Unit:=⟨(),fun _=>[],fun _=>some p,p,fun h _ e=>by cases e; exact h,fun _=>True,trivial⟩
def bH.t {p:Prop} (h:p):bH Unit:=⟨(),fun _=>[],fun _=>some p,True,fun _ _ e=>by cases e; exact h,fun _=>True,trivial⟩
def bH.pt (p:Prop) {q:Prop} (h:q):bH Unit:=⟨(),fun _=>[],fun _=>some (p∧q),p,fun hp _ e=>by cases e; exact ⟨hp,h⟩,fun _=>True,trivial⟩
def bH.o (l:List CX):bH Unit:=⟨(),fun _=>l,fun _=>none,True,fun _ _ h=>(by cases h),fun _=>True,trivial⟩
theorem Fu {x y:Option Prop} (h1:∀ p,x=some p→p) (h2:∀ p,y=some p→p) (p:Prop) (e:GZ x y=some p):p:=by
 cases x with
 | none=>exact h2 p (by simpa [GZ] using e)
 | some a =>
  cases y with
  | none=>exact h1 p (by simpa [GZ] using e)
  | some b =>
   simp only [GZ,Option.some.injEq] at e
   subst e
   exact ⟨h1 a rfl,h2 b rfl⟩
def aeo (e w:Bool):Option Prop→Option Prop
 | none=>none
 | some p=>some (e=w→p)
theorem acD {x:Option Prop} {e w:Bool} (h:e=w→∀ p,x=some p→p) (p:Prop) (hp:aeo e w x=some p):p:=by
 cases x with
 | none=>cases hp
 | some a =>
  simp only [aeo,Option.some.injEq] at hp
  subst hp
  exact fun he=>h he a rfl
def bH.and {α β:Type} (a:bH α) (b:bH β):bH (α × β):=⟨(a.v,b.v),fun x=>a.kW x.1++b.kW x.2,fun x=>GZ (a.kU x.1) (b.kU x.2),a.pre∧b.pre,fun h=>Fu (a.pf h.1) (b.pf h.2),fun x=>a.post x.1∧b.post x.2,⟨a.hp,b.hp⟩⟩
def bH.aj {β:Type} (a:bH Unit) (b:bH β):bH β:=⟨b.v,fun x=>a.kW ()++b.kW x,fun x=>GZ (a.kU ()) (b.kU x),a.pre∧b.pre,fun h=>Fu (a.pf h.1) (b.pf h.2),b.post,b.hp⟩
def bH.Fv {α:Type} (a:bH α) (b:bH Unit):bH α:=⟨a.v,fun x=>a.kW x++b.kW (),fun x=>GZ (a.kU x) (b.kU ()),a.pre∧b.pre,fun h=>Fu (a.pf h.1) (b.pf h.2),a.post,a.hp⟩
def bH.wh {β:Type} (e w:Bool) (a:bH β):bH β:=⟨a.v,a.kW,fun x=>aeo e w (a.kU x),e=w→a.pre,fun h=>acD fun he=>a.pf (h he),a.post,a.hp⟩
def bH.dep {α β:Type} (a:bH α) (b:α→bH β):bH (α × β):=⟨(a.v,(b a.v).v),fun x=>a.kW x.1++(b x.1).kW x.2,fun x=>GZ (a.kU x.1) ((b x.1).kU x.2),a.pre∧∀ x,x=a.v→a.post x→(b x).pre,fun h=>Fu (a.pf h.1) ((b a.v).pf (h.2 _ rfl a.hp)),fun x=>a.post x.1∧(b x.1).post x.2,⟨a.hp,(b a.v).hp⟩⟩
def bH.py {α:Type} (a:bH α) (b:α→bH Unit):bH α:=⟨a.v,fun x=>a.kW x++(b x).kW (),fun x=>GZ (a.kU x) ((b x).kU ()),a.pre∧∀ x,x=a.v→a.post x→(b x).pre,fun h=>Fu (a.pf h.1) ((b a.v).pf (h.2 _ rfl a.hp)),a.post,a.hp⟩
structure ig (β:Type) where
 P:Program
 f:FuncId
 args:List AV
 enc:β→AV
 fl:Bool
 v:β
 pre:Prop
 pf:pre→gQ P f args [] (enc v) []
 post:β→Prop:=fun _=>True
 hp:post v:=by trivial
def ig.c {β:Type} (c:ig β):bH β:=⟨c.v,fun x=>[bif c.fl then .flat (c.enc x) else .gen [] (c.enc x) []],fun x=>some (gQ c.P c.f c.args [] (c.enc x) []),c.pre,fun hp _ e=>by cases e; exact c.pf hp,c.post,c.hp⟩
theorem vP.refl:∀ (l:List AV),vP l l
 | []=>trivial
 | _ :: r=>⟨uV.rfl',vP.refl r⟩
theorem vP.set:∀ (l:List AV) (i:Nat) (x y:AV),l[i]? = some y→uV x y→vP (l.set i x) l
 | [],i,_,_,h,_=>by simp at h
 | z :: r,0,x,y,h,hle=>by
  simp only [List.getElem?_cons_zero,Option.some.injEq] at h
  subst h
  exact ⟨hle,vP.refl r⟩
 | z :: r,i+1,x,y,h,hle=>⟨uV.rfl',vP.set r i x y (by simpa using h) hle⟩
def ig.nil {β:Type} (c:ig β) (i:Nat) (h:∃ g,c.args[i]? = some (.d (.sl 0 g))):ig β :=
 { c with args:=c.args.set i nv,pf:=fun hp=>(c.pf hp).XL (let ⟨g,hg⟩:=h; vP.set c.args i _ _ hg (uV.d (uc.nil g))) }
def ig.ou {β:Type} (c:ig β) (i j:Nat) (cs:List D) (h:c.args[i]? = some (.d (.agg cs))) (h2:∃ g,cs[j]? = some (.sl 0 g)):ig β :=
 {c with args:=c.args.set i (.d (.agg (cs.set j (.v (.slice none 0 0))))),pf:=fun hp=>(c.pf hp).XL (vP.set c.args i _ _ h (uV.d (uc.agg (by simp) (fun q hq=>by
   obtain ⟨g,hg⟩:=h2
   by_cases e:j=q
   ·subst e
    have hj:j < cs.length:=by simpa using hq
    have e1:(cs.set j (.v (.slice none 0 0))).getD j default=.v (.slice none 0 0):=by simp [List.getD,hj]
    have e2:cs.getD j default=.sl 0 g:=by simp [List.getD,hg]
    rw [e1,e2]
    exact uc.nil g
   ·have e1:(cs.set j (.v (.slice none 0 0))).getD q default=cs.getD q default:=by simp [List.getD,List.getElem?_set_ne e]
    rw [e1]
    exact uc.rfl')))) }
@[simp] theorem bH.ahF (x:Unit):bH.z.post x=True:=rfl
@[simp] theorem bH.ahG (p:Prop) (x:Unit):(bH.p p).post x=True:=rfl
@[simp] theorem bH.ahH {p:Prop} (h:p) (x:Unit):(bH.t h).post x=True:=rfl
@[simp] theorem bH.agx (p:Prop) {q:Prop} (h:q) (x:Unit):(bH.pt p h).post x=True:=rfl
@[simp] theorem bH.ahI (l:List CX) (x:Unit):(bH.o l).post x=True:=rfl
@[simp] theorem bH.afU {α β:Type} (a:bH α) (b:bH β) (x:α × β):(a.and b).post x=(a.post x.1∧b.post x.2):=rfl
@[simp] theorem bH.ae4 {β:Type} (a:bH Unit) (b:bH β) (x:β):(a.aj b).post x=b.post x:=rfl
@[simp] theorem bH.ae5 {β:Type} (a:bH β) (b:bH Unit) (x:β):(a.Fv b).post x=a.post x:=rfl
@[simp] theorem bH.agy {β:Type} (e w:Bool) (a:bH β) (x:β):(a.wh e w).post x=a.post x:=rfl
@[simp] theorem bH.afV {α β:Type} (a:bH α) (b:α→bH β) (x:α × β):(a.dep b).post x=(a.post x.1∧(b x.1).post x.2):=rfl
@[simp] theorem bH.ae6 {α:Type} (a:bH α) (b:α→bH Unit) (x:α):(a.py b).post x=a.post x:=rfl
@[simp] theorem ig.Rb {β:Type} (c:ig β) (x:β):c.c.post x=c.post x:=rfl
@[simp] theorem ig.aaX {β:Type} (c:ig β) (i:Nat) (h:∃ g,c.args[i]? = some (.d (.sl 0 g))) (x:β):(c.nil i h).post x=c.post x:=rfl
@[simp] theorem ig.ae7 {β:Type} (c:ig β) (i j:Nat) (cs:List D) (h:c.args[i]? = some (.d (.agg cs))) (h2:∃ g,cs[j]? = some (.sl 0 g)) (x:β):(c.ou i j cs h h2).post x=c.post x:=rfl
@[simp] theorem bH.aiu:bH.z.pre=True:=rfl
@[simp] theorem bH.aiv (p:Prop):(bH.p p).pre=p:=rfl
@[simp] theorem bH.aiw {p:Prop} (h:p):(bH.t h).pre=True:=rfl
@[simp] theorem bH.ahJ (p:Prop) {q:Prop} (h:q):(bH.pt p h).pre=p:=rfl
@[simp] theorem bH.aix (l:List CX):(bH.o l).pre=True:=rfl
@[simp] theorem bH.agz {α β:Type} (a:bH α) (b:bH β):(a.and b).pre=(a.pre∧b.pre):=rfl
@[simp] theorem bH.afW {β:Type} (a:bH Unit) (b:bH β):(a.aj b).pre=(a.pre∧b.pre):=rfl
@[simp] theorem bH.afX {β:Type} (a:bH β) (b:bH Unit):(a.Fv b).pre=(a.pre∧b.pre):=rfl
@[simp] theorem bH.ahK {β:Type} (e w:Bool) (a:bH β):(a.wh e w).pre=(e=w→a.pre):=rfl
@[simp] theorem bH.agA {α β:Type} (a:bH α) (b:α→bH β):(a.dep b).pre=(a.pre∧∀ x,x=a.v→a.post x→(b x).pre):=rfl
@[simp] theorem bH.afY {α:Type} (a:bH α) (b:α→bH Unit):(a.py b).pre=(a.pre∧∀ x,x=a.v→a.post x→(b x).pre):=rfl
@[simp] theorem bH.IB {α β:Type} (a:bH α) (b:α→bH β):(a.dep b).v=(a.v,(b a.v).v):=rfl
@[simp] theorem bH.aaY {α:Type} (a:bH α) (b:α→bH Unit):(a.py b).v=a.v:=rfl
@[simp] theorem ig.XW {β:Type} (c:ig β):c.c.pre=c.pre:=rfl
@[simp] theorem ig.AY {β:Type} (c:ig β):c.c.v=c.v:=rfl
@[simp] theorem ig.acE {β:Type} (c:ig β) (i:Nat) (h:∃ g,c.args[i]? = some (.d (.sl 0 g))):(c.nil i h).pre=c.pre:=rfl
@[simp] theorem ig.afZ {β:Type} (c:ig β) (i:Nat) (h:∃ g,c.args[i]? = some (.d (.sl 0 g))):(c.nil i h).v=c.v:=rfl
@[simp] theorem ig.af0 {β:Type} (c:ig β) (i j:Nat) (cs:List D) (h:c.args[i]? = some (.d (.agg cs))) (h2:∃ g,cs[j]? = some (.sl 0 g)):(c.ou i j cs h h2).pre=c.pre:=rfl
@[simp] theorem ig.ahL {β:Type} (c:ig β) (i j:Nat) (cs:List D) (h:c.args[i]? = some (.d (.agg cs))) (h2:∃ g,cs[j]? = some (.sl 0 g)):(c.ou i j cs h h2).v=c.v:=rfl
@[simp] theorem bH.aiy {α β:Type} (a:bH α) (b:bH β):(a.and b).v=(a.v,b.v):=rfl
@[simp] theorem bH.rB {β:Type} (a:bH Unit) (b:bH β):(a.aj b).v=b.v:=rfl
@[simp] theorem bH.ahM {β:Type} (a:bH β) (b:bH Unit):(a.Fv b).v=a.v:=rfl
@[simp] theorem bH.Zd {β:Type} (e w:Bool) (a:bH β):(a.wh e w).v=a.v:=rfl
structure jZ (β:Type) where
 P:Program
 f:FuncId
 args:List AV
 enc:β→AV
 xO:β→List (Nat × bP)
 v:β
 pre:Prop
 pf:pre→gQ P f args [] (enc v) (xO v)
 post:β→Prop:=fun _=>True
 hp:post v:=by trivial
def jZ.c {β:Type} (c:jZ β):bH β:=⟨c.v,fun x=>[.gen [] (c.enc x) (c.xO x)],fun x=>some (gQ c.P c.f c.args [] (c.enc x) (c.xO x)),c.pre,fun hp _ e=>by cases e; exact c.pf hp,c.post,c.hp⟩
@[simp] theorem jZ.XW {β:Type} (c:jZ β):c.c.pre=c.pre:=rfl
@[simp] theorem jZ.AY {β:Type} (c:jZ β):c.c.v=c.v:=rfl
def jZ.nil {β:Type} (c:jZ β) (i:Nat) (h:∃ g,c.args[i]? = some (.d (.sl 0 g))):jZ β :=
 { c with args:=c.args.set i nv,pf:=fun hp=>(c.pf hp).XL (let ⟨g,hg⟩:=h; vP.set c.args i _ _ hg (uV.d (uc.nil g))) }
@[simp] theorem jZ.acE {β:Type} (c:jZ β) (i:Nat) (h:∃ g,c.args[i]? = some (.d (.sl 0 g))):(c.nil i h).pre=c.pre:=rfl
@[simp] theorem jZ.afZ {β:Type} (c:jZ β) (i:Nat) (h:∃ g,c.args[i]? = some (.d (.sl 0 g))):(c.nil i h).v=c.v:=rfl
@[simp] theorem jZ.Rb {β:Type} (c:jZ β) (x:β):c.c.post x=c.post x:=rfl
@[simp] theorem jZ.aaX {β:Type} (c:jZ β) (i:Nat) (h:∃ g,c.args[i]? = some (.d (.sl 0 g))) (x:β):(c.nil i h).post x=c.post x:=rfl
structure LG (β:Type) where
 P:Program
 f:FuncId
 args:List AV
 c6:List (Nat × bP)
 jX:List (Nat × Nat)
 enc:β→AV
 xO:β→List (Nat × bP)
 v:β
 pre:Prop
 pf:pre→FnB P f args c6 (enc v) (xO v) jX
 post:β→Prop:=fun _=>True
 hp:post v:=by trivial
def LG.c {β:Type} (c:LG β):bH β:=⟨c.v,fun x=>[.bx (c.c6.map (·.1)) c.jX (c.enc x) (c.xO x)],fun x=>some (FnB c.P c.f c.args c.c6 (c.enc x) (c.xO x) c.jX),c.pre,fun hp _ e=>by cases e; exact c.pf hp,c.post,c.hp⟩
@[simp] theorem LG.XW {β:Type} (c:LG β):c.c.pre=c.pre:=rfl
@[simp] theorem LG.AY {β:Type} (c:LG β):c.c.v=c.v:=rfl
@[simp] theorem LG.Rb {β:Type} (c:LG β) (x:β):c.c.post x=c.post x:=rfl
theorem gQ.XX {P:Program} {f:FuncId} {args:List AV} {K n e k m:Nat} {r:Nat→List D} (κ:Nat) (h:gQ P f args [] (.own K n) [(K,.row e k m r)]):gQ P f args [] (.own κ n) [(κ,.row e k m r)]:=by
 refine ⟨h.1,fun w S μ vs h1 h2 h3 h4 h5=>(h.2 w S μ vs h1 h2 h3 h4 h5).mono ?_⟩
 rintro e0 w' ⟨v,S',μ',rfl,B⟩
 have lk:∀ q b,look [(κ,bP.row e k m r)] q=some b→q=κ∧b=.row e k m r:=fun q b hq=>by
  rw [ca] at hq
  split at hq
  ·rename_i e; simp only [Option.some.injEq] at hq; exact ⟨e.symm,hq.symm⟩
  ·simp [look] at hq
 have lK:look [(K,bP.row e k m r)] K=some (.row e k m r):=by rw [ca,if_pos rfl]
 refine ⟨v,S',fun _=>μ' K,rfl,⟨fun ν=>?_,fun q b hq=>?_,fun q1 q2 b1 b2 g c c' x1 x2 _ _=>by rw [(lk q1 b1 x1).1,(lk q2 b2 x2).1],fun q b g c x1 x2=>B.own K _ g c lK x2,B.sub,B.new,B.bound,B.kept⟩⟩
 ·cases B.res ν with
  | dt hμ=>exact .dt hμ
  | own hμ=>exact .own hμ
 ·obtain ⟨rfl,rfl⟩:=lk q b hq
  exact (B.mem K _ lK).agree (fun k hk=>by simp [bP.keys] at hk)
theorem gQ.aaZ {P:Program} {f:FuncId} {args rs:List AV} {K n e k m:Nat} {r:Nat→List D} (κ:Nat) (hk:AV.so rs=[]) (h:gQ P f args [] (.fD (.own K n :: rs)) [(K,.row e k m r)]):gQ P f args [] (.fD (.own κ n :: rs)) [(κ,.row e k m r)]:=by
 refine ⟨h.1,fun w S μ vs h1 h2 h3 h4 h5=>(h.2 w S μ vs h1 h2 h3 h4 h5).mono ?_⟩
 rintro e0 w' ⟨v,S',μ',rfl,B⟩
 have lk:∀ q b,look [(κ,bP.row e k m r)] q=some b→q=κ∧b=.row e k m r:=fun q b hq=>by
  rw [ca] at hq
  split at hq
  ·rename_i e; simp only [Option.some.injEq] at hq; exact ⟨e.symm,hq.symm⟩
  ·simp [look] at hq
 have lK:look [(K,bP.row e k m r)] K=some (.row e k m r):=by rw [ca,if_pos rfl]
 refine ⟨v,S',fun _=>μ' K,rfl,⟨fun ν=>?_,fun q b hq=>?_,fun q1 q2 b1 b2 g c c' x1 x2 _ _=>by rw [(lk q1 b1 x1).1,(lk q2 b2 x2).1],fun q b g c x1 x2=>B.own K _ g c lK x2,B.sub,B.new,B.bound,B.kept⟩⟩
 ·cases B.res ν with
  | @fD _ vs hl hr =>
   refine .fD hl (fun i hi=>?_)
   have hq:=hr i hi
   cases i with
   | zero =>
    simp only [List.getD_cons_zero] at hq ⊢
    generalize vs.getD 0 undef=v0 at hq ⊢
    cases hq with
    | dt hμ=>exact .dt hμ
    | own hμ=>exact .own hμ
   | succ i =>
    simp only [List.getD_cons_succ] at hq ⊢
    refine hq.agree (fun k' gY=>absurd gY (AV.vC rs i (by rw [hk]; simp) (by simpa using hi)))
 ·obtain ⟨rfl,rfl⟩:=lk q b hq
  exact (B.mem K _ lK).agree (fun k hk=>by simp [bP.keys] at hk)
structure Jf (β:Type) where
 P:Program
 f:FuncId
 args:List AV
 κ:Nat
 b:bP
 enc:β→bP
 v:β
 pre:Prop
 pf:pre→FnS P f args κ b (enc v)
 post:β→Prop:=fun _=>True
 hp:post v:=by trivial
def Jf.c {β:Type} (c:Jf β):bH β:=⟨c.v,fun x=>[.same c.κ (c.enc x)],fun x=>some (FnS c.P c.f c.args c.κ c.b (c.enc x)),c.pre,fun hp _ e=>by cases e; exact c.pf hp,c.post,c.hp⟩
@[simp] theorem Jf.XW {β:Type} (c:Jf β):c.c.pre=c.pre:=rfl
@[simp] theorem Jf.AY {β:Type} (c:Jf β):c.c.v=c.v:=rfl
@[simp] theorem Jf.Rb {β:Type} (c:Jf β) (x:β):c.c.post x=c.post x:=rfl
structure yR (β:Type) where
 P:Program
 f:FuncId
 args:List AV
 c6:List (Nat × bP)
 enc:β→AV
 xO:β→List (Nat × bP)
 v:β
 pre:Prop
 pf:pre→gQ P f args c6 (enc v) (xO v)
 post:β→Prop:=fun _=>True
 hp:post v:=by trivial
def yR.c {β:Type} (c:yR β):bH β:=⟨c.v,fun x=>[.gen (c.c6.map (·.1)) (c.enc x) (c.xO x)],fun x=>some (gQ c.P c.f c.args c.c6 (c.enc x) (c.xO x)),c.pre,fun hp _ e=>by cases e; exact c.pf hp,c.post,c.hp⟩
@[simp] theorem yR.XW {β:Type} (c:yR β):c.c.pre=c.pre:=rfl
@[simp] theorem yR.AY {β:Type} (c:yR β):c.c.v=c.v:=rfl
@[simp] theorem yR.Rb {β:Type} (c:yR β) (x:β):c.c.post x=c.post x:=rfl
theorem yS {K q:Nat} {b0 b:bP} (h:look [(K,b0)] q=some b):q=K∧b=b0:=by
 rw [ca] at h
 split at h
 ·rename_i e; simp only [Option.some.injEq] at h; exact ⟨e.symm,h.symm⟩
 ·simp [look] at h
theorem gQ.Wq {P:Program} {f:FuncId} {args:List AV} {c6:List (Nat × bP)} {K n e k m:Nat} {r:Nat→List D} (κ:Nat) (h:gQ P f args c6 (.own K n) [(K,.row e k m r)]):gQ P f args c6 (.own κ n) [(κ,.row e k m r)]:=by
 refine ⟨h.1,fun w S μ vs h1 h2 h3 h4 h5=>(h.2 w S μ vs h1 h2 h3 h4 h5).mono ?_⟩
 rintro e0 w' ⟨v,S',μ',rfl,B⟩
 have lK:look [(K,bP.row e k m r)] K=some (.row e k m r):=by rw [ca,if_pos rfl]
 refine ⟨v,S',fun _=>μ' K,rfl,⟨fun ν=>?_,fun q b hq=>?_,fun q1 q2 b1 b2 g c c' x1 x2 _ _=>by rw [(yS x1).1,(yS x2).1],fun q b g c x1 x2=>B.own K _ g c lK x2,B.sub,B.new,B.bound,B.kept⟩⟩
 ·cases B.res ν with
  | dt hμ=>exact .dt hμ
  | own hμ=>exact .own hμ
 ·obtain ⟨rfl,rfl⟩:=yS hq
  exact (B.mem K _ lK).agree (fun k hk=>by simp [bP.keys] at hk)
theorem gQ.Wr {P:Program} {f:FuncId} {as:List AV} {K n e k m:Nat} {r:Nat→List D} {res:AV} {gR:List (Nat × bP)} (κ:Nat) (hk:AV.so as=[]) (h:gQ P f (.own K n :: as) [(K,.row e k m r)] res gR):gQ P f (.own κ n :: as) [(κ,.row e k m r)] res gR:=by
 refine ⟨h.1,fun w S μ vs h1 h2 h3 h4 h5=>?_⟩
 have lK:∀ K',look [(K',bP.row e k m r)] K'=some (.row e k m r):=fun K'=>by rw [ca,if_pos rfl]
 refine (h.2 w S (fun _=>μ κ) vs h1 h2 (fun ν=>?_) (fun q b hq=>?_) (fun q1 q2 b1 b2 g c c' x1 x2 _ _=>by rw [(yS x1).1,(yS x2).1])).mono ?_
 ·obtain ⟨hl,hi⟩:=h3 ν
  refine ⟨by simpa using hl,fun i gP=>?_⟩
  have hq:=hi i (by simpa using gP)
  cases i with
  | zero =>
   simp only [List.getD_cons_zero] at hq ⊢
   generalize vs.toList.getD 0 undef=v at hq ⊢
   cases hq with
   | dt hμ=>exact .dt hμ
   | own hμ=>exact .own hμ
  | succ i =>
   simp only [List.getD_cons_succ] at hq ⊢
   refine hq.agree (fun k' gY=>absurd gY (AV.vC as i (by rw [hk]; simp) (by simpa using gP)))
 ·obtain ⟨rfl,rfl⟩:=yS hq
  exact (h4 κ _ (lK κ)).agree (fun k hk=>by simp [bP.keys] at hk)
 ·rintro e' w' ⟨v,S',μ',rfl,B⟩
  exact ⟨v,S',μ',rfl,B.Th (fun b ⟨q,bk,c,x1,x2⟩=>⟨κ,_,c,lK κ,x2⟩)⟩
section
variable {α β ι : Type}
@[simp] theorem Sk.dn (a:α):(Sk.fin a).val=a:=rfl
@[simp] theorem Sk.fB (e:Bool) (x y:Sk α):(Sk.br e x y).val=bif e then x.val else y.val:=rfl
@[simp] theorem Sk.js (id:Nat) (c:bH β) (k:β→Sk α):(Sk.r id c k).val=(k c.v).val:=rfl
@[simp] theorem Sk.l6 (t:Nat) (m n:Int) (k:Sk α):(Sk.wi t m n k).val=k.val:=rfl
@[simp] theorem Sk.iO (t j n:Nat) (k:Sk α):(Sk.GG t j n k).val=k.val:=rfl
@[simp] theorem Sk.Rc (κ n n':Nat) (k:Sk α):(Sk.wn κ n n' k).val=k.val:=rfl
@[simp] theorem Sk.XY (k:Sk α):(Sk.KC k).val=k.val:=rfl
@[simp] theorem Sk.XZ (k:Sk α):(Sk.Dw k).val=k.val:=rfl
@[simp] theorem Sk.af1 (a:α):(Sk.dead a).val=a:=rfl
@[simp] theorem Sk.agB (t:Nat) (c:Bool) (x y:AV) (k1 k2:Sk α):(Sk.XN t c x y k1 k2).val=bif c then k1.val else k2.val:=rfl
@[simp] theorem Sk.agC (t n:Nat) (k1 k2:Sk α):(Sk.VJ t n k1 k2).val=k2.val:=rfl
@[simp] theorem Sk.aep (κ:Nat) (k:List (Int × Int)→Sk α):(Sk.op κ k).val=(k []).val:=rfl
@[simp] theorem Sk.aeq (κ:Nat) (m:List (Int × Int)) (k:Sk α):(Sk.cl κ m k).val=k.val:=rfl
@[simp] theorem Sk.agD (id:Nat) (x:Int) (c:tF) (k:Sk α):(Sk.PV id x c k).val=k.val:=rfl
@[simp] theorem Sk.ahN (κ:Nat) (k:Sk α):(Sk.fz κ k).val=k.val:=rfl
@[simp] theorem Sk.dK (b:Bool) (J:β→Prop) (s:Sk (α ⊕ β)) (u:β→Z2) (k:β→Sk α):(Sk.bind b J s u k).val=iX s.val fun b=>(k b).val:=rfl
@[simp] theorem Sk.aa0 {σ β Y:Type} (it:ItC Y) (I:Nat→σ→Prop) (B:β→Prop) (id:Nat) (s0:σ) (u:σ→List (Nat × bP)) (v:β→List (Nat × bP)) (b:σ→Y→Sk (β ⊕ σ)) (k:β ⊕ σ→Sk α):(Sk.rf it I B id s0 u v b k).val=(k (ry (fun s y=>(b s y).val) it.ys s0)).val:=rfl
@[simp] theorem Sk.gd (d:α) (I:ι→Prop) (m:ι→Nat) (i0:ι) (u:ι→Z2) (b:ι→Sk (α ⊕ ι)):(Sk.loop d I m i0 u b).val=iter (fun i=>(b i).val) d (m i0+1) i0:=rfl
variable (L : α → Prop)
@[simp] theorem Sk.agE (a:α):(Sk.fin a).bC L=L a:=rfl
@[simp] theorem Sk.ahO (e:Bool) (x y:Sk α):(Sk.br e x y).bC L=((e=true→x.bC L)∧(e=false→y.bC L)):=rfl
@[simp] theorem Sk.aiz (id:Nat) (c:bH β) (k:β→Sk α):(Sk.r id c k).bC L=(c.pre∧∀ x,x=c.v→c.post x→(k x).bC L):=rfl
@[simp] theorem Sk.ahP (t:Nat) (m n:Int) (k:Sk α):(Sk.wi t m n k).bC L=(m=n∧k.bC L):=rfl
@[simp] theorem Sk.agF (t j n:Nat) (k:Sk α):(Sk.GG t j n k).bC L=(n≤maxLen→k.bC L):=rfl
@[simp] theorem Sk.ahQ (κ n n':Nat) (k:Sk α):(Sk.wn κ n n' k).bC L=(n=n'∧k.bC L):=rfl
@[simp] theorem Sk.agG (k:Sk α):(Sk.KC k).bC L=k.bC L:=rfl
@[simp] theorem Sk.agH (k:Sk α):(Sk.Dw k).bC L=k.bC L:=rfl
@[simp] theorem Sk.af2 (a:α):(Sk.dead a).bC L=False:=rfl
@[simp] theorem Sk.agI (t:Nat) (c:Bool) (x y:AV) (k1 k2:Sk α):(Sk.XN t c x y k1 k2).bC L=((c=true→k1.bC L)∧(c=false→k2.bC L)):=rfl
@[simp] theorem Sk.agJ (t n:Nat) (k1 k2:Sk α):(Sk.VJ t n k1 k2).bC L=((n=0→k1.bC L∧k1.val=k2.val)∧k2.bC L):=rfl
@[simp] theorem Sk.agK (id:Nat) (x:Int) (c:tF) (k:Sk α):(Sk.PV id x c k).bC L=((0≤x∧x≤(c.n:Int))∧k.bC L):=rfl
@[simp] theorem Sk.ahR (κ:Nat) (k:Sk α):(Sk.fz κ k).bC L=k.bC L:=rfl
@[simp] theorem Sk.af3 (b:Bool) (J:β→Prop) (s:Sk (α ⊕ β)) (u:β→Z2) (k:β→Sk α):(Sk.bind b J s u k).bC L=(s.bC (sq L J)∧∀ b,s.val=.inr b→J b→(k b).bC L):=rfl
@[simp] theorem Sk.af4 (d:α) (I:ι→Prop) (m:ι→Nat) (i0:ι) (u:ι→Z2) (b:ι→Sk (α ⊕ ι)):(Sk.loop d I m i0 u b).bC L=(I i0∧∀ i,I i→(b i).bC (iY L fun j=>I j∧m j < m i)):=rfl
end
section
variable {α β ι : Type} (L : α → Prop)
@[simp] theorem Sk.agL (a:α):(Sk.fin a).dj L=L a:=rfl
@[simp] theorem Sk.ahS (e:Bool) (x y:Sk α):(Sk.br e x y).dj L=((e=true→x.dj L)∧(e=false→y.dj L)):=rfl
@[simp] theorem Sk.aiA (id:Nat) (c:bH β) (k:β→Sk α):(Sk.r id c k).dj L=(∀ x,x=c.v→c.post x→(k x).dj L):=rfl
@[simp] theorem Sk.ahT (t:Nat) (m n:Int) (k:Sk α):(Sk.wi t m n k).dj L=k.dj L:=rfl
@[simp] theorem Sk.agM (t j n:Nat) (k:Sk α):(Sk.GG t j n k).dj L=k.dj L:=rfl
@[simp] theorem Sk.ahU (κ n n':Nat) (k:Sk α):(Sk.wn κ n n' k).dj L=k.dj L:=rfl
@[simp] theorem Sk.agN (k:Sk α):(Sk.KC k).dj L=k.dj L:=rfl
@[simp] theorem Sk.agO (k:Sk α):(Sk.Dw k).dj L=k.dj L:=rfl
@[simp] theorem Sk.af5 (a:α):(Sk.dead a).dj L=L a:=rfl
@[simp] theorem Sk.agP (t:Nat) (c:Bool) (x y:AV) (k1 k2:Sk α):(Sk.XN t c x y k1 k2).dj L=((c=true→k1.dj L)∧(c=false→k2.dj L)):=rfl
@[simp] theorem Sk.agQ (t n:Nat) (k1 k2:Sk α):(Sk.VJ t n k1 k2).dj L=k2.dj L:=rfl
@[simp] theorem Sk.agR (id:Nat) (x:Int) (c:tF) (k:Sk α):(Sk.PV id x c k).dj L=k.dj L:=rfl
@[simp] theorem Sk.ahV (κ:Nat) (k:Sk α):(Sk.fz κ k).dj L=k.dj L:=rfl
@[simp] theorem Sk.af6 (b:Bool) (J:β→Prop) (s:Sk (α ⊕ β)) (u:β→Z2) (k:β→Sk α):(Sk.bind b J s u k).dj L=(s.dj (sq L J)∧∀ b,s.val=.inr b→J b→(k b).dj L):=rfl
@[simp] theorem Sk.af7 (d:α) (I:ι→Prop) (m:ι→Nat) (i0:ι) (u:ι→Z2) (b:ι→Sk (α ⊕ ι)):(Sk.loop d I m i0 u b).dj L=(I i0∧∀ i,I i→(b i).dj (iY L fun j=>I j∧m j < m i)):=rfl
end
@[simp] theorem ae8 {α β:Type} (L:α→Prop) (J:β→Prop) (a:α):sq L J (.inl a)=L a:=rfl
@[simp] theorem ae9 {α β:Type} (L:α→Prop) (J:β→Prop) (b:β):sq L J (.inr b)=J b:=rfl
@[simp] theorem afa {α β:Type} (L:α→Prop) (J:β→Prop) (a:α):iY L J (.inl a)=L a:=rfl
@[simp] theorem afb {α β:Type} (L:α→Prop) (J:β→Prop) (b:β):iY L J (.inr b)=J b:=rfl
@[simp] theorem Ze {α β:Type} (a:α) (f:β→α):iX (.inl a) f=a:=rfl
@[simp] theorem vx {α β:Type} (b:β) (f:β→α):iX (.inr b) f=f b:=rfl
def Sk.aI:{α:Type}→Sk α→Bool
 | _,.loop ..=>true
 | _,_=>false
def Sk.de:{α:Type}→Sk α→(α→Prop)→Prop
 | _,.fin a,L=>L a
 | _,.br e x y,L=>(e=true→x.de L)∧(e=false→y.de L)
 | _,.r _ c k,L=>∀ x,x=c.v→c.post x→(k x).de L
 | _,.wi _ _ _ k,L=>k.de L
 | _,.wn _ _ _ k,L=>k.de L
 | _,.KC k,L=>k.de L
 | _,.Dw k,L=>k.de L
 | _,.dead a,L=>L a
 | _,.GG _ _ _ k,L=>k.de L
 | _,.XN _ c _ _ x y,L=>(c=true→x.de L)∧(c=false→y.de L)
 | _,.VJ _ _ _ k,L=>k.de L
 | _,.fz _ k,L=>k.de L
 | _,.op _ k,L=>(k []).de L
 | _,.cl _ _ k,L=>k.de L
 | _,.PV _ _ _ k,L=>k.de L
 | _,.mr n V init _ _ b k,L=>V init∧(∀ g i,V g→i < n→(b g i).de V)∧∀ g,g=(List.range n).foldr (fun i g=>(b g i).val) init→V g→(k g).de L
 | _,.bind _ J s _ k,L=>s.de (sq L J)∧∀ b,(s.aI=false→s.val=.inr b)→J b→(k b).de L
 | _,.loop _ I m i0 _ b,L=>I i0∧∀ i,I i→(b i).de (iY L fun j=>I j∧m j < m i)
 | _,.rf it I B _ s0 _ _ b k,L=>I 0 s0∧(∀ i s y,I i s→it.ys[i]? = some y→(b s y).de (iY B (I (i+1))))∧∀ r,iY B (I it.ys.length) r→(k r).de L
def Sk.jt:{α:Type}→Sk α→(α→Prop)→Prop
 | _,.fin a,L=>L a
 | _,.br e x y,L=>(e=true→x.jt L)∧(e=false→y.jt L)
 | _,.r _ c k,L=>c.pre∧∀ x,x=c.v→c.post x→(k x).jt L
 | _,.wi _ m n k,L=>m=n∧k.jt L
 | _,.wn _ n n' k,L=>n=n'∧k.jt L
 | _,.KC k,L=>k.jt L
 | _,.Dw k,L=>k.jt L
 | _,.dead _,_=>False
 | _,.GG _ _ n k,L=>n≤maxLen→k.jt L
 | _,.XN _ c _ _ x y,L=>(c=true→x.jt L)∧(c=false→y.jt L)
 | _,.VJ _ n k1 k2,L=>(n=0→k1.jt L∧k1.val=k2.val)∧k2.jt L
 | _,.fz _ k,L=>k.jt L
 | _,.op _ k,L=>∀ m,(k m).val=(k []).val∧(k m).jt L
 | _,.cl _ _ k,L=>k.jt L
 | _,.PV _ x c k,L=>(0≤x∧x≤(c.n:Int))∧k.jt L
 | _,.mr n V init _ _ b k,L=>V init∧(∀ g i,V g→i < n→(b g i).dj V∧(b g i).jt fun _=>True)∧(∀ g i j,V g→i < n→j < n→i≠j→(b (b g j).val i).val=(b (b g i).val j).val)∧∀ g,g=(List.range n).foldr (fun i g=>(b g i).val) init→V g→(k g).jt L
 | _,.bind _ J s _ k,L=>s.jt (sq L J)∧∀ b,(s.aI=false→s.val=.inr b)→J b→(k b).jt L
 | _,.loop _ I m i0 _ b,L=>I i0∧∀ i,I i→(b i).jt (iY L fun j=>I j∧m j < m i)
 | _,.rf it I B _ s0 _ _ b k,L=>it.pre∧I 0 s0∧(∀ i s y,I i s→it.ys[i]? = some y→(b s y).de (iY B (I (i+1)))∧(b s y).jt (iY B (I (i+1))))∧∀ r,iY B (I it.ys.length) r→(k r).jt L
theorem Sk.bz:{α:Type}→(s:Sk α)→{L:α→Prop}→s.de L→s.dj L
 | _,.fin _,_,h=>h
 | _,.br _ x y,_,h=>⟨fun e=>x.bz (h.1 e),fun e=>y.bz (h.2 e)⟩
 | _,.r _ _ k,_,h=>fun x e p=>(k x).bz (h x e p)
 | _,.wi _ _ _ k,L,h=>k.bz (L:=L) h
 | _,.wn _ _ _ k,L,h=>k.bz (L:=L) h
 | _,.KC k,L,h=>k.bz (L:=L) h
 | _,.Dw k,L,h=>k.bz (L:=L) h
 | _,.dead _,_,h=>h
 | _,.GG _ _ _ k,L,h=>k.bz (L:=L) h
 | _,.XN _ _ _ _ x y,_,h=>⟨fun e=>x.bz (h.1 e),fun e=>y.bz (h.2 e)⟩
 | _,.VJ _ _ _ k,L,h=>k.bz (L:=L) h
 | _,.fz _ k,L,h=>k.bz (L:=L) h
 | _,.op _ k,L,h=>(k []).bz (L:=L) h
 | _,.cl _ _ k,L,h=>k.bz (L:=L) h
 | _,.PV _ _ _ k,L,h=>k.bz (L:=L) h
 | _,.mr _ _ _ _ _ b k,_,h=>⟨h.1,fun g i hg hi=>(b g i).bz (h.2.1 g i hg hi),fun g e hg=>(k g).bz (h.2.2 g e hg)⟩
 | _,.bind _ _ s _ k,_,h=>⟨s.bz h.1,fun b e hb=>(k b).bz (h.2 b (fun _=>e) hb)⟩
 | _,.loop _ _ _ _ _ b,_,h=>⟨h.1,fun i hi=>(b i).bz (h.2 i hi)⟩
 | _,.rf _ _ _ _ _ _ _ b k,_,h=>⟨h.1,fun i s y hs hy=>(b s y).bz (h.2.1 i s y hs hy),fun r _ hr=>(k r).bz (h.2.2 r hr)⟩
theorem Sk.aR:{α:Type}→(s:Sk α)→{L:α→Prop}→s.jt L→s.bC L
 | _,.fin _,_,h=>h
 | _,.br _ x y,_,h=>⟨fun e=>x.aR (h.1 e),fun e=>y.aR (h.2 e)⟩
 | _,.r _ _ k,_,h=>⟨h.1,fun x e p=>(k x).aR (h.2 x e p)⟩
 | _,.wi _ _ _ k,L,h=>⟨h.1,k.aR (L:=L) h.2⟩
 | _,.wn _ _ _ k,L,h=>⟨h.1,k.aR (L:=L) h.2⟩
 | _,.KC k,L,h=>k.aR (L:=L) h
 | _,.Dw k,L,h=>k.aR (L:=L) h
 | _,.dead _,_,h=>h.elim
 | _,.GG _ _ _ k,L,h=>fun hn=>k.aR (L:=L) (h hn)
 | _,.XN _ _ _ _ x y,_,h=>⟨fun e=>x.aR (h.1 e),fun e=>y.aR (h.2 e)⟩
 | _,.VJ _ _ k1 k2,L,h=>⟨fun e=>⟨k1.aR (L:=L) (h.1 e).1,(h.1 e).2⟩,k2.aR (L:=L) h.2⟩
 | _,.fz _ k,L,h=>k.aR (L:=L) h
 | _,.op _ k,L,h=>fun m=>⟨(h m).1,(k m).aR (h m).2⟩
 | _,.cl _ _ k,L,h=>k.aR (L:=L) h
 | _,.PV _ _ _ k,L,h=>⟨h.1,k.aR (L:=L) h.2⟩
 | _,.mr _ _ _ _ _ b k,_,h=>⟨h.1,fun g i hg hi=>⟨(h.2.1 g i hg hi).1,(b g i).aR (h.2.1 g i hg hi).2⟩,h.2.2.1,fun g e hg=>(k g).aR (h.2.2.2 g e hg)⟩
 | _,.bind _ _ s _ k,_,h=>⟨s.aR h.1,fun b e hb=>(k b).aR (h.2 b (fun _=>e) hb)⟩
 | _,.loop _ _ _ _ _ b,_,h=>⟨h.1,fun i hi=>(b i).aR (h.2 i hi)⟩
 | _,.rf _ _ _ _ _ _ _ b k,_,h=>⟨h.1,h.2.1,fun i s y hs hy=>⟨(b s y).bz (h.2.2.1 i s y hs hy).1,(b s y).aR (h.2.2.1 i s y hs hy).2⟩,fun r _ hr=>(k r).aR (h.2.2.2 r hr)⟩
theorem qQ {α:Type} (l:List α) {i:Nat} (h:i < l.length) (x d:α):(l.set i x).getD i d=x:=by simp [List.getD,h]
theorem qR {α:Type} (l:List α) {i j:Nat} (h:j≠i) (x d:α):(l.set i x).getD j d=l.getD j d:=by simp [List.getD,List.getElem?_set_ne (fun e=>h e.symm)]
def walk {α σ β:Type} (step:α→σ→β ⊕ σ) (fin:σ→β):List α→σ→β
 | [],s=>fin s
 | x :: r,s=>match step x s with
  | .inl b=>b
  | .inr s'=>walk step fin r s'
theorem iter_walk {α σ β ι:Type} [Inhabited α] (l:List α) (pack:σ→Nat→ι) {f:ι→β ⊕ ι} {d:β} (step:α→σ→β ⊕ σ) (fin:σ→β)
  (hs:∀ s i,i < l.length→f (pack s i)=match step (l.getD i default) s with | .inl b=>.inl b | .inr s'=>.inr (pack s' (i+1)))
  (he:∀ s,f (pack s l.length)=.inl (fin s)):∀ (n i:Nat) (s:σ),i≤l.length→l.length - i < n→iter f d n (pack s i)=walk step fin (l.drop i) s
 | 0,i,s,_,hn=>absurd hn (by omega)
 | n+1,i,s,hi,hn=>by
  simp only [iter]
  by_cases h:i < l.length
  ·rw [hs s i h,List.drop_eq_getElem_cons h,show l.getD i default=l[i] from by simp [List.getD,h]]
   simp only [walk]
   cases lW:step l[i] s with
   | inl b=>rfl
   | inr s'=>exact iter_walk l pack step fin hs he n (i+1) s' h (by omega)
  ·obtain rfl:i=l.length:=by omega
   rw [he s,List.drop_length]
   rfl
theorem qD {α σ β ι:Type} [Inhabited α] (l:List α) (pack:σ→Nat→ι) {f:ι→β ⊕ ι} {d:β} (step:α→σ→β ⊕ σ) (fin:σ→β)
  (hs:∀ s i,i < l.length→f (pack s i)=match step (l.getD i default) s with | .inl b=>.inl b | .inr s'=>.inr (pack s' (i+1)))
  (he:∀ s,f (pack s l.length)=.inl (fin s)) {n:Nat} (hn:l.length < n) (s:σ):iter f d n (pack s 0)=walk step fin l s:=by
 have:=iter_walk (d:=d) l pack step fin hs he n 0 s (Nat.zero_le _) (by omega)
 simpa using this
theorem j4 {α σ β:Type} (g:α→σ→σ) (fin:σ→β):∀ (l:List α) (s:σ),walk (fun x s=>.inr (g x s)) fin l s=fin (l.foldl (fun s x=>g x s) s)
 | [],_=>rfl
 | x :: r,s=>by simp only [walk,List.foldl_cons]; exact j4 g fin r (g x s)
theorem BP {α σ β:Type} (step:α→σ→β ⊕ σ) (fin:σ→β):∀ (l r:List α) (s:σ),walk step fin (l++r) s=walk step (fun s=>walk step fin r s) l s
 | [],_,_=>rfl
 | x :: l,r,s=>by
  simp only [List.cons_append,walk]
  cases step x s with
  | inl b=>rfl
  | inr s'=>exact BP step fin l r s'
theorem vR {α:Type} {l:List α} {i:Nat} (h:i < l.length) (d:α):l.getD i d∈l:=by
 rw [show l.getD i d=l[i] from by simp [List.getD,h]]
 exact List.getElem_mem h
theorem tL {α:Type} [Inhabited α] (L:List α) (lo n:Nat):(mY L lo n).length=n:=by simp [mY]
theorem LH (n:Int):IntKind.u64.wrap n=n % 18446744073709551616:=rfl
theorem kX (n:Int):0≤IntKind.u64.wrap n∧IntKind.u64.wrap n < 18446744073709551616:=by
 rw [LH]; omega
theorem eu {n:Int} (h:0≤n) (h2:n < 18446744073709551616):IntKind.u64.wrap n=n:=by
 rw [LH]; omega
theorem P4 (n:Int):IntKind.u8.wrap n=n % 256:=rfl
theorem G5 {a b:Int} (k:IntKind) (h:0≤b∧b≤k.bits):ep k a b=a / 2 ^ b.toNat:=by
 unfold ep
 rw [Nat.min_eq_left (by omega),Int.fdiv_eq_ediv_of_nonneg _ (Int.le_of_lt (Int.pow_pos (by omega)))]
theorem Ws {a b:Int} (h:0≤b∧b≤64):gb .u64 a b=(a * 2 ^ b.toNat) % 18446744073709551616:=by
 unfold gb
 have:IntKind.u64.bits=64:=rfl
 rw [this,Nat.min_eq_left (by omega),LH]
theorem LN:(∀ (p:Prop) [Decidable p],(decide p=true)=p)∧(∀ (p:Prop) [Decidable p],decide p=false↔¬ p) ∧
  (∀ (α:Type) (a b:List α),(a++b).length=a.length+b.length)∧(∀ (α:Type) (x:α) (a:List α),(x :: a).length=a.length+1)∧(∀ α:Type,([]:List α).length=0) ∧
  (∀ (α:Type) (a:List α) (i:Nat) (x:α),(a.set i x).length=a.length)∧(∀ (α:Type) (n:Nat) (x:α),(List.replicate n x).length=n) ∧
  (∀ b:Bool,(¬ b=true)=(b=false))∧(∀ b:Bool,(¬ b=false)=(b=true))∧(∀ a b:Int,¬ a < b↔b≤a)∧(∀ a b:Int,¬ a≤b↔b < a) ∧
  (∀ a b:Bool,((a&&b)=true)=(a=true∧b=true))∧(∀ a b:Bool,((a||b)=true)=(a=true∨b=true))∧(∀ a b:Bool,(a&&b)=false↔a=false∨b=false)∧(∀ a b:Bool,(a||b)=false↔a=false∧b=false) ∧
  (∀ a b:Bool,(!a)=b↔a = !b)∧((!true)=false)∧((!false)=true) ∧
  (∀ (α:Type) [BEq α] [LawfulBEq α] (a b:α),(a == b)=true↔a=b)∧(∀ (α:Type) [BEq α] [LawfulBEq α] (a b:α),(a != b)=true↔a≠b) ∧
  (∀ (α:Type) [BEq α] [LawfulBEq α] (a b:α),(a == b)=false↔a≠b)∧(∀ (α:Type) [BEq α] [LawfulBEq α] (a b:α),(a != b)=false↔a=b) ∧
  (∀ (α:Type) (a b:α),(a≠b) = ¬ a=b)∧(∀ (α:Type) [Inhabited α] (L:List α) (lo n:Nat),(mY L lo n).length=n) :=
 ⟨fun _ _=>decide_eq_true_eq,fun _ _=>decide_eq_false_iff_not,fun _ _ _=>List.length_append,fun _ _ _=>rfl,fun _=>rfl,fun _ _ _ _=>List.length_set,fun _ _ _=>List.length_replicate,
  Bool.not_eq_true,Bool.not_eq_false,fun _ _=>Int.not_lt,fun _ _=>Int.not_le,Bool.and_eq_true,Bool.or_eq_true,fun _ _=>Bool.and_eq_false_iff,fun _ _=>Bool.or_eq_false_iff,
  fun _ _=>Bool.not_eq_eq_eq_not,rfl,rfl,fun _ _ _ _ _=>beq_iff_eq,fun _ _ _ _ _=>bne_iff_ne,fun _ _ _ _ _=>beq_eq_false_iff_ne,fun _ _ _ _ _=>bne_eq_false_iff_eq,fun _ _ _=>rfl,fun _ _=>tL⟩
theorem ON:(∀ (x:Unit),bH.z.post x=True) ∧
 (∀ (p:Prop) (x:Unit),(bH.p p).post x=True) ∧
 (∀ {p:Prop} (h:p) (x:Unit),(bH.t h).post x=True) ∧
 (∀ (p:Prop) {q:Prop} (h:q) (x:Unit),(bH.pt p h).post x=True) ∧
 (∀ (l:List CX) (x:Unit),(bH.o l).post x=True) ∧
 (∀ {α β:Type} (a:bH α) (b:bH β) (x:α × β),(a.and b).post x=(a.post x.1∧b.post x.2)) ∧
 (∀ {β:Type} (a:bH Unit) (b:bH β) (x:β),(a.aj b).post x=b.post x) ∧
 (∀ {β:Type} (a:bH β) (b:bH Unit) (x:β),(a.Fv b).post x=a.post x) ∧
 (∀ {β:Type} (e w:Bool) (a:bH β) (x:β),(a.wh e w).post x=a.post x) ∧
 (∀ {α β:Type} (a:bH α) (b:α→bH β) (x:α × β),(a.dep b).post x=(a.post x.1∧(b x.1).post x.2)) ∧
 (∀ {α:Type} (a:bH α) (b:α→bH Unit) (x:α),(a.py b).post x=a.post x) ∧
 (∀ {β:Type} (c:ig β) (x:β),c.c.post x=c.post x) ∧
 (∀ {β:Type} (c:ig β) (i:Nat) (h:∃ g,c.args[i]? = some (.d (.sl 0 g))) (x:β),(c.nil i h).post x=c.post x) ∧
 (∀ {β:Type} (c:ig β) (i j:Nat) (cs:List D) (h:c.args[i]? = some (.d (.agg cs))) (h2:∃ g,cs[j]? = some (.sl 0 g)) (x:β),(c.ou i j cs h h2).post x=c.post x) ∧
 (bH.z.pre=True) ∧
 (∀ (p:Prop),(bH.p p).pre=p) ∧
 (∀ {p:Prop} (h:p),(bH.t h).pre=True) ∧
 (∀ (p:Prop) {q:Prop} (h:q),(bH.pt p h).pre=p) ∧
 (∀ (l:List CX),(bH.o l).pre=True) ∧
 (∀ {α β:Type} (a:bH α) (b:bH β),(a.and b).pre=(a.pre∧b.pre)) ∧
 (∀ {β:Type} (a:bH Unit) (b:bH β),(a.aj b).pre=(a.pre∧b.pre)) ∧
 (∀ {β:Type} (a:bH β) (b:bH Unit),(a.Fv b).pre=(a.pre∧b.pre)) ∧
 (∀ {β:Type} (e w:Bool) (a:bH β),(a.wh e w).pre=(e=w→a.pre)) ∧
 (∀ {α β:Type} (a:bH α) (b:α→bH β),(a.dep b).pre=(a.pre∧∀ x,x=a.v→a.post x→(b x).pre)) ∧
 (∀ {α:Type} (a:bH α) (b:α→bH Unit),(a.py b).pre=(a.pre∧∀ x,x=a.v→a.post x→(b x).pre)) ∧
 (∀ {α β:Type} (a:bH α) (b:α→bH β),(a.dep b).v=(a.v,(b a.v).v)) ∧
 (∀ {α:Type} (a:bH α) (b:α→bH Unit),(a.py b).v=a.v) ∧
 (∀ {β:Type} (c:ig β),c.c.pre=c.pre) ∧
 (∀ {β:Type} (c:ig β),c.c.v=c.v) ∧
 (∀ {β:Type} (c:ig β) (i:Nat) (h:∃ g,c.args[i]? = some (.d (.sl 0 g))),(c.nil i h).pre=c.pre) ∧
 (∀ {β:Type} (c:ig β) (i:Nat) (h:∃ g,c.args[i]? = some (.d (.sl 0 g))),(c.nil i h).v=c.v) ∧
 (∀ {β:Type} (c:ig β) (i j:Nat) (cs:List D) (h:c.args[i]? = some (.d (.agg cs))) (h2:∃ g,cs[j]? = some (.sl 0 g)),(c.ou i j cs h h2).pre=c.pre) ∧
 (∀ {β:Type} (c:ig β) (i j:Nat) (cs:List D) (h:c.args[i]? = some (.d (.agg cs))) (h2:∃ g,cs[j]? = some (.sl 0 g)),(c.ou i j cs h h2).v=c.v) ∧
 (∀ {α β:Type} (a:bH α) (b:bH β),(a.and b).v=(a.v,b.v)) ∧
 (∀ {β:Type} (a:bH Unit) (b:bH β),(a.aj b).v=b.v) ∧
 (∀ {β:Type} (a:bH β) (b:bH Unit),(a.Fv b).v=a.v) ∧
 (∀ {β:Type} (e w:Bool) (a:bH β),(a.wh e w).v=a.v) ∧
 (∀ {β:Type} (c:jZ β),c.c.pre=c.pre) ∧
 (∀ {β:Type} (c:jZ β),c.c.v=c.v) ∧
 (∀ {β:Type} (c:jZ β) (i:Nat) (h:∃ g,c.args[i]? = some (.d (.sl 0 g))),(c.nil i h).pre=c.pre) ∧
 (∀ {β:Type} (c:jZ β) (i:Nat) (h:∃ g,c.args[i]? = some (.d (.sl 0 g))),(c.nil i h).v=c.v) ∧
 (∀ {β:Type} (c:jZ β) (x:β),c.c.post x=c.post x) ∧
 (∀ {β:Type} (c:jZ β) (i:Nat) (h:∃ g,c.args[i]? = some (.d (.sl 0 g))) (x:β),(c.nil i h).post x=c.post x) ∧
 (∀ {α β:Type} (L:α→Prop) (J:β→Prop) (a:α),sq L J (.inl a)=L a) ∧
 (∀ {α β:Type} (L:α→Prop) (J:β→Prop) (b:β),sq L J (.inr b)=J b) ∧
 (∀ {α β:Type} (L:α→Prop) (J:β→Prop) (a:α),iY L J (.inl a)=L a) ∧
 (∀ {α β:Type} (L:α→Prop) (J:β→Prop) (b:β),iY L J (.inr b)=J b) ∧
 (∀ (i:Int) (n:Nat),bU i n=(0≤i∧i < (n:Int))) ∧
 (∀ n m bytes:Nat,yB n m bytes=(n+m≤maxLen∧(n+m) * bytes≤140737488355328)) ∧
 (∀ (n:Int) (bytes:Nat),Zc n bytes=(0≤n∧n.toNat≤maxLen∧n.toNat * bytes≤140737488355328)) ∧
 (∀ α:Prop,(α→True)=True) ∧
 (∀ α:Type,(α→True)=True) ∧
 (∀ p:Prop,(True∧p)=p) ∧
 (∀ p:Prop,(p∧True)=p) ∧
 (∀ p:Prop,(p∧p)=p) ∧
 (∀ p:Prop,(True→p)=p) ∧
 (∀ p:Prop,(False→p)=True):=by
 refine ⟨?_,?_,?_,?_,?_,?_,?_,?_,?_,?_,?_,?_,?_,?_,?_,?_,?_,?_,?_,?_,?_,?_,?_,?_,?_,?_,?_,?_,?_,?_,?_,?_,?_,?_,?_,?_,?_,?_,?_,?_,?_,?_,?_,?_,?_,?_,?_,?_,?_,?_,?_,?_,?_,?_,?_,?_,?_⟩
 all_goals first | rfl | (intros; rfl) | (intros; simp)
def kk {P:Program} {T:List (Nat × TI)} (hT:pj P T) (hm:P.follows .mixedOrders=true) {f:FuncId} {fn:Func} (hf:P.funcs[f]? = some fn) (args:List AV) {α:Type} (enc:α→AV) (fl:Bool) (s:Sk α) (v:α) {pre:Prop} (ok:pre→s.bC fun _=>True)
  (post:α→Prop:=fun _=>True) (hp:post v:=by trivial) (hv:v=s.val:=by exact id rfl) (n:Nat:=3000) (hb:fn.body.isSome=true:=by exact id (by kernel_rfl)) (hc:(ga P f&&Nat.ble args.length fn.ntmps)=true:=by exact id (by kernel_rfl))
  (h:rk P T fn.ntmps fn.results.toList (Dv fn.results.toList) 0 [] n [.code (fn.body.get hb)] ⟨dJ 0 args,[]⟩ (fun a=>.ret (enc a) []) s=(rk P T fn.ntmps fn.results.toList (Dv fn.results.toList) 0 [] n [.code (fn.body.get hb)] ⟨dJ 0 args,[]⟩ (fun a=>.ret (enc a) []) s).diag:=by exact id (by kernel_rfl)):ig α :=
 ⟨P,f,args,enc,fl,v,pre,fun hp=>hv ▸ gQ.sk hT hm enc (fun _=>[]) hf (Option.some_get hb).symm hc n s h (ok hp),post,hp⟩
theorem u0 {c:Prop} (f:c) (_:True):c:=f
theorem u2 {a b c:Prop} (f:a→b→c) (h:a∧b):c:=f h.1 h.2
theorem u3 {a b c d:Prop} (f:a→b→c→d) (h:a∧b∧c):d:=f h.1 h.2.1 h.2.2
theorem u4 {a b c d e:Prop} (f:a→b→c→d→e) (h:a∧b∧c∧d):e:=f h.1 h.2.1 h.2.2.1 h.2.2.2
theorem u5 {a b c d e g:Prop} (f:a→b→c→d→e→g) (h:a∧b∧c∧d∧e):g:=f h.1 h.2.1 h.2.2.1 h.2.2.2.1 h.2.2.2.2
theorem u6 {a b c d e g i:Prop} (f:a→b→c→d→e→g→i) (h:a∧b∧c∧d∧e∧g):i:=f h.1 h.2.1 h.2.2.1 h.2.2.2.1 h.2.2.2.2.1 h.2.2.2.2.2
def kp {P:Program} {T:List (Nat × TI)} (hT:pj P T) (hm:P.follows .mixedOrders=true) {f:FuncId} {fn:Func} (hf:P.funcs[f]? = some fn) (args:List AV) {α:Type} (enc:α→AV) (fl:Bool) {s:Sk α} (v:α) {pre:Prop} (ok:pre→s.bC fun _=>True)
  {post:α→Prop} (hq:s.dj post) (hv:v=s.val:=by exact id rfl) (n:Nat:=3000) (hb:fn.body.isSome=true:=by exact id (by kernel_rfl)) (hc:(ga P f&&Nat.ble args.length fn.ntmps)=true:=by exact id (by kernel_rfl))
  (h:rk P T fn.ntmps fn.results.toList (Dv fn.results.toList) 0 [] n [.code (fn.body.get hb)] ⟨dJ 0 args,[]⟩ (fun a=>.ret (enc a) []) s=(rk P T fn.ntmps fn.results.toList (Dv fn.results.toList) 0 [] n [.code (fn.body.get hb)] ⟨dJ 0 args,[]⟩ (fun a=>.ret (enc a) []) s).diag:=by exact id (by kernel_rfl)):ig α :=
 ⟨P,f,args,enc,fl,v,pre,fun hp=>hv ▸ gQ.sk hT hm enc (fun _=>[]) hf (Option.some_get hb).symm hc n s h (ok hp),post,hv ▸ Sk.dk s hq⟩
@[simp] theorem aiO {P:Program} {T:List (Nat × TI)} (hT:pj P T) (hm:P.follows .mixedOrders=true) {f:FuncId} {fn:Func} (hf:P.funcs[f]? = some fn) (args:List AV) {α:Type} (enc:α→AV) (fl:Bool) (s:Sk α) (v:α) {pre:Prop} (ok:pre→s.bC fun _=>True) (post:α→Prop) (hp:post v) (hv:v=s.val) (n:Nat) (hb:fn.body.isSome=true) (hc:(ga P f&&Nat.ble args.length fn.ntmps)=true) (h:rk P T fn.ntmps fn.results.toList (Dv fn.results.toList) 0 [] n [.code (fn.body.get hb)] ⟨dJ 0 args,[]⟩ (fun a=>.ret (enc a) []) s=(rk P T fn.ntmps fn.results.toList (Dv fn.results.toList) 0 [] n [.code (fn.body.get hb)] ⟨dJ 0 args,[]⟩ (fun a=>.ret (enc a) []) s).diag):(kk hT hm hf args enc fl s v ok post hp hv n hb hc h).v=v:=rfl
@[simp] theorem ahW {P:Program} {T:List (Nat × TI)} (hT:pj P T) (hm:P.follows .mixedOrders=true) {f:FuncId} {fn:Func} (hf:P.funcs[f]? = some fn) (args:List AV) {α:Type} (enc:α→AV) (fl:Bool) (s:Sk α) (v:α) {pre:Prop} (ok:pre→s.bC fun _=>True) (post:α→Prop) (hp:post v) (hv:v=s.val) (n:Nat) (hb:fn.body.isSome=true) (hc:(ga P f&&Nat.ble args.length fn.ntmps)=true) (h:rk P T fn.ntmps fn.results.toList (Dv fn.results.toList) 0 [] n [.code (fn.body.get hb)] ⟨dJ 0 args,[]⟩ (fun a=>.ret (enc a) []) s=(rk P T fn.ntmps fn.results.toList (Dv fn.results.toList) 0 [] n [.code (fn.body.get hb)] ⟨dJ 0 args,[]⟩ (fun a=>.ret (enc a) []) s).diag):(kk hT hm hf args enc fl s v ok post hp hv n hb hc h).pre=pre:=rfl
@[simp] theorem agS {P:Program} {T:List (Nat × TI)} (hT:pj P T) (hm:P.follows .mixedOrders=true) {f:FuncId} {fn:Func} (hf:P.funcs[f]? = some fn) (args:List AV) {α:Type} (enc:α→AV) (fl:Bool) (s:Sk α) (v:α) {pre:Prop} (ok:pre→s.bC fun _=>True) (post:α→Prop) (hp:post v) (hv:v=s.val) (n:Nat) (hb:fn.body.isSome=true) (hc:(ga P f&&Nat.ble args.length fn.ntmps)=true) (h:rk P T fn.ntmps fn.results.toList (Dv fn.results.toList) 0 [] n [.code (fn.body.get hb)] ⟨dJ 0 args,[]⟩ (fun a=>.ret (enc a) []) s=(rk P T fn.ntmps fn.results.toList (Dv fn.results.toList) 0 [] n [.code (fn.body.get hb)] ⟨dJ 0 args,[]⟩ (fun a=>.ret (enc a) []) s).diag):(kk hT hm hf args enc fl s v ok post hp hv n hb hc h).post=post:=rfl
theorem okT {p:Prop} (h:p:=by
 all_goals (repeat' first | assumption | (apply And.intro) | (intro h))
 all_goals first | trivial | assumption | omega | ((try simp only [LN] at *) <;> first | omega | (refine (aA ?_ ?_).trans ?_ <;> omega) | (simp (disch:=omega) only [aA] at *; omega) | (grind) | (simp_all; done) | (simp_all; omega))):p:=h
theorem af8 {p:Prop} (h:p:=by
 all_goals (repeat' first | assumption | (apply And.intro) | (intro h))
 all_goals first | trivial | assumption | omega | ((try simp only [LN] at *) <;> first | omega | (refine (aA ?_ ?_).trans ?_ <;> omega) | (simp (disch:=omega) only [aA] at *; omega) | (grind) | (simp (disch:=omega) only [aA] at *; grind) | (simp_all; done) | (simp_all; omega))):p:=h
theorem qS {p:Prop} (h:p:=by
 refine Sk.aR _ ?_
 simp only [Sk.jt,Sk.aI,reduceCtorEq,sq,iY,bH.z,bH.p,bH.t,bH.pt,bH.o,bH.and,bH.aj,bH.Fv,bH.wh,bH.dep,bH.py,ig.c,kk,kp,ig.nil,ig.ou,jZ.c,jZ.nil,Sk.dj,Sk.de,maxLen,implies_true,true_and,and_true,and_self,true_implies,false_implies,bU,yB,Zc]):p:=h
theorem mz {p:Prop} (h:p:=by
 refine Sk.aR _ ?_
 simp only [Sk.jt,Sk.aI,reduceCtorEq,sq,iY,bH.z,bH.p,bH.t,bH.pt,bH.o,bH.and,bH.aj,bH.Fv,bH.wh,bH.dep,bH.py,ig.c,kk,kp,ig.nil,ig.ou,jZ.c,jZ.nil,Sk.dj,Sk.de,maxLen,implies_true,true_and,and_true,and_self,true_implies,false_implies,bU,yB,Zc]
 all_goals (repeat' first | assumption | (apply And.intro) | (intro h))
 all_goals first | trivial | assumption | omega | ((try simp only [LN] at *) <;> first | omega | (refine (aA ?_ ?_).trans ?_ <;> omega) | (simp (disch:=omega) only [aA] at *; omega) | (grind) | (simp_all; done) | (simp_all; omega))):p:=h
theorem Br {p:Prop} (h:p:=by
 refine Sk.aR _ ?_
 simp only [Sk.jt,Sk.aI,reduceCtorEq,sq,iY,bH.z,bH.p,bH.t,bH.pt,bH.o,bH.and,bH.aj,bH.Fv,bH.wh,bH.dep,bH.py,ig.c,kk,kp,ig.nil,ig.ou,jZ.c,jZ.nil,Sk.dj,Sk.de,forall_eq,Sum.forall,maxLen,implies_true,true_and,and_true,and_self,true_implies,false_implies,bU,yB,Zc]
 all_goals (repeat' first | assumption | (apply And.intro) | (intro h))
 all_goals first | trivial | assumption | omega | ((try simp only [LN] at *) <;> first | omega | (refine (aA ?_ ?_).trans ?_ <;> omega) | (simp (disch:=omega) only [aA] at *; omega) | (grind) | (simp_all; done) | (simp_all; omega))):p:=h
theorem Fw {p:Prop} (h:p:=by
 refine Sk.bz _ ?_
 simp only [Sk.aI,reduceCtorEq,sq,iY,bH.z,bH.p,bH.t,bH.pt,bH.o,bH.and,bH.aj,bH.Fv,bH.wh,bH.dep,bH.py,ig.c,kk,kp,ig.nil,ig.ou,jZ.c,jZ.nil,Sk.de,maxLen,implies_true,true_and,and_true,and_self,true_implies,false_implies,bU,yB,Zc]
 all_goals (repeat' first | assumption | (apply And.intro) | (intro h))
 all_goals first | trivial | assumption | omega | ((try simp only [LN] at *) <;> first | omega | (refine (aA ?_ ?_).trans ?_ <;> omega) | (simp (disch:=omega) only [aA] at *; omega) | (grind) | (simp_all; done) | (simp_all; omega))):p:=h
theorem Wt {p:Prop} (h:p:=by
 refine Sk.bz _ ?_
 simp only [Sk.aI,reduceCtorEq,sq,iY,bH.z,bH.p,bH.t,bH.pt,bH.o,bH.and,bH.aj,bH.Fv,bH.wh,bH.dep,bH.py,ig.c,kk,kp,ig.nil,ig.ou,jZ.c,jZ.nil,Sk.de,forall_eq,Sum.forall,maxLen,implies_true,true_and,and_true,and_self,true_implies,false_implies,bU,yB,Zc]
 all_goals (repeat' first | assumption | (apply And.intro) | (intro h))
 all_goals first | trivial | assumption | omega | ((try simp only [LN] at *) <;> first | omega | (refine (aA ?_ ?_).trans ?_ <;> omega) | (simp (disch:=omega) only [aA] at *; omega) | (grind) | (simp_all; done) | (simp_all; omega))):p:=h
theorem Wu {α σ β:Type} {step:α→σ→β ⊕ σ} {I:Nat→σ→Prop} {Q:β→Prop}:∀ (l:List α) (k0:Nat) (s:σ),(∀ k x s,x∈l→I k s→match step x s with | .inl b=>Q b | .inr s'=>I (k+1) s')→I k0 s →
  (∃ b,Q b∧∀ fin,walk step fin l s=b)∨∃ s',I (k0+l.length) s'∧∀ fin,walk step fin l s=fin s'
 | [],k0,s,_,h0=>.inr ⟨s,h0,fun _=>rfl⟩
 | x :: r,k0,s,h,h0=>by
  have hx:=h k0 x s (by simp) h0
  simp only [walk]
  cases hs:step x s with
  | inl b=>rw [hs] at hx; exact .inl ⟨b,hx,fun _=>rfl⟩
  | inr s' =>
   rw [hs] at hx
   rcases Wu r (k0+1) s' (fun k y t hy=>h k y t (List.mem_cons_of_mem _ hy)) hx with ⟨b,q,e⟩ | ⟨t,q,e⟩
   ·exact .inl ⟨b,q,e⟩
   ·exact .inr ⟨t,by rw [List.length_cons,show k0+(r.length+1)=k0+1+r.length by omega]; exact q,e⟩
theorem dT {α σ γ δ ι:Type} [Inhabited α] (l:List α) (pack:σ→Nat→ι) {f:ι→(γ ⊕ δ) ⊕ ι} {d:γ ⊕ δ} (step:α→σ→γ ⊕ σ) (fin:σ→δ) (g:δ→γ)
  (hs:∀ s i,i < l.length→f (pack s i)=match step (l.getD i default) s with | .inl b=>.inl (.inl b) | .inr s'=>.inr (pack s' (i+1)))
  (he:∀ s,f (pack s l.length)=.inl (.inr (fin s))) {n:Nat} (hn:l.length < n) (s:σ):iX (iter f d n (pack s 0)) g=walk step (fun s=>g (fin s)) l s:=by
 rw [qD (d:=d) l pack (fun x s=>match step x s with | .inl b=>.inl (.inl b) | .inr s'=>.inr s') (fun s=>.inr (fin s)) (fun s i hi=>by rw [hs s i hi]; cases step (l.getD i default) s <;> rfl) he hn s]
 clear hs he
 induction l generalizing s with
 | nil=>rfl
 | cons x r ih =>
  simp only [walk]
  cases step x s with
  | inl b=>rfl
  | inr s'=>exact ih (by simp at hn; omega) s'
section
structure uW (P:Program) (fi:FuncId) (nt:Nat) (ys:List (List AV)) where
 l:Nat
 w0:World
 S:Nat→Prop
 J:Nat→(Nat→Prop)→World→Prop
 Jx:(Nat→Prop)→World→Prop
 jk:∀ i F W W',J i F W→Kept W W' (fun b=>w0.heap.size≤b∧¬ F b∧¬ S b)→J i F W'
 jxk:∀ F W W',Jx F W→Kept W W' (fun b=>w0.heap.size≤b∧¬ F b∧¬ S b)→Jx F W'
 yl:∀ i F W (vs:Array Value),i < ys.length→J i F W→(∀ ν,eo W (fun _=>False) (fun _=>none) ν (ys.getD i []) vs.toList)→YieldAt Fence.wide 0 P l vs W fun e W'=>∃ F',(∀ b,F' b→F b∨W.heap.size≤b)∧(∀ b,F' b→b < W'.heap.size)∧Kept W W' F∧((e=.returned (.bool true)∧J (i+1) F' W')∨(e=.returned (.bool false)∧Jx F' W'))
variable {P : Program} {fi : FuncId} {nt : Nat} {ys : List (List AV)}
def uW.yv (X:uW P fi nt ys):Value:=.func (.yield X.l) #[] #[]
structure uW.Rt (X:uW P fi nt ys) (F:Nat→Prop) (C:Cx):Prop where
 dl:C.dl=[]
 sz:X.w0.heap.size≤C.w0.heap.size
 sub:∀ b,X.S b→C.S0 b
 dis:∀ b,C.S0 b→¬ F b
 GG:∀ b,F b→b < C.w0.heap.size
 own:∀ b,C.T0 b→¬ F b∧X.w0.heap.size≤b
def uW.H (X:uW P fi nt ys) (i:Nat) (C:Cx):Prop:=∃ F,X.Rt F C∧X.J i F C.w0
def uW.acF (X:uW P fi nt ys) (C:Cx):Prop:=∃ F,X.Rt F C∧X.Jx F C.w0
def uW.Fin (X:uW P fi nt ys) (cs:List Frame) (m:Machine):Prop:=∃ v w' fr,((∃ F,X.J ys.length F w')∨∃ F,X.Jx F w')∧Steps P m (lone fr cs w')∧fr.fn=fi∧fr.leaving P w' (.returned v)
theorem uW.Fin.steps {X:uW P fi nt ys} {cs:List Frame} {m m':Machine} (hs:Steps P m m') (h:X.Fin cs m'):X.Fin cs m :=
 let ⟨v,w',fr,q1,q2,q3⟩:=h
 ⟨v,w',fr,q1,hs.trans q2,q3⟩
def uW.g (X:uW P fi nt ys) (T:List (Nat × TI)) (fn:Func) (H:Cx→Prop):Goal :=
 ⟨P,T,nt,fi,fn,.any,[],2,[0],#[X.yv],fun C _ cs m=>H C→X.Fin cs m,fun _ _ cs m m' hs hz h=>.steps hs (hz h)⟩
theorem uW.Rt.still {X:uW P fi nt ys} {F:Nat→Prop} {C:Cx} {A:M} {a:Act} {w:World} {S:Nat→Prop} {μ:Mu} {ν:Nat→Bool} (hF:X.Rt F C) (h:dG C A a w S μ ν):Kept C.w0 w (fun b=>X.w0.heap.size≤b∧¬ F b∧¬ X.S b) :=
 h.kept.Bs fun b hb=>⟨(hF.own b hb).2,(hF.own b hb).1,fun hs=>C.dis b (hF.sub b hs) hb⟩
theorem uW.yield {X:uW P fi nt ys} {F:Nat→Prop} {C:Cx} {A:M} {a:Act} {w:World} {S:Nat→Prop} {μ:Mu} {i:Nat} (dy:∀ ν,dG C A a w S μ ν) (hF:X.Rt F C) (hJ:X.J i F C.w0) (hi:i < ys.length) {vs:Array Value}
  (hr:∀ ν,eo w (fun _=>False) (fun _=>none) ν (ys.getD i []) vs.toList):YieldAt Fence.wide 0 P X.l vs w fun e W'=>∃ C',C'.P=C.P∧C'.nt=C.nt∧(∀ ν,dG C' A a W' S μ ν)∧((e=.returned (.bool true)∧X.H (i+1) C')∨(e=.returned (.bool false)∧X.acF C')):=by
 have h0:=dy fun _=>false
 obtain ⟨fn,tmps,Q3,body,h1,h2⟩:=X.yl i F w vs hi (X.jk _ _ _ _ hJ (hF.still h0)) hr
 refine ⟨fn,tmps,Q3,body,h1,h2.mono ?_⟩
 rintro e W' ⟨F',q1,q2,q3,q4⟩
 have kM:=h0.kept.size
 have nS:∀ b,S b→¬ F b:=fun b hb hf=>by
  rcases h0.fresh b hb with h | h | h
  ·exact hF.dis b h hf
  ·have:=hF.GG b hf; omega
  ·exact (hF.own b h).1 hf
 have nO:∀ b,ue A μ b→¬ F b:=fun b hb hf=>by
  rcases h0.TN hb with h | h
  ·have:=hF.GG b hf; omega
  ·exact (hF.own b h).1 hf
 have hS:∀ b,S b→W'.heap[b]? = w.heap[b]?:=fun b hb=>q3.block b (h0.bound b hb) (nS b hb)
 have vO:∀ ν,Core A a.tmps W' S μ ν:=fun ν=>(dy ν).core.keep (fun _=>.inr rfl) hS (fun q hq=>q3.block q (by obtain ⟨_,_,hb⟩:=h0.core.tK hq; exact hb.lt) (nO q hq)) q3.size
 have adw:kN W' S:=h0.Bt.mono (fun _ x=>x) hS
 have hrt:X.Rt F' (Cx.at C.P C.nt W' S A μ adw (vO fun _=>false).mem (vO fun _=>false).bound [] (fun d h=>by cases h) List.nodup_nil):=by
  refine ⟨rfl,Nat.le_trans hF.sz (Nat.le_trans kM q3.size),fun b hb=>h0.fU b (hF.sub b hb),fun b hb hf=>?_,q2,fun b hb=>⟨fun hf=>?_,?_⟩⟩
  ·rcases q1 b hf with h | h
   ·exact nS b hb h
   ·have:=h0.bound b hb; omega
  ·rcases q1 b hf with h | h
   ·exact nO b hb h
   ·obtain ⟨_,_,pk⟩:=h0.core.tK hb
    have:=pk.lt
    omega
  ·rcases h0.TN hb with h | h
   ·exact Nat.le_trans hF.sz h
   ·exact (hF.own b h).2
 refine ⟨Cx.at C.P C.nt W' S A μ adw (vO fun _=>false).mem (vO fun _=>false).bound [] (fun d h=>by cases h) List.nodup_nil,rfl,rfl,fun ν=>(vO ν).sim h0.tmps _ _ _ _ _ _ (h0.defers.trans hF.dl),?_⟩
 exact q4.imp (fun ⟨a,b⟩=>⟨a,F',hrt,b⟩) (fun ⟨a,b⟩=>⟨a,F',hrt,b⟩)
def YW (X:uW P fi nt ys) (k:List Item) (ops:Array Oper) (H:Cx→Prop) (ya:List Nat) (kn:Option (Nat × Bool)) (l:List Nat) (st:St):Prop :=
 ∀ C:Cx,C.P=P→C.nt=nt→H C→∀ a w,(∀ u,u∈ya→a.tmps.getD u undef=X.yv)→(∀ s b,kn=some (s,b)→s < nt∧a.tmps.getD s undef=.bool b)→kV C st a w →
  wpOpsIn Fence.wide 0 P ops (fun e a' w'=>e=.normal∧∀ (b:Frame) (cs:List Frame),b.fn=fi→b.kind=.normal→b.roundOf=none→X.Fin cs (lone (b.atR a' k) cs w')) l a w
variable {X : uW P fi nt ys} {k : List Item} {ops : Array Oper} {H : Cx → Prop} {ya : List Nat} {kn : Option (Nat × Bool)} {l : List Nat} {st st' : St}
theorem YW.le (h:N2 st st') (hg:YW X k ops H ya kn l st'):YW X k ops H ya kn l st:=fun C h1 h2 h3 a w h4 h5 h6=>hg C h1 h2 h3 a w h4 h5 (h C a w h6)
theorem YW.nil {T:List (Nat × TI)} {fn:Func} (h0:0∈ya) (h:G (X.g T fn H) k st):YW X k ops H ya kn [] st:=fun C h1 h2 h3 a w h4 _ h6 =>
 ⟨rfl,fun b cs e1 e2 e3=>h C h1 h2 a w (fun u hu=>by
  have hu:u=0:=by simpa [uW.g] using hu
  subst hu
  exact h4 0 h0) h6 b cs e1 e2 ⟨fun _=>by show (2:Nat)≠1; decide,fun _=>e3⟩ h3⟩
theorem P5 {P:Program} {o o':Oper} {a:Act} {w:World} {next next':Act→World→Prop} {Q Q':Exit→Act→World→Prop} {n:Nat} (ho:o'.op=o.op) (hd':o'.dst=o.dst) (ht:o'.type=o.type) (hd:∀ c,o.op≠.defer c) (hn:∀ a w,next a w→next' a w) (hq:∀ e a w,Q e a w→e=.normal) (h:o'.wp P a w next Q):o.wpIn Fence.wide n P a w next' Q':=by
 refine ⟨fun _ _=>trivial,?_⟩
 rw [Oper.semAt_eq _ _ _ hd]
 unfold Oper.wp at h
 have he:execOp a.eval o'=execOp a.eval o:=by
  unfold execOp
  rw [ho,ht]
 rw [he] at h
 generalize (execOp a.eval o).run P w=r at *
 have no:¬ LetsOut Q:=fun ⟨_,_,q⟩=>by cases hq _ _ _ q
 have hdp:(Fence.wide.depth.isSome=true→1≤n):=fun h=>by simp [Fence.wide] at h
 cases r with
 | ok x w' =>
  cases x <;> simp only [Oper.upon,Oper.uponIn,hd'] at h ⊢ <;>
   first
    | exact hn _ _ h
    | exact ⟨hdp,(callsIn_wide.2 h).mono (fun e Z4 he=>by cases e <;> first | exact hn _ _ he | exact absurd (hq _ _ _ he) (by simp) | exact absurd he no)⟩
    | exact ⟨hdp,fun c cs _=>by obtain ⟨v,Z4,q,s⟩:=h c cs; exact ⟨v,Z4,hn _ _ q,stepsIn_wide.2 s⟩⟩
 | halt x w'=>cases x <;> simp only [Oper.upon,Oper.uponIn] at h ⊢ <;> first | exact h.elim | exact absurd (hq _ _ _ h) (by simp)
theorem T3 {P:Program} {pre ops:Array Oper} {Q Q':Exit→Act→World→Prop} {l:List Nat} (QH:∀ i,i < pre.size→ops[i]? = pre[i]?) (hg:(pre.toList.all fun o=>match o.guard with | some (j,_)=>Nat.blt j pre.size | none=>true)=true) (hd:m9 pre=true) (hq:∀ e a w,Q e a w→e=.normal) :
  ∀ (is:List Nat),(∀ i,i∈is→i < pre.size)→∀ a w,wpOps P pre Q is a w→(∀ a' w',Q .normal a' w'→wpOpsIn Fence.wide 0 P ops Q' l a' w')→wpOpsIn Fence.wide 0 P ops Q' (is++l) a w
 | [],_,a,w,h,hk=>hk a w h
 | i :: is,hi,a,w,h,hk=>by
  have gH:=hi i (by simp)
  have ih:=T3 (P:=P) (l:=l) (Q':=Q') QH hg hd hq is (fun j hj=>hi j (by simp [hj]))
  simp only [wpOps,List.cons_append,wpOpsIn] at h ⊢
  rw [QH i gH]
  cases ho:pre[i]? with
  | none=>rw [ho] at h; exact ih a w h hk
  | some o =>
   rw [ho] at h
   simp only at h ⊢
   have hw:Region.wanted o (yielded ops a.tmps)=Region.wanted o (yielded pre a.tmps):=by
    unfold Region.wanted
    cases hgd:o.guard with
    | none=>rfl
    | some jw =>
     obtain ⟨j,want⟩:=jw
     simp only [List.all_eq_true] at hg
     have:=hg o (by obtain ⟨hi,rfl⟩:=Array.getElem?_eq_some_iff.1 ho; simp)
     rw [hgd] at this
     have hj:j < pre.size:=by simpa using this
     simp only [yielded,QH j hj]
   rw [hw]
   split
   ·rename_i hw
    rw [if_pos hw] at h
    rcases h with h | ⟨_,_,_,q⟩
    ·exact P5 rfl rfl rfl (vN hd ho) (fun a' w' hh=>ih a' w' hh hk) hq h
    ·cases hq _ _ _ q
   ·rename_i hw
    rw [if_neg hw] at h
    exact ⟨fun _ _=>trivial,ih _ w h hk⟩
theorem G6 {l:List Nat} {o:Oper} (h:uI l #[o]=true) {a:Act} {v:Value} {u:Nat} (hu:u∈l):(a.put o.dst v).tmps.getD u undef=a.tmps.getD u undef:=by
 simp only [uI,List.all_eq_true] at h
 have h1:=h u hu o (by simp)
 cases hd:o.dst with
 | none=>rfl
 | some d =>
  rw [hd] at h1
  exact dw _ _ _ _ (fun e=>by subst e; simp at h1)
theorem T4 {l:List Nat} {pre:Array Oper} (h:uI l pre=true) {K:Array Value→Prop} (hK:∀ t t':Array Value,(∀ u,u∈l→t'.getD u undef=t.getD u undef)→K t→K t'):TE pre K:=fun i o a v ho hk =>
 hK _ _ (fun u hu=>G6 (l:=l) (by
  simp only [uI,List.all_eq_true] at h ⊢
  intro t ht o' Xs
  have:o'=o:=by simpa using Xs
  subst this
  exact h t ht o' (by obtain ⟨hi,rfl⟩:=Array.getElem?_eq_some_iff.1 ho; simp)) hu) hk
def knL:Option (Nat × Bool)→List Nat
 | some (s,_)=>[s]
 | none=>[]
theorem YW.pre {T:List (Nat × TI)} (hT:pj P T) (hm:P.follows .mixedOrders=true) {pre:Array Oper} {kW:List CX} {ob:Ob} (QH:∀ i,i < pre.size→ops[i]? = pre[i]?) (hg:(pre.toList.all fun o=>match o.guard with | some (j,_)=>Nat.blt j pre.size | none=>true)=true) (hd:m9 pre=true) (hya:uI ya pre=true)
  (hr:ru P T nt pre false none st kW=some (st',ob)) (cD:ob.den) (h:YW X k ops H ya none l st'):YW X k ops H ya none (List.range pre.size++l) st:=by
 intro C h1 h2 h3 a w h4 h5 h6
 have hw:=Eh (C:=C) (T:=T) (by rw [h1]; exact hT) (by rw [h1]; exact hm) (by rw [h1,h2]; exact hr) cD h6
 rcases hw with ⟨-,hw⟩ | ⟨e,-⟩
 ·rw [h1] at hw
  have hw:=vt (K:=fun t=>∀ u,u∈ya→t.getD u undef=X.yv) (T4 hya fun t t' he hk u hu=>(he u hu).trans (hk u hu)) (fun e a w h=>h.1) _ a w h4 hw
  exact T3 QH hg hd (fun e a w h=>h.1.1) _ (fun i hi=>List.mem_range.1 hi) a w hw fun a' w' hh=>h C h1 h2 h3 a' w' hh.2 (fun s b e=>by cases e) hh.1.2
 ·cases e
def Fx (ops:Array Oper) (kn:Option (Nat × Bool)) (o:Oper):Option Bool :=
 match o.guard with
 | none=>some true
 | some (j,w)=>(match CY ops j,kn with
  | some s,some (s',b)=>bif Nat.beq s s' then some (b == w) else none
  | _,_=>none)
theorem yT {o:Oper} {b:Bool} (h:Fx ops kn o=some b) {a:Act} (hk:∀ s b,kn=some (s,b)→s < a.tmps.size∧a.tmps.getD s undef=.bool b):Region.wanted o (yielded ops a.tmps)=b:=by
 unfold Fx at h
 unfold Region.wanted
 cases hgd:o.guard with
 | none=>rw [hgd] at h; simpa using h
 | some jw =>
  obtain ⟨j,want⟩:=jw
  rw [hgd] at h
  simp only at h ⊢
  split at h
  ·rename_i s s' b' hs
   rw [Bool.cond_eq_ite] at h
   split at h
   ·rename_i he
    have he:=Nat.eq_of_beq_eq_true he
    subst he
    obtain ⟨q1,q2⟩:=hk _ _ rfl
    rw [TA hs q1,q2]
    simp only [Option.some.injEq] at h
    subst h
    cases b' <;> cases want <;> rfl
   ·cases h
  ·cases h
theorem kV.drop {C:Cx} {a:Act} {w:World} {d:Nat} (h:kV C st a w) (hd:d < C.nt) (v:Value):kV C ⟨aY [d] st.sl,st.lb⟩ (a.put (some d) v) w:=by
 obtain ⟨S,μ,hs⟩:=h
 refine ⟨S,μ,fun ν=>?_⟩
 have:=(hs ν).put (dst:=some d) (x:=.any) (v:=v) (fun t e=>by cases e; exact hd) (.any _)
 refine this.weaken (fun u x hx=>?_) (fun κ b hb=>⟨b,hb,fun _ h=>h⟩)
 simp only [St.gK,M.yE,M.put] at hx ⊢
 by_cases e:u=d
 ·subst e
  have:St.get (aY [u] st.sl) u=.any:=by simp [St.get,nH]
  rw [this]
  exact .any _
 ·simp only [e,if_false] at hx
  have:St.get (aY [d] st.sl) u=St.get st.sl u:=by simp [St.get,nH,e]
  rw [this]
  exact hx
theorem kV.af9 {C:Cx} {a:Act} {w:World} {d:Nat} (h:kV C st a w) (hd:d < C.nt) {x:AV} {v:Value} (hx:∀ S μ,(∀ ν,dG C st.gK a w S μ ν)→∀ ν,Rel w S μ ν x v):kV C ⟨(d,x) :: aY [d] st.sl,st.lb⟩ (a.put (some d) v) w:=by
 obtain ⟨S,μ,hs⟩:=h
 refine ⟨S,μ,fun ν=>?_⟩
 have:=(hs ν).put (dst:=some d) (x:=x) (v:=v) (fun t e=>by cases e; exact hd) (hx S μ hs ν)
 refine this.weaken (fun u y hy=>?_) (fun κ b hb=>⟨b,hb,fun _ h=>h⟩)
 simp only [St.gK,M.yE,M.put] at hy ⊢
 rw [Kx]
 by_cases e:u=d
 ·subst e; simpa using hy
 ·rw [if_neg (fun h=>e h.symm)]; simpa [e] using hy
theorem LI {o:Oper} (h:uI (ya++knL kn) #[o]=true) {a:Act} (v:Value) (h4:∀ u,u∈ya→a.tmps.getD u undef=X.yv) (h5:∀ s b,kn=some (s,b)→s < nt∧a.tmps.getD s undef=.bool b) :
  (∀ u,u∈ya→(a.put o.dst v).tmps.getD u undef=X.yv)∧∀ s b,kn=some (s,b)→s < nt∧(a.put o.dst v).tmps.getD s undef=.bool b :=
 ⟨fun u hu=>(G6 h (by simp [hu])).trans (h4 u hu),fun s b e=>⟨(h5 s b e).1,(G6 h (by simp [knL,e])).trans (h5 s b e).2⟩⟩
theorem uX {P:Program} {Q:Exit→Act→World→Prop} {i:Nat} {o:Oper} {a:Act} {w:World} (ho:ops[i]? = some o) (hw:Region.wanted o (yielded ops a.tmps)=true) (h:o.wpIn Fence.wide 0 P a w (wpOpsIn Fence.wide 0 P ops Q l) Q):wpOpsIn Fence.wide 0 P ops Q (i :: l) a w:=by
 simp only [wpOpsIn,ho,hw,if_true]
 exact h
theorem YW.op {T:List (Nat × TI)} (hT:pj P T) (hm:P.follows .mixedOrders=true) {i:Nat} {o:Oper} {ob:Ob} (ho:ops[i]? = some o) (hw:Fx ops kn o=some true) (hd:m9 #[o]=true) (hya:uI (ya++knL kn) #[o]=true)
  (hr:ru P T nt #[{ o with guard:=none }] false none st []=some (st',ob)) (cD:ob.den) (h:YW X k ops H ya kn l st'):YW X k ops H ya kn (i :: l) st:=by
 intro C h1 h2 h3 a w h4 h5 h6
 have kM:a.tmps.size=nt:=by obtain ⟨S,μ,hs⟩:=h6; exact (hs fun _=>false).tmps.trans h2
 refine uX ho (yT hw fun s b e=>⟨kM ▸ (h5 s b e).1,(h5 s b e).2⟩) ?_
 have hw:=Eh (C:=C) (T:=T) (by rw [h1]; exact hT) (by rw [h1]; exact hm) (by rw [h1,h2]; exact hr) cD h6
 rcases hw with ⟨-,hw⟩ | ⟨e,-⟩
 ·rw [h1] at hw
  have hw:=vt (K:=fun t=>(∀ u,u∈ya→t.getD u undef=X.yv)∧∀ s b,kn=some (s,b)→s < nt∧t.getD s undef=.bool b) (fun j o' a v Xs hk=>by
   have e:o' = { o with guard:=none }:=by
    match j,Xs with
    | 0,Xs=>simpa using Xs.symm
    | j+1,Xs=>simp at Xs
   subst e
   exact LI (o:=o) hya v hk.1 hk.2) (fun e a w h=>h.1) _ a w ⟨h4,h5⟩ hw
  have e1:List.range (#[{ o with guard:=none }]:Array Oper).size=[0]:=rfl
  rw [e1] at hw
  simp only [wpOps,Region.wanted] at hw
  rcases hw with hw | ⟨_,_,_,q⟩
  ·exact P5 (o':={ o with guard:=none }) rfl rfl rfl (vN (ops:=#[o]) hd (i:=0) rfl) (fun a' w' hh=>h C h1 h2 h3 a' w' hh.2.1 hh.2.2 hh.1.2) (fun e a w h=>h.1.1) hw
  ·cases q.1.1
 ·cases e
theorem YW.skip {i d:Nat} {o:Oper} (ho:ops[i]? = some o) (hw:Fx ops kn o=some false) (hd:o.dst=some d) (hdn:d < nt) (hya:uI (ya++knL kn) #[o]=true) (h:YW X k ops H ya kn l ⟨aY [d] st.sl,st.lb⟩):YW X k ops H ya kn (i :: l) st:=by
 intro C h1 h2 h3 a w h4 h5 h6
 have kM:a.tmps.size=nt:=by obtain ⟨S,μ,hs⟩:=h6; exact (hs fun _=>false).tmps.trans h2
 have hw:=yT hw (a:=a) fun s b e=>⟨kM ▸ (h5 s b e).1,(h5 s b e).2⟩
 obtain ⟨q1,q2⟩:=LI hya undef h4 h5
 simp only [wpOpsIn,ho,hw]
 exact ⟨fun _ _=>trivial,h C h1 h2 h3 _ w q1 q2 (by rw [hd]; exact h6.drop (by rw [h2]; exact hdn) _)⟩
theorem YW.value {i d:Nat} {o:Oper} {x:AV} (ho:ops[i]? = some o) (hw:Fx ops kn o=some true) (hd:o.dst=some d) (hdn:d < nt) (hdf:m9 #[o]=true) (hya:uI (ya++knL kn) #[o]=true)
  (hx:∀ (a:Act) (w:World),(∀ u,u∈ya→a.tmps.getD u undef=X.yv)→(∀ s b,kn=some (s,b)→s < nt∧a.tmps.getD s undef=.bool b)→∃ v,(execOp a.eval o).run P w=.ok (.value v) w∧∀ C S μ,C.P=P→(∀ ν,dG C st.gK a w S μ ν)→∀ ν,Rel w S μ ν x v)
  (h:YW X k ops H ya kn l ⟨(d,x) :: aY [d] st.sl,st.lb⟩):YW X k ops H ya kn (i :: l) st:=by
 intro C h1 h2 h3 a w h4 h5 h6
 have kM:a.tmps.size=nt:=by obtain ⟨S,μ,hs⟩:=h6; exact (hs fun _=>false).tmps.trans h2
 refine uX ho (yT hw fun s b e=>⟨kM ▸ (h5 s b e).1,(h5 s b e).2⟩) ⟨fun _ _=>trivial,?_⟩
 obtain ⟨v,q1,q2⟩:=hx a w h4 h5
 obtain ⟨q3,q4⟩:=LI hya v h4 h5
 rw [Oper.semAt_eq _ _ _ (vN (ops:=#[o]) (o:=o) hdf (i:=0) rfl),q1]
 simp only [Oper.uponIn]
 exact h C h1 h2 h3 _ w q3 q4 (by rw [hd]; exact h6.af9 (by rw [h2]; exact hdn) (fun S μ hs=>q2 C S μ h1 hs))
theorem YW.mv {i d u:Nat} {o:Oper} (ho:ops[i]? = some o) (hw:Fx ops kn o=some true) (hd:o.dst=some d) (hdn:d < nt) (hya:uI (ya++knL kn) #[o]=true) (zM:o.op=.move (.tmp u)) (hu:u∈ya) (h:YW X k ops H (d :: ya) kn l ⟨aY [d] st.sl,st.lb⟩):YW X k ops H ya kn (i :: l) st:=by
 intro C h1 h2 h3 a w h4 h5 h6
 have kM:a.tmps.size=nt:=by obtain ⟨S,μ,hs⟩:=h6; exact (hs fun _=>false).tmps.trans h2
 refine uX ho (yT hw fun s b e=>⟨kM ▸ (h5 s b e).1,(h5 s b e).2⟩) ⟨fun _ _=>trivial,?_⟩
 obtain ⟨q3,q4⟩:=LI hya X.yv h4 h5
 have hv:a.eval (.tmp u)=X.yv:=h4 u hu
 have he:(execOp a.eval o).run P w=.ok (.value X.yv) w:=by
  simp only [execOp,zM,hv]
  rfl
 rw [Oper.semAt_eq _ _ _ (fun c e=>by rw [zM] at e; cases e),he]
 simp only [Oper.uponIn]
 refine h C h1 h2 h3 _ w (fun u' hu'=>?_) q4 (by rw [hd]; exact h6.drop (by rw [h2]; exact hdn) _)
 rcases List.mem_cons.1 hu' with e | e
 ·subst e
  rw [hd]
  exact iW _ _ _ (by rw [kM]; exact hdn)
 ·exact q3 u' e
theorem YW.yl {i d u n:Nat} {o:Oper} {c:Call} {ts:List Nat} {y:List AV} (ho:ops[i]? = some o) (hw:Fx ops kn o=some true) (hd:o.dst=some d) (hdn:d < nt) (hya:uI (ya++knL kn) #[o]=true) (zM:o.op=.call c) (hc:c.callee=.value (.tmp u)) (hu:u∈ya)
  (hn:ys[n]? = some y) (ha:c.args.toList=ts.map .tmp) (hy:ts.map (St.get st.sl)=y) (hf:y.all gJ=true)
  (hon:YW X k ops (X.H (n+1)) ya kn l ⟨(d,.d (.v (.bool true))) :: aY [d] st.sl,st.lb⟩) (aer:YW X k ops X.acF ya kn l ⟨(d,.d (.v (.bool false))) :: aY [d] st.sl,st.lb⟩):YW X k ops (X.H n) ya kn (i :: l) st:=by
 intro C h1 h2 h3 a w h4 h5 h6
 have kM:a.tmps.size=nt:=by obtain ⟨S,μ,hs⟩:=h6; exact (hs fun _=>false).tmps.trans h2
 refine uX ho (yT hw fun s b e=>⟨kM ▸ (h5 s b e).1,(h5 s b e).2⟩) ⟨fun _ _=>trivial,?_⟩
 obtain ⟨S,μ,dy⟩:=h6
 obtain ⟨F,hF,hJ⟩:=h3
 have gH:n < ys.length:=(List.getElem?_eq_some_iff.1 hn).1
 have hyn:ys.getD n []=y:=by simp [List.getD,hn]
 have lq:(c.args.map a.eval).toList=ts.map fun t=>a.tmps.getD t undef:=by
  rw [Array.toList_map,ha,List.map_map]
  rfl
 have aga:∀ ν,eo w (fun _=>False) (fun _=>none) ν (ys.getD n []) (c.args.map a.eval).toList:=fun ν=>by
  rw [hyn,lq]
  subst hy
  refine ⟨by simp,fun j hj=>?_⟩
  have Ip:j < ts.length:=by simpa using hj
  have h1:=(dy ν).fa ts[j]
  have h2:gJ (St.get st.sl ts[j])=true:=by
   simp only [List.all_eq_true] at hf
   exact hf _ (List.mem_map.2 ⟨_,List.getElem_mem Ip,rfl⟩)
  have h3:=PM h2 (w':=w) (S':=fun _=>False) (μ':=fun _=>none) (ν':=ν) h1
  simpa [List.getD,Ip,St.gK] using h3
 have hv:a.eval (.tmp u)=X.yv:=h4 u hu
 obtain ⟨fn,tmps,Q3,body,q1,q2⟩:=X.yield dy hF hJ gH aga
 have he:(execOp a.eval o).run P w=(Instr.yield X.l (c.args.map a.eval)).run P w:=by
  simp only [execOp,zM,resolve,hc,hv,uW.yv,Deferred.ofValue]
  simp [invoke,go_sem]
 rw [Oper.semAt_eq _ _ _ (fun c e=>by rw [zM] at e; cases e),he,q1]
 refine ⟨fun h=>by simp [Fence.wide] at h,q2.mono ?_⟩
 rintro e W' ⟨C',c1,c2,c3,c4⟩
 have fin:∀ (b:Bool) (H':Cx→Prop),H' C'→YW X k ops H' ya kn l ⟨(d,.d (.v (.bool b))) :: aY [d] st.sl,st.lb⟩→wpOpsIn Fence.wide 0 P ops (fun e a' w'=>e=.normal∧∀ (b:Frame) (cs:List Frame),b.fn=fi→b.kind=.normal→b.roundOf=none→X.Fin cs (lone (b.atR a' k) cs w')) l (a.put o.dst (.bool b)) W':=by
  intro b H' hH hYW
  obtain ⟨q3,q4⟩:=LI hya (.bool b) h4 h5
  exact hYW C' (c1.trans h1) (c2.trans h2) hH _ W' q3 q4 (by rw [hd]; exact kV.af9 ⟨S,μ,c3⟩ (by rw [c2,h2]; exact hdn) (fun S μ _ ν=>iI rfl))
 rcases c4 with ⟨rfl,hH⟩ | ⟨rfl,hH⟩
 ·exact fin true _ hH hon
 ·exact fin false _ hH aer
def evC (P:Program) (T:List (Nat × TI)) (nt:Nat) (pre:Array Oper) (st:St) (kW:List CX) (kU:Option Prop) (J:St):CT :=
 match ru P T nt pre false none st kW with
 | some (st',ob)=>.two ob.eqs (.two (.po ob.prop kU) (N5 st' J))
 | none=>.bad
theorem aa1 {P:Program} {T:List (Nat × TI)} {nt:Nat} {pre:Array Oper} {kW:List CX} {kU:Option Prop} {J:St} (h:(evC P T nt pre st kW kU J).ok) (hc:∀ p,kU=some p→p):∃ st' ob,ru P T nt pre false none st kW=some (st',ob)∧ob.den∧N2 st' J:=by
 unfold evC at h
 split at h
 ·rename_i st' ob hr
  obtain ⟨h1,h2,h3⟩:=h
  have h2:ob.prop=kU:=h2
  exact ⟨st',ob,hr,Ob.G0 h1 (fun p hp=>hc p (h2 ▸ hp)),xi h3⟩
 ·exact h.elim
def preB (ya:List Nat) (pre:Array Oper):Bool:=(pre.toList.all fun o=>match o.guard with | some (j,_)=>Nat.blt j pre.size | none=>true)&&m9 pre&&uI ya pre
theorem YW.ahX {T:List (Nat × TI)} (hT:pj P T) (hm:P.follows .mixedOrders=true) {α:Type} (cl:bH α) (j:Nat) (J:α→St) (hb:preB ya ((ops.toList.take j).toArray)=true) (hj:j≤ops.size)
  (h:∀ x,evC P T nt ((ops.toList.take j).toArray) st (cl.kW x) (cl.kU x) (J x)=(evC P T nt ((ops.toList.take j).toArray) st (cl.kW x) (cl.kU x) (J x)).diag) (hp:cl.pre) (hk:YW X k ops H ya none (List.range' j (ops.size - j)) (J cl.v)):YW X k ops H ya none (List.range ops.size) st:=by
 obtain ⟨st',ob,hr,cD,hle⟩:=aa1 (CT.BM (h cl.v)) (fun p e=>cl.pf hp p e)
 simp only [preB,Bool.and_eq_true] at hb
 have kM:((ops.toList.take j).toArray).size=j:=by simp; omega
 have:=YW.pre (ops:=ops) (H:=H) (k:=k) (l:=List.range' j (ops.size - j)) hT hm (pre:=(ops.toList.take j).toArray) (fun i hi=>by
  rw [kM] at hi
  simp [List.getElem?_take,hi]) hb.1.1 hb.1.2 hb.2 hr cD (hk.le hle)
 rw [kM] at this
 have e:List.range ops.size=List.range j++List.range' j (ops.size - j):=by
  rw [List.range_eq_range',List.range_eq_range']
  have:=List.range'_append (s:=0) (m:=j) (n:=ops.size - j) (step:=1)
  simp only [Nat.zero_add,Nat.one_mul] at this
  rw [this]
  congr 1
  omega
 rw [e]
 exact this
theorem YW.ahY {s:Nat} {b:Bool} (hs:St.get st.sl s=.d (.v (.bool b))) (gH:s < nt) (h:YW X k ops H ya (some (s,b)) l st):YW X k ops H ya none l st:=by
 intro C h1 h2 h3 a w h4 h5 h6
 refine h C h1 h2 h3 a w h4 (fun s' b' e=>?_) h6
 simp only [Option.some.injEq,Prod.mk.injEq] at e
 obtain ⟨rfl,rfl⟩:=e
 obtain ⟨S,μ,dy⟩:=h6
 have:=(dy fun _=>false).fa s
 simp only [St.gK,hs] at this
 exact ⟨gH,pD this⟩
def tlB (ops:Array Oper) (nt i:Nat) (ya:List Nat) (kn:Option (Nat × Bool)) (want:Bool):Bool :=
 match ops[i]? with
 | some o=>(match Fx ops kn o,o.dst with | some b,some d=>(b == want)&&Nat.ble (d+1) nt | _,_=>false)&&uI (ya++knL kn) #[o]&&m9 #[o]
 | none=>false
theorem LJ {nt i:Nat} {want:Bool} (h:tlB ops nt i ya kn want=true):∃ o d,ops[i]? = some o∧Fx ops kn o=some want∧o.dst=some d∧d < nt∧uI (ya++knL kn) #[o]=true∧m9 #[o]=true:=by
 unfold tlB at h
 split at h
 ·rename_i o ho
  simp only [Bool.and_eq_true] at h
  obtain ⟨⟨h1,h2⟩,h3⟩:=h
  split at h1
  ·rename_i b d hb hd
   simp only [Bool.and_eq_true,beq_iff_eq] at h1
   obtain ⟨rfl,h1⟩:=h1
   exact ⟨o,d,ho,hb,hd,Nat.le_of_ble_eq_true h1,h2,h3⟩
  ·cases h1
 ·cases h
theorem YW.opC {T:List (Nat × TI)} (hT:pj P T) (hm:P.follows .mixedOrders=true) {i:Nat} {o:Oper} (J:St) (ho:ops[i]? = some o) (hb:tlB ops nt i ya kn true=true)
  (h:evC P T nt #[{ o with guard:=none }] st [] none J=(evC P T nt #[{ o with guard:=none }] st [] none J).diag) (hk:YW X k ops H ya kn l J):YW X k ops H ya kn (i :: l) st:=by
 obtain ⟨o',d,q1,q2,q3,q4,q5,q6⟩:=LJ hb
 rw [ho] at q1
 cases q1
 obtain ⟨st',ob,hr,cD,hle⟩:=aa1 (CT.BM h) (fun p e=>by cases e)
 exact YW.op hT hm ho q2 q6 q5 hr cD (hk.le hle)
theorem YW.T5 {i d:Nat} {o:Oper} (ho:ops[i]? = some o) (hd:o.dst=some d) (hb:tlB ops nt i ya kn false=true) (hk:YW X k ops H ya kn l ⟨aY [d] st.sl,st.lb⟩):YW X k ops H ya kn (i :: l) st:=by
 obtain ⟨o',d',q1,q2,q3,q4,q5,q6⟩:=LJ hb
 rw [ho] at q1
 cases q1
 rw [hd] at q3
 cases q3
 exact YW.skip ho q2 hd q4 q5 hk
theorem YW.mvC {i d u:Nat} {o:Oper} (ho:ops[i]? = some o) (hd:o.dst=some d) (zM:o.op=.move (.tmp u)) (hu:u∈ya) (hb:tlB ops nt i ya kn true=true) (hk:YW X k ops H (d :: ya) kn l ⟨aY [d] st.sl,st.lb⟩):YW X k ops H ya kn (i :: l) st:=by
 obtain ⟨o',d',q1,q2,q3,q4,q5,q6⟩:=LJ hb
 rw [ho] at q1
 cases q1
 rw [hd] at q3
 cases q3
 exact YW.mv ho q2 hd q4 q5 zM hu hk
def adx (sl:List (Nat × AV)):Operand→AV
 | .tmp t=>St.get sl t
 | .const v=>.d (.v v)
 | _=>.any
theorem YW.aa2 {i d s:Nat} {b:Bool} {o:Oper} {x y:Operand} (e:Bool) (ho:ops[i]? = some o) (hd:o.dst=some d) (zM:o.op=.pick (.tmp s) x y) (hb:tlB ops nt i ya (some (s,b)) true=true) (he:adx st.sl (bif b then x else y)=.d (.v (.bool e)))
  (hk:YW X k ops H ya (some (s,b)) l ⟨(d,.d (.v (.bool e))) :: aY [d] st.sl,st.lb⟩):YW X k ops H ya (some (s,b)) (i :: l) st:=by
 obtain ⟨o',d',q1,q2,q3,q4,q5,q6⟩:=LJ hb
 rw [ho] at q1
 cases q1
 rw [hd] at q3
 cases q3
 refine YW.value ho q2 hd q4 q6 q5 (fun a w h4 h5=>?_) hk
 obtain ⟨hs,hv⟩:=h5 s b rfl
 have hv:a.eval (.tmp s)=.bool b:=hv
 refine ⟨a.eval (bif b then x else y),?_,fun C S μ hC dy ν=>?_⟩
 ·simp only [execOp,zM,hv]
  cases b <;> simp [asBool,go_sem]
 ·generalize (bif b then x else y)=z at he
  rw [← he]
  cases z with
  | tmp t=>exact (dy ν).fa t
  | const v =>
   simp only [adx] at he ⊢
   cases he
   exact iI rfl
  | _=>exact .any _
theorem YW.ylC {i d u n:Nat} {o:Oper} {c:Call} {ts:List Nat} {y:List AV} (ho:ops[i]? = some o) (hd:o.dst=some d) (zM:o.op=.call c) (hc:c.callee=.value (.tmp u)) (hu:u∈ya) (hb:tlB ops nt i ya kn true=true)
  (hn:ys[n]? = some y) (ha:c.args.toList=ts.map .tmp) (hy:ts.map (St.get st.sl)=y) (hf:y.all gJ=true)
  (hon:YW X k ops (X.H (n+1)) ya kn l ⟨(d,.d (.v (.bool true))) :: aY [d] st.sl,st.lb⟩) (aer:YW X k ops X.acF ya kn l ⟨(d,.d (.v (.bool false))) :: aY [d] st.sl,st.lb⟩):YW X k ops (X.H n) ya kn (i :: l) st:=by
 obtain ⟨o',d',q1,q2,q3,q4,q5,q6⟩:=LJ hb
 rw [ho] at q1
 cases q1
 rw [hd] at q3
 cases q3
 exact YW.yl ho q2 hd q4 q5 zM hc hu hn ha hy hf hon aer
theorem G.yr {T:List (Nat × TI)} {fn:Func} {id:Nat} (h:YW X k ops H [0] none (List.range ops.size) st):G (X.g T fn H) (.code (.region id ops false) :: k) st:=by
 intro C h1 h2 a w hk hs b cs e1 e2 e3 h3
 have hr:b.roundOf=none:=e3.2 (by show (2:Nat)≠1; decide)
 have hw:(Code.region id ops false).wpIn Fence.wide 0 P _ a w:=wpIn_region (h C h1 h2 h3 a w (fun u hu=>by
  have:u=0:=by simpa using hu
  subst this
  exact hk 0 (by simp [uW.g])) (fun s b e=>by cases e) hs)
 obtain ⟨e,a',w',⟨q1,q2⟩,aaA⟩:=hw b k cs hr trivial (room_wide _)
 subst q1
 exact .steps (StepsIn.steps aaA) (q2 b cs e1 e2 hr)
theorem uW.X0 {T:List (Nat × TI)} {fn:Func} (hf:P.funcs[fi]? = some fn) (hrs:fn.results = #[]) {C:Cx} {F:Nat→Prop} (h1:C.P=P) {a:Act} {w:World} (hs:kV C st a w) (hF:X.Rt F C) (hJ:X.J ys.length F w∨X.Jx F w)
  {todo:List Item} (lW:∀ (b:Frame) (cs:List Frame),b.roundOf=none→Steps P (lone (b.atR a todo) cs w) (lone { b.atR a todo with mode:=.returning } cs w)) (b:Frame) (cs:List Frame) (XJ:b.fn=fi) (GH:b.kind=.normal) (ZX:b.roundOf=none):X.Fin cs (lone (b.atR a todo) cs w):=by
 obtain ⟨S,μ,dy⟩:=hs
 have h0:=dy fun _=>false
 have hr:(results fn a.tmps).run P w=.ok (.tuple #[]) w:=by
  have:=xh (C:=C) (fn:=fn) (a:=a) (w:=w) (vs:=[]) (by rw [hrs]; simp)
  rw [h1] at this
  exact this
 refine ⟨.tuple #[],w,{ b.atR a todo with mode:=.returning },hJ.imp (fun h=>⟨F,h⟩) (fun h=>⟨F,h⟩),lW b cs ZX,XJ,rfl,h0.defers.trans hF.dl,GH,fn,?_,hr⟩
 show P.funcs[b.fn]? = _
 rw [XJ]; exact hf
theorem uW.ret {T:List (Nat × TI)} {fn:Func} (hf:P.funcs[fi]? = some fn) (hrs:fn.results = #[]) (hH:∀ C,H C→X.H ys.length C∨X.acF C):G (X.g T fn H) [] st∧∀ k,G (X.g T fn H) (.code .ret :: k) st:=by
 have key:∀ (C:Cx) (a:Act) (w:World),H C→kV C st a w→∃ F,X.Rt F C∧(X.J ys.length F w∨X.Jx F w):=by
  intro C a w hC hs
  obtain ⟨S,μ,dy⟩:=hs
  have h0:=dy fun _=>false
  rcases hH C hC with ⟨F,hF,hJ⟩ | ⟨F,hF,hJ⟩
  ·exact ⟨F,hF,.inl (X.jk _ _ _ _ hJ (hF.still h0))⟩
  ·exact ⟨F,hF,.inr (X.jxk _ _ _ hJ (hF.still h0))⟩
 exact ⟨fun C h1 h2 a w _ hs b cs e1 e2 e3 hC=>by
   obtain ⟨F,hF,hJ⟩:=key C a w hC hs
   exact uW.X0 (T:=T) hf hrs h1 hs hF hJ (fun b cs hb=>.one (stepR_end hb)) b cs e1 e2 (e3.2 (by show (2:Nat)≠1; decide)),
  fun k C h1 h2 a w _ hs b cs e1 e2 e3 hC=>by
   obtain ⟨F,hF,hJ⟩:=key C a w hC hs
   exact uW.X0 (T:=T) hf hrs h1 hs hF hJ (fun b cs hb=>.one (stepR_ret hb)) b cs e1 e2 (e3.2 (by show (2:Nat)≠1; decide))⟩
theorem Y6.intro {P:Program} {T:List (Nat × TI)} {f:FuncId} {fn:Func} {body:Code} {cY:List AV} {ys:List (List AV)} (hf:P.funcs[f]? = some fn) (hb:fn.body=some body) (hc:ga P f=true) (hn:cY.length+1≤fn.ntmps)
  (h:∀ X:uW P f fn.ntmps ys,G (X.g T fn (X.H 0)) [.code body] ⟨dJ 1 cY,[]⟩):Y6 P f cY ys:=by
 refine ⟨hc,fun w0 S μ CW l J Jx F0 hS YI YS hSF hF hJk ahZ Xx hJ cs=>?_⟩
 let X:uW P f fn.ntmps ys:=⟨l,w0,S,J,Jx,hJk,ahZ,Xx⟩
 let C:Cx:=⟨P,w0,S,fun _=>False,fn.ntmps,YI,fun b hb h=>h.elim,hS,[],fun d h=>(by cases h),List.nodup_nil⟩
 let b:Frame:={ (default:Frame) with fn:=f,kind:=.normal,roundOf:=none }
 let vs:Array Value:=#[.func (.yield l) #[] #[]]++CW
 have hl:CW.size=cY.length:=by have:=(YS fun _=>false).1; simpa using this
 have hvs:vs.size=cY.length+1:=by simp [vs,hl]; omega
 have Lp:Frame.enter P f vs .normal=b.atR { tmps:=vs++Array.replicate (fn.ntmps - vs.size) undef,defers:=[] } [.code body]:=by
  simp [Frame.enter,Frame.atR,hf,hb,b]
 have dy:kV C ⟨dJ 1 cY,[]⟩ { tmps:=vs++Array.replicate (fn.ntmps - vs.size) undef,defers:=[] } w0:=by
  refine ⟨S,μ,fun ν=>⟨by simp only [C,Array.size_append,Array.size_replicate]; omega,rfl,fun t=>?_,fun κ b h=>by simp [St.gK,look] at h,fun κ κ' b b' g c c' h=>by simp [St.gK,look] at h,fun κ bk q c h1 h2=>by simp [St.gK,look] at h1,fun _ hb=>hb,fun _ hb=>.inl hb,hS,Kept.refl _ _⟩⟩
  simp only [St.gK,St.get,s5]
  by_cases ht:1≤t∧t - 1 < cY.length
  ·rw [if_pos ht.1,List.getElem?_eq_getElem ht.2]
   have h2:=(YS ν).2 (t - 1) ht.2
   rw [show cY.getD (t - 1) default=cY[t - 1] from by simp [List.getD,ht.2]] at h2
   have e:(vs++Array.replicate (fn.ntmps - vs.size) undef).getD t undef=CW.toList.getD (t - 1) undef:=by
    rw [← cZ]
    simp only [Array.getD_eq_getD_getElem?]
    rw [Array.getElem?_append_left (by omega)]
    simp only [vs]
    rw [Array.getElem?_append_right (by simp; omega)]
    simp
   rw [e]
   exact h2
  ·by_cases h1:1≤t
   ·rw [if_pos h1,List.getElem?_eq_none (by omega)]
    exact .any _
   ·rw [if_neg h1]
    exact .any _
 obtain ⟨v,w',fr,q1,q2,q3,q4⟩:=h X C rfl rfl _ _ (fun u hu=>by
  have:u=0:=by simpa [uW.g] using hu
  subst this
  simp only [uW.g,uW.yv,Array.getD_eq_getD_getElem?]
  rw [Array.getElem?_append_left (by omega)]
  simp only [vs,X]
  rw [Array.getElem?_append_left (by simp)]) dy b cs rfl rfl ⟨fun _=>by show (2:Nat)≠1; decide,fun _=>rfl⟩
  ⟨F0,⟨rfl,Nat.le_refl _,fun _ h=>h,hSF,hF,fun b h=>h.elim⟩,hJ⟩
 exact ⟨.returned v,w',fr,⟨⟨v,rfl⟩,q1⟩,by show Steps _ _ _; rw [Lp]; exact q2,q3,q4⟩
theorem X1 {st st':St} (h:N5 st st'=(N5 st st').diag):N2 st st':=xi (CT.BM h)
def cA:Code→Code
 | .seq x _=>x
 | .cond _ x _=>x
 | .block _ x=>x
 | .loop x=>x
 | c=>c
def cB:Code→Code
 | .seq _ y=>y
 | .cond _ _ y=>y
 | c=>c
def opsOf:Code→Array Oper
 | .region _ ops _=>ops
 | _=>#[]
theorem uW.sk {T:List (Nat × TI)} {fn:Func} (hT:pj P T) (hm:P.follows .mixedOrders=true) (hf:P.funcs[fi]? = some fn) {α:Type} (todo:List Item) (sk:Sk α) (L:α→aaU) (n:Nat) (h:rk P T nt fn.results.toList 0 2 [0] n todo st L sk=(rk P T nt fn.results.toList 0 2 [0] n todo st L sk).diag) (ho:sk.bC fun _=>True)
  (hL:∀ a,a=sk.val→Wo (X.g T fn H) (L a)):G (X.g T fn H) todo st :=
 yP n (g:=X.g T fn H) hT hm hf (fun h=>(by cases h)) 0 todo st L sk (fun _=>True) (CT.BM h) ho (fun a e _=>hL a e)
theorem G.aa3 {g:Goal} {c:Code} (h:G g (.code c :: .inLoop c :: k) st):G g (.code (.loop c) :: k) st:=fun C h1 h2 a w hk hs=>(h C h1 h2 a w hk hs).step fun _ _=>.one stepR_loop
end
section
open Go Go.Sort
def jY (l:List Int):List Int:=l.mergeSort fun x y=>decide (x≤y)
variable {w : World} {S : Nat → Prop} {μ : Mu} {e g c : Nat} {L : List Int}
theorem P6 (h:eH w S μ (bw e 1 bI L) g c):Holds (Value.int .i64) w g 0 L.toArray∧∃ cur,w.heap[g]? = some (.cells cur e (0,0))∧L.length≤c∧c≤maxLen∧cur.size=c:=by
 obtain ⟨cur,hg,uH,E8,VW,SI,rq⟩:=h
 refine ⟨fun j hj=>?_,cur,hg,VW,SI,by omega⟩
 have Ip:j < L.length:=by simpa using hj
 refine ⟨?_,by simp [World.frozen?,hg]⟩
 obtain ⟨x,hx,hr⟩:=(rq j Ip).2 0 (by omega)
 have hx:cur[j]? = some x:=by simpa using hx
 have hr:Rd w S (.v (.int .i64 (L.getD j default))) x:=by simpa [bI,dI] using hr
 cases hr
 simp only [World.cell?,hg,Nat.zero_add]
 simp only [Option.isSome_none,Bool.false_eq_true,if_false,hx]
 simp [List.getD,Ip]
theorem X2 {k:Nat} {os:Array Obj} {d L':List Int} (h:eH w S μ (bw e 1 bI L) g c) (hd:d.length≤c) (hl:L'.length≤d.length) (he:∀ i,i < L'.length→d.getD i default=L'.getD i default) :
  eH (grow (putRow (Value.int .i64) (Sort.ahead w k) g 0 d.toArray) os) S μ (bw e 1 bI L') g c:=by
 obtain ⟨cur,hg,uH,E8,VW,SI,rq⟩:=h
 refine ⟨_,heap_sortedI d.toArray hg,uH,by simpa [putCells] using E8,by omega,SI,fun i hi=>⟨rfl,fun j hj=>?_⟩⟩
 have hj0:j=0:=by omega
 subst hj0
 have hid:i < d.length:=by omega
 have hic:i < cur.size:=by omega
 refine ⟨.int .i64 (L'.getD i default),?_,Rd.v _ rfl⟩
 have:=he i hi
 simp only [putCells,Nat.mul_one,Nat.add_zero,Nat.zero_le,Nat.zero_add,Nat.sub_zero,true_and,Array.getElem?_mapIdx,List.size_toArray,hid,if_true]
 rw [Array.getElem?_eq_getElem hic]
 simp only [Option.map_some,Option.some.injEq,Value.int.injEq,true_and]
 rw [← this]
 simp [List.getD,hid]
theorem IC {k:Nat} {os:Array Obj} {d:Array Int} {κ:Nat} (h:μ κ=some (some (g,c))):Kept w (grow (putRow (Value.int .i64) (Sort.ahead w k) g 0 d) os) (fun q=>∃ c,μ κ=some (some (q,c))):=by
 have hb:=grownBy_sortedI (w:=w) (g:=g) (n:=k) (os:=os) d
 exact ⟨hb.os,hb.tape,hb.output,hb.size,fun b gH pk=>hb.block b gH (fun e=>by cases e; exact pk ⟨c,h⟩)⟩
theorem aa4 {P:Program} {f:FuncId} (hc:ga P f=true)
  (h1:∀ (blk off cap:Nat) (zs:List Int) (w:World),Holds (Value.int .i64) w blk off zs.toArray→blk < w.heap.size→zs.length < 4611686018427387904 →
   Calls P f #[.slice (some ⟨blk,off,none⟩) zs.length cap] w fun e w'=>e=.returned (.tuple #[])∧∃ n os,w'=grow (putRow (Value.int .i64) (Sort.ahead w n) blk off (zs.mergeSort fun x y=>decide (x≤y)).toArray) os)
  (h0:∀ (p:Option Addr) (cap:Nat) (w:World),Calls P f #[.slice p 0 cap] w fun e w'=>e=.returned (.tuple #[])∧w'=w) (κ e:Nat) (L:List Int) (hL:L.length < 4611686018427387904) :
  FnS P f [ow κ L] κ (bw e 1 bI L) (bw e 1 bI (jY L)):=by
 refine ⟨hc,fun w S μ vs hS hg hr hb=>?_⟩
 obtain ⟨v,rfl⟩:∃ v,vs = #[v]:=by
  have:=(hr fun _=>false).1
  match vs,this with
  | ⟨[v]⟩,_=>exact ⟨v,rfl⟩
 have hv:Rel w S μ (fun _=>false) (.own κ L.length) v:=by simpa using (hr fun _=>false).2 0 (by simp)
 have VD:(jY L).length=L.length:=by simp [jY]
 generalize hn:L.length=n at hv
 cases hv with
 | dt hm =>
  refine (h0 _ _ w).mono ?_
  rintro e' w' ⟨rfl,rfl⟩
  refine ⟨⟨_,rfl⟩,?_,Kept.refl _ _⟩
  rw [hm]
  show (jY L).length=0
  omega
 | @own _ _ g cap hm =>
  rw [hm] at hb
  have VQ:eH w S μ (bw e 1 bI L) g cap:=hb
  obtain ⟨q1,cur,q2,q3,q4,q5⟩:=P6 VQ
  subst hn
  refine (h1 g 0 cap L w q1 (Array.getElem?_eq_some_iff.1 q2).1 hL).mono ?_
  rintro e' w' ⟨rfl,k,os,rfl⟩
  refine ⟨⟨_,rfl⟩,?_,IC hm⟩
  rw [hm]
  exact X2 (d:=jY L) (L':=jY L) VQ (by omega) (Nat.le_refl _) (fun _ _=>rfl)
theorem T6 {P:Program} {f:FuncId} (hc:ga P f=true) (L L':List Int) (hl:L'.length≤L.length)
  (h1:∀ (blk cap:Nat) (w:World),Holds (Value.int .i64) w blk 0 L.toArray→L.length≤9223372036854775807→L.length≤cap →
   Calls P f #[.slice (some ⟨blk,0,none⟩) L.length cap] w fun e w'=>e=.returned (.slice (some ⟨blk,0,none⟩) L'.length cap)∧∃ q,w'=putRow (Value.int .i64) (Sort.ahead w q) blk 0 (L'++List.replicate (L.length - L'.length) 0).toArray)
  (h0:∀ (p:Option Addr) (cap:Nat) (w:World),Calls P f #[.slice p 0 cap] w fun e w'=>e=.returned (.slice p 0 cap)∧w'=w) (κ κ' e:Nat) :
  gQ P f [ow κ L] [(κ,bw e 1 bI L)] (ow κ' L') [(κ',bw e 1 bI L')]:=by
 refine ⟨hc,fun w S μ vs hS hg hr hb hi=>?_⟩
 obtain ⟨v,rfl⟩:∃ v,vs = #[v]:=by
  have:=(hr fun _=>false).1
  match vs,this with
  | ⟨[v]⟩,_=>exact ⟨v,rfl⟩
 have hv:Rel w S μ (fun _=>false) (.own κ L.length) v:=by simpa using (hr fun _=>false).2 0 (by simp)
 have hb:=hb κ (bw e 1 bI L) (by simp [look])
 have lk:∀ k b,look [(κ',bw e 1 bI L')] k=some b→k=κ'∧b=bw e 1 bI L':=fun k b h=>by
  simp only [ca] at h
  split at h
  ·rename_i e'; exact ⟨e'.symm,by simpa using h.symm⟩
  ·cases h
 have inj:∀ μ':Mu,XA [(κ',bw e 1 bI L')] μ':=fun μ' k1 k2 b1 b2 g c c' h1 h2 _ _=>((lk _ _ h1).1).trans ((lk _ _ h2).1).symm
 generalize hn:L.length=n at hv
 cases hv with
 | @dt _ ad hm =>
  refine (h0 _ _ w).mono ?_
  rintro e' w' ⟨rfl,rfl⟩
  have hz:L'.length=0:=by omega
  refine ⟨_,S,fun k=>if k=κ' then some none else none,rfl,⟨fun ν=>?_,fun k b h=>?_,inj _,fun k b g c h Bq=>?_,fun _ h=>h,fun _ h=>.inl h,hS,Kept.refl _ _⟩⟩
  ·show Rel _ _ _ _ (.own κ' L'.length) _
   rw [hz]
   exact .dt (by simp)
  ·obtain ⟨rfl,rfl⟩:=lk k b h
   simp only [if_true]
   exact hz
  ·obtain ⟨rfl,rfl⟩:=lk k b h
   simp at Bq
 | @own _ _ g cap hm =>
  rw [hm] at hb
  have VQ:eH w S μ (bw e 1 bI L) g cap:=hb
  obtain ⟨q1,cur,q2,q3,q4,q5⟩:=P6 VQ
  subst hn
  have h4:=q4
  simp only [maxLen] at h4
  refine (h1 g cap w q1 (by omega) q3).mono ?_
  rintro e' w' ⟨rfl,k,rfl⟩
  have ady:∀ W:World,W=grow W #[]:=fun W=>by simp [grow]
  have ah0:eH (putRow (Value.int .i64) (Sort.ahead w k) g 0 (L'++List.replicate (L.length - L'.length) 0).toArray) S (fun k=>if k=κ' then some (some (g,cap)) else none) (bw e 1 bI L') g cap:=by
   rw [ady (putRow _ _ _ _ _)]
   exact X2 (d:=L'++List.replicate (L.length - L'.length) 0) (L':=L') VQ (by simp; omega) (by simp) (fun i hi=>by simp [List.getD,List.getElem?_append_left hi])
  have hk:Kept w (putRow (Value.int .i64) (Sort.ahead w k) g 0 (L'++List.replicate (L.length - L'.length) 0).toArray) (Handed [(κ,bw e 1 bI L)] μ):=by
   rw [ady (putRow _ _ _ _ _)]
   exact (IC hm).Bs (fun q ⟨c,hq⟩=>⟨κ,bw e 1 bI L,c,by simp [look],hq⟩)
  refine ⟨_,S,fun k=>if k=κ' then some (some (g,cap)) else none,rfl,⟨fun ν=>.own (by simp),fun k b h=>?_,inj _,fun k b g' c h Bq=>?_,fun _ h=>h,fun _ h=>.inl h,fun b pk=>Nat.lt_of_lt_of_le (hS b pk) hk.size,hk⟩⟩
  ·obtain ⟨rfl,rfl⟩:=lk k b h
   simp only [if_true]
   exact ah0
  ·obtain ⟨rfl,rfl⟩:=lk k b h
   simp only [if_true,Option.some.injEq,Prod.mk.injEq] at Bq
   obtain ⟨rfl,rfl⟩:=Bq
   exact .inr ⟨κ,bw e 1 bI L,cap,by simp [look],hm⟩
end
end Go.Av
