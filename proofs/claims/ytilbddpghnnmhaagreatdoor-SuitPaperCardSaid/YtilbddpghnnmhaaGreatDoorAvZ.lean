/- Sketches: what a piece of code computes, told once; the check that the code does so, by computation. -/
import Derived.Test.YtilbddpghnnmhaaGreatDoorAvV
import Derived.Test.YtilbddpghnnmhaaGreatDoorAvUd
import Derived.Maps.RangeRun
set_option linter.unusedSimpArgs false
set_option linter.unusedVariables false
namespace Go.Av
open Go
set_option linter.unusedSectionVars false
variable [qz]
inductive CT:Type 1 where
 | nil
 | bad
 | bb (a b:Bool)
 | nn (a b:Nat)
 | zz (a b:Int)
 | dd (a b:D)
 | ll (a b:List D)
 | vv (a b:AV)
 | ff (f g:Nat→List D)
 | mm (f g:Nat→Value × D)
 | ss (a b:List Nat)
 | po (a b:Option Prop)
 | td (a b:List Item)
 | two (a b:CT)
 | pi {β:Type} (f:β→CT)
def CT.ok:CT→Prop
 | .nil=>True
 | .bad=>False
 | .bb a b=>a=b
 | .nn a b=>a=b
 | .zz a b=>a=b
 | .dd a b=>a=b
 | .ll a b=>a=b
 | .vv a b=>a=b
 | .ff f g=>f=g
 | .mm f g=>f=g
 | .ss a b=>a=b
 | .po a b=>a=b
 | .td a b=>a=b
 | .two a b=>a.ok∧b.ok
 | .pi f=>∀ b,(f b).ok
def CT.diag:CT→CT
 | .nil=>.nil
 | .bad=>.nil
 | .bb _ b=>.bb b b
 | .nn _ b=>.nn b b
 | .zz _ b=>.zz b b
 | .dd _ b=>.dd b b
 | .ll _ b=>.ll b b
 | .vv _ b=>.vv b b
 | .ff _ g=>.ff g g
 | .mm _ g=>.mm g g
 | .ss _ b=>.ss b b
 | .po _ b=>.po b b
 | .td _ b=>.td b b
 | .two a b=>.two a.diag b.diag
 | .pi f=>.pi fun b=>(f b).diag
theorem CT.ok_of:∀ {t:CT},t=t.diag→t.ok
 | .nil,_=>trivial
 | .bad,h=>by cases h
 | .bb a b,h=>by simpa [CT.diag,CT.ok] using h
 | .nn a b,h=>by simpa [CT.diag,CT.ok] using h
 | .zz a b,h=>by simpa [CT.diag,CT.ok] using h
 | .dd a b,h=>by simpa [CT.diag,CT.ok] using h
 | .ll a b,h=>by simpa [CT.diag,CT.ok] using h
 | .vv a b,h=>by simpa [CT.diag,CT.ok] using h
 | .ff a b,h=>by simpa [CT.diag,CT.ok] using h
 | .mm a b,h=>by simpa [CT.diag,CT.ok] using h
 | .ss a b,h=>by simpa [CT.diag,CT.ok] using h
 | .po a b,h=>by simp only [CT.diag,CT.po.injEq] at h; exact h.1
 | .td a b,h=>by simpa [CT.diag,CT.ok] using h
 | .two a b,h=>by
  simp only [CT.diag,CT.two.injEq] at h
  exact ⟨CT.ok_of h.1,CT.ok_of h.2⟩
 | .pi f,h=>by
  simp only [CT.diag] at h
  have h1:f=fun b=>(f b).diag:=by injection h
  exact fun b=>CT.ok_of (congrFun h1 b)
def Ob.eqs:Ob→CT
 | .tt=>.nil
 | .pr _=>.nil
 | .be a b=>.bb a b
 | .ne a b=>.nn a b
 | .ze a b=>.zz a b
 | .fe f g=>.ff f g
 | .me f g=>.mm f g
 | .ve a b=>.vv a b
 | .two a b=>.two a.eqs b.eqs
 | .wh _ _ a=>a.eqs
def zcj:Option Prop→Option Prop→Option Prop
 | none,x=>x
 | x,none=>x
 | some p,some q=>some (p∧q)
def Ob.prop:Ob→Option Prop
 | .pr p=>some p
 | .two a b=>zcj a.prop b.prop
 | .wh e w a=>(match a.prop with | none=>none | some p=>some (e=w→p))
 | _=>none
theorem zot {x y:Option Prop} (h:∀ p,zcj x y=some p→p):(∀ p,x=some p→p)∧∀ p,y=some p→p:=by
 cases x with
 | none=>exact ⟨fun p hp=>(by cases hp),fun p hp=>h p (by simpa [zcj] using hp)⟩
 | some a =>
  cases y with
  | none=>exact ⟨fun p hp=>h p (by simpa [zcj] using hp),fun p hp=>(by cases hp)⟩
  | some b =>
   have:=h (a∧b) rfl
   exact ⟨fun p hp=>(by cases hp; exact this.1),fun p hp=>(by cases hp; exact this.2)⟩
theorem Ob.den_of:∀ {ob:Ob},ob.eqs.ok→(∀ p,ob.prop=some p→p)→ob.den
 | .tt,_,_=>trivial
 | .pr p,_,h=>h p rfl
 | .be _ _,h,_=>h
 | .ne _ _,h,_=>h
 | .ze _ _,h,_=>h
 | .fe _ _,h,_=>h
 | .me _ _,h,_=>h
 | .ve _ _,h,_=>h
 | .two a b,h,hp=>⟨Ob.den_of h.1 (zot hp).1,Ob.den_of h.2 (zot hp).2⟩
 | .wh e w a,h,hp=>fun he=>Ob.den_of h (fun p hq=>hp (e=w→p) (by simp [Ob.prop,hq]) he)
def Bz (ob:Ob):CT:=match ob.prop with | none=>ob.eqs | some _=>.bad
theorem Ug {ob:Ob} (h:(Bz ob).ok):ob.den:=by
 unfold Bz at h
 split at h
 ·rename_i hn
  exact Ob.den_of h (fun p hp=>by rw [hn] at hp; cases hp)
 ·exact h.elim
def cEq:D→D→CT
 | .v (.slice none 0 0),.sl n _=>.nn n 0
 | x,y=>.dd x y
def zn8:List D→List D→CT
 | [],[]=>.nil
 | c :: cs,d :: ds=>.two (cEq c d) (zn8 cs ds)
 | _,_=>.bad
def dEq:D→D→CT
 | .agg cs,.agg ds=>zn8 cs ds
 | x,y=>cEq x y
theorem zqn {x y:D} (h:(cEq x y).ok):DLe x y:=by
 unfold cEq at h
 split at h
 ·have h:_=0:=h
  subst h
  exact DLe.nil _
 ·exact DLe.of_eq h
theorem za2:∀ {cs ds:List D},(zn8 cs ds).ok→cs.length=ds.length∧∀ i,i < cs.length→DLe (cs.getD i default) (ds.getD i default)
 | [],[],_=>⟨rfl,fun i hi=>absurd hi (by simp)⟩
 | c :: cs,d :: ds,h=>by
  obtain ⟨h1,h2⟩:=za2 h.2
  refine ⟨by simp [h1],fun i hi=>?_⟩
  cases i with
  | zero=>simpa using zqn h.1
  | succ i=>simpa using h2 i (by simpa using hi)
 | [],_ :: _,h=>h.elim
 | _ :: _,[],h=>h.elim
theorem zr9 {x y:D} (h:(dEq x y).ok):DLe x y:=by
 unfold dEq at h
 split at h
 ·exact DLe.agg (za2 h).1 (za2 h).2
 ·exact zqn h
mutual
def znK (ρ:Ren):AV→AV→CT
 | _,.any=>.nil
 | .d x,.d y=>dEq x y
 | .own κ n,.own κ' n'=>.two (.bb (ZO ρ κ' κ) true) (.nn n n')
 | .d (.v (.slice none 0 0)),.own κ' n'=>.two (.bb (zlt ρ κ') true) (.nn n' 0)
 | .ptr κ o,.ptr κ' o'=>.bb (ZO ρ κ' κ&&Nat.beq o o') true
 | .ref cs,.ref cs'=>.ll cs cs'
 | .fn f l,.fn f' l'=>.two (.bb (Nat.beq f f') true) (zac ρ l l')
 | .tup l,.tup l'=>zac ρ l l'
 | .ag l,.ag l'=>zac ρ l l'
 | .mpv κ,.mpv κ'=>.bb (ZO ρ κ' κ) true
 | .pmp n f,.pmp n' f'=>.two (.nn n n') (.mm f f')
 | .nns n f,.nns n' f'=>.two (.nn n n') (.ff f f')
 | .nns n f,.d (.sl n' f')=>.two (.nn n n') (.ff f f')
 | .elt κ k i o,.elt κ' k' i' o'=>.two (.bb (ZO ρ κ' κ&&Nat.beq k k'&&Nat.beq o o') true) (.nn i i')
 | _,_=>.bad
def zac (ρ:Ren):List AV→List AV→CT
 | [],[]=>.nil
 | x :: r,y :: s=>.two (znK ρ x y) (zac ρ r s)
 | _,_=>.bad
end
def zsk (ρ:Ren):Blk→Blk→CT
 | .box cs,.box cs'=>zac ρ cs cs'
 | .row e k n f,.row e' k' n' f'=>.two (.bb (Nat.beq e e'&&Nat.beq k k') true) (.two (.nn n n') (.ff f f'))
 | .mp n f,.mp n' f'=>.two (.nn n n') (.mm f f')
 | .it mk n s,.it mk' n' s'=>.two (.bb (ZO ρ mk' mk) true) (.two (.nn n n') (.ss s s'))
 | .mx,.mx=>.nil
 | _,_=>.bad
def zrm (ρ:Ren) (sl:List (Nat × AV)):List (Nat × AV)→CT
 | []=>.nil
 | (t,x) :: r=>.two (znK ρ (St.get sl t) x) (zrm ρ sl r)
def znA (ρ:Ren) (lb:List (Nat × Blk)):List (Nat × Blk)→CT
 | []=>.nil
 | (κ,b) :: r=>(match look ρ κ with
  | some (some o)=>(match look lb o with | some c=>.two (zsk ρ c b) (znA ρ lb r) | none=>.bad)
  | some none=>(match b with | .row _ _ n _=>.two (.nn n 0) (znA ρ lb r) | _=>.bad)
  | none=>.bad)
mutual
theorem zah {ρ:Ren}:∀ (x y:AV),(znK ρ x y).ok→∃ p,ZL ρ x y=some p∧p
 | x,y,h=>by
  unfold znK at h
  split at h
  ·exact ⟨True,by unfold ZL; rfl,trivial⟩
  ·exact ⟨_,by unfold ZL; rfl,zr9 h⟩
  ·obtain ⟨h1,h2⟩:=h
   have h1:ZO ρ _ _=true:=h1
   exact ⟨_,by unfold ZL; rw [h1]; rfl,h2⟩
  ·obtain ⟨h1,h2⟩:=h
   have h1:zlt ρ _=true:=h1
   exact ⟨_=0,by simp [ZL,h1],h2⟩
  ·have h:(ZO ρ _ _&&Nat.beq _ _)=true:=h
   exact ⟨True,by unfold ZL; rw [h]; rfl,trivial⟩
  ·exact ⟨_,by unfold ZL; rfl,h⟩
  ·rename_i f l f' l'
   obtain ⟨h1,h2⟩:=h
   have h1:Nat.beq f f'=true:=h1
   obtain ⟨p,hp,hq⟩:=XU l l' h2
   exact ⟨p,by unfold ZL; rw [h1]; exact hp,hq⟩
  ·rename_i l l'
   obtain ⟨p,hp,hq⟩:=XU l l' h
   exact ⟨p,by unfold ZL; exact hp,hq⟩
  ·rename_i l l'
   obtain ⟨p,hp,hq⟩:=XU l l' h
   exact ⟨p,by unfold ZL; exact hp,hq⟩
  ·have h:ZO ρ _ _=true:=h
   exact ⟨True,by unfold ZL; rw [h]; rfl,trivial⟩
  ·rename_i n f n' f'
   exact ⟨n=n'∧f=f',by unfold ZL; rfl,h.1,h.2⟩
  ·rename_i n f n' f'
   exact ⟨n=n'∧f=f',by unfold ZL; rfl,h.1,h.2⟩
  ·rename_i n f n' f'
   exact ⟨n=n'∧f=f',by unfold ZL; rfl,h.1,h.2⟩
  ·rename_i κ k i o κ' k' i' o'
   obtain ⟨h1,h2⟩:=h
   have h1:(ZO ρ κ' κ&&Nat.beq k k'&&Nat.beq o o')=true:=h1
   exact ⟨i=i',by unfold ZL; rw [h1]; rfl,h2⟩
  ·exact h.elim
theorem XU {ρ:Ren}:∀ (x y:List AV),(zac ρ x y).ok→∃ p,Gv ρ x y=some p∧p
 | [],[],_=>⟨True,by unfold Gv; rfl,trivial⟩
 | x :: r,y :: s,h=>by
  unfold zac at h
  obtain ⟨p,h1,h2⟩:=zah x y h.1
  obtain ⟨q,h3,h4⟩:=XU r s h.2
  exact ⟨p∧q,by unfold Gv; rw [h1,h3],h2,h4⟩
 | [],_ :: _,h=>by unfold zac at h; exact h.elim
 | _ :: _,[],h=>by unfold zac at h; exact h.elim
end
theorem zq7 {ρ:Ren} {b c:Blk} (h:(zsk ρ b c).ok):∃ p,JC ρ b c=some p∧p:=by
 unfold zsk at h
 split at h
 ·rename_i cs cs'
  obtain ⟨p,h1,h2⟩:=XU cs cs' h
  exact ⟨p,h1,h2⟩
 ·rename_i e k n f e' k' n' f'
  obtain ⟨h1,h2,h3⟩:=h
  have h1:(Nat.beq e e'&&Nat.beq k k')=true:=h1
  have h3:f=f':=h3
  exact ⟨n=n'∧∀ i,i < n→f i=f' i,by unfold JC; dsimp only; rw [h1]; rfl,h2,fun i _=>by rw [h3]⟩
 ·rename_i n f n' f'
  exact ⟨n=n'∧f=f',rfl,h.1,h.2⟩
 ·rename_i mk n s mk' n' s'
  obtain ⟨h1,h2,h3⟩:=h
  have h1:ZO ρ mk' mk=true:=h1
  exact ⟨n=n'∧s=s',by unfold JC; dsimp only; rw [h1]; rfl,h2,h3⟩
 ·exact ⟨True,rfl,trivial⟩
 ·exact h.elim
theorem zle {ρ:Ren} {sl:List (Nat × AV)}:∀ {l:List (Nat × AV)},(zrm ρ sl l).ok→∃ p,zgE ρ sl l=some p∧p
 | [],_=>⟨True,rfl,trivial⟩
 | (t,x) :: r,h=>by
  obtain ⟨p,h1,h2⟩:=zah _ _ h.1
  obtain ⟨q,h3,h4⟩:=zle h.2
  exact ⟨p∧q,by unfold zgE; rw [h1,h3],h2,h4⟩
theorem za6 {ρ:Ren} {lb:List (Nat × Blk)}:∀ {l:List (Nat × Blk)},(znA ρ lb l).ok→∃ p,zei ρ lb l=some p∧p
 | [],_=>⟨True,rfl,trivial⟩
 | (κ,b) :: r,h=>by
  unfold znA at h
  split at h
  ·rename_i o ho
   split at h
   ·rename_i c hc
    obtain ⟨p,h1,h2⟩:=zq7 h.1
    obtain ⟨q,h3,h4⟩:=za6 h.2
    exact ⟨p∧q,by unfold zei; rw [ho,h3]; simp only [hc,h1],h2,h4⟩
   ·exact h.elim
  ·rename_i ho
   split at h
   ·obtain ⟨q,h3,h4⟩:=za6 h.2
    exact ⟨_∧q,by unfold zei; rw [ho,h3]; rfl,h.1,h4⟩
   ·exact h.elim
  ·exact h.elim
def zbS (κ:Nat) (o:Option Nat) (ρ:Ren):Ren:=match look ρ κ with | some _=>ρ | none=>(κ,o) :: ρ
mutual
def zi6:AV→AV→Ren→Ren
 | .own κ _,.own κ' _,ρ=>zbS κ' (some κ) ρ
 | .d _,.own κ' _,ρ=>zbS κ' none ρ
 | .ptr κ _,.ptr κ' _,ρ=>zbS κ' (some κ) ρ
 | .mpv κ,.mpv κ',ρ=>zbS κ' (some κ) ρ
 | .elt κ _ _ _,.elt κ' _ _ _,ρ=>zbS κ' (some κ) ρ
 | .fn _ l,.fn _ l',ρ=>zgz l l' ρ
 | .tup l,.tup l',ρ=>zgz l l' ρ
 | .ag l,.ag l',ρ=>zgz l l' ρ
 | _,_,ρ=>ρ
def zgz:List AV→List AV→Ren→Ren
 | x :: r,y :: s,ρ=>zgz r s (zi6 x y ρ)
 | _,_,ρ=>ρ
end
def zqK (sl:List (Nat × AV)):List (Nat × AV)→Ren→Ren
 | [],ρ=>ρ
 | (t,x) :: r,ρ=>zqK sl r (zi6 (St.get sl t) x ρ)
def zgB (lb:List (Nat × Blk)):List (Nat × Blk)→Ren→Ren
 | [],ρ=>ρ
 | (κ,b) :: r,ρ=>zgB lb r (match look ρ κ with
  | some (some o)=>(match look lb o,b with | some (.box cs),.box cs'=>zgz cs cs' ρ | some (.it m _ _),.it m' _ _=>zbS m' (some m) ρ | _,_=>ρ)
  | _=>ρ)
def zqD (st st':St):Ren:=zgB st.lb st'.lb (zgB st.lb st'.lb (zqK st.sl st'.sl []))
def zh2 (st st':St):CT:=.two (.bb (zaI (zqD st st')) true) (.two (zrm (zqD st st') st.sl st'.sl) (znA (zqD st st') st.lb st'.lb))
theorem Yq {st st':St} (h:(zh2 st st').ok):LeS st st':=by
 obtain ⟨h1,h2,h3⟩:=h
 obtain ⟨p,q1,q2⟩:=zle h2
 obtain ⟨p',q3,q4⟩:=za6 h3
 exact LeS.of _ h1 q1 q2 q3 q4
def zrd (t:Nat):Nat:=Nat.shiftLeft 1 t
def zgq:Operand→Nat
 | .tmp t=>zrd t
 | _=>0
def zjb:List Operand→Nat
 | []=>0
 | x :: r=>Nat.lor (zgq x) (zjb r)
def zp4:List Oper→Nat
 | []=>0
 | o :: r=>Nat.lor (zjb o.op.operands.toList) (zp4 r)
def Bc:Code→Nat
 | .region _ ops _=>zp4 ops.toList
 | .seq a b=>Nat.lor (Bc a) (Bc b)
 | .cond c a b=>Nat.lor (zgq c) (Nat.lor (Bc a) (Bc b))
 | .block _ c=>Bc c
 | .loop c=>Bc c
 | .rangeFunc f _ a b=>Nat.lor (zgq f) (Nat.lor (Bc a) (Bc b))
 | _=>0
def yz:List Item→Nat
 | []=>0
 | .code c :: r=>Nat.lor (Bc c) (yz r)
 | .inLoop c :: r=>Nat.lor (Bc c) (yz r)
 | _ :: r=>yz r
def zbq:List ResultVar→Nat
 | []=>0
 | .tmp t :: r=>Nat.lor (zrd t) (zbq r)
 | .cell t _ :: r=>Nat.lor (zrd t) (zbq r)
def zft (m t:Nat):Bool:=Nat.beq (Nat.land (Nat.shiftRight m t) 1) 1
def Vr (m:Nat):List (Nat × AV)→List (Nat × AV)
 | []=>[]
 | (t,x) :: r=>bif zft m t then (t,x) :: Vr m r else Vr m r
theorem zgR (m:Nat):∀ (l:List (Nat × AV)) (t:Nat),look (Vr m l) t=bif zft m t then look l t else none
 | [],t=>by cases zft m t <;> rfl
 | (k,x) :: r,t=>by
  have ih:=zgR m r t
  simp only [Vr]
  cases hk:zft m k with
  | true =>
   simp only [cond_true,jL]
   by_cases e:k=t
   ·subst e; simp [hk]
   ·simp only [e,if_false]; exact ih
  | false =>
   simp only [cond_false,jL]
   by_cases e:k=t
   ·subst e; rw [ih,hk]; rfl
   ·simp only [e,if_false]; exact ih
def St.keep (m:Nat) (st:St):St:=⟨Vr m st.sl,st.lb⟩
theorem LeS.keep (m:Nat) (st:St):LeS st (st.keep m):=by
 rintro C a w ⟨S,μ,hs⟩
 refine ⟨S,μ,fun ν=>(hs ν).weaken (fun t v hv=>?_) (fun κ b hb=>⟨b,hb,fun _ h=>h⟩)⟩
 simp only [St.toM,St.get,St.keep,zgR] at hv ⊢
 cases zft m t with
 | true=>exact hv
 | false=>exact .any _
def zkw (lb:List (Nat × Blk)):List Nat→List Nat
 | []=>[]
 | k :: r=>(match look lb k with | some b=>b.keys++zkw lb r | none=>zkw lb r)
def zqI:List (Nat × AV)→List Nat
 | []=>[]
 | (_,x) :: r=>x.keys++zqI r
def zfi (ks:List Nat):List (Nat × Blk)→List (Nat × Blk)
 | []=>[]
 | (k,b) :: r=>bif ks.any (fun q=>Nat.beq q k) then (k,b) :: zfi ks r else zfi ks r
structure Upd where
 sl:List (Nat × AV):=[]
 lb:List (Nat × Blk):=[]
def St.upd (st:St) (m:Nat) (u:Upd):St :=
 let sl:=u.sl++Vr m (jt (u.sl.map (·.1)) st.sl)
 let lb:=u.lb++jt (u.lb.map (·.1)) st.lb
 let k0:=zqI sl
 let k1:=zkw lb k0
 let k2:=zkw lb k1
 ⟨sl,zfi (k0++k1++k2) lb⟩
structure Cal (β:Type) where
 v:β
 orc:β→List Orc
 claim:β→Option Prop
 pre:Prop
 pf:pre→∀ p,claim v=some p→p
 post:β→Prop
 hp:post v
def iter {α ι:Type} (f:ι→α ⊕ ι) (d:α):Nat→ι→α
 | 0,_=>d
 | n+1,i=>match f i with | .inl a=>a | .inr j=>iter f d n j
def Kv {α β:Type}:α ⊕ β→(β→α)→α
 | .inl a,_=>a
 | .inr b,f=>f b
def Qy {α β:Type} (L:α→Prop) (J:β→Prop):α ⊕ β→Prop
 | .inl a=>L a
 | .inr b=>J b
def zL {α ι:Type} (L:α→Prop) (J:ι→Prop):α ⊕ ι→Prop
 | .inl a=>L a
 | .inr j=>J j
structure ItC (Y:Type) where
 P:Program
 gf:FuncId
 caps:List AV
 ys:List Y
 enc:Y→List AV
 pre:Prop
 pf:pre→ItA P gf caps (ys.map enc)
inductive Sk:Type→Type 1 where
 | fin {α:Type} (a:α):Sk α
 | br {α:Type} (e:Bool) (x y:Sk α):Sk α
 | r {α β:Type} (id:Nat) (c:Cal β) (k:β→Sk α):Sk α
 | wi {α:Type} (t:Nat) (m n:Int) (k:Sk α):Sk α
 | wn {α:Type} (κ n n':Nat) (k:Sk α):Sk α
 | brt {α:Type} (k:Sk α):Sk α
 | brf {α:Type} (k:Sk α):Sk α
 | dead {α:Type} (a:α):Sk α
 | bnd {α:Type} (t j n:Nat) (k:Sk α):Sk α
 | cas {α:Type} (t:Nat) (c:Bool) (x y:AV) (k1 k2:Sk α):Sk α
 | nsp {α:Type} (t n:Nat) (k1 k2:Sk α):Sk α
 | fz {α:Type} (κ:Nat) (k:Sk α):Sk α
 | op {α:Type} (κ:Nat) (k:List (Int × Int)→Sk α):Sk α
 | cl {α:Type} (κ:Nat) (m:List (Int × Int)) (k:Sk α):Sk α
 | clr {α:Type} (id:Nat) (x:Int) (c:ZI) (k:Sk α):Sk α
 | mr {α γ:Type} (n:Nat) (V:γ→Prop) (init:γ) (u:γ→List Nat→Upd) (v:γ→Upd) (b:γ→Nat→Sk γ) (k:γ→Sk α):Sk α
 | bind {α β:Type} (blk:Bool) (J:β→Prop) (s:Sk (α ⊕ β)) (u:β→Upd) (k:β→Sk α):Sk α
 | loop {α ι:Type} (d:α) (I:ι→Prop) (m:ι→Nat) (i0:ι) (u:ι→Upd) (b:ι→Sk (α ⊕ ι)):Sk α
 | rf {α σ β Y:Type} (it:ItC Y) (I:Nat→σ→Prop) (B:β→Prop) (id:Nat) (s0:σ) (u:σ→List (Nat × Blk)) (v:β→List (Nat × Blk)) (b:σ→Y→Sk (β ⊕ σ)) (k:β ⊕ σ→Sk α):Sk α
def Sk.val:{α:Type}→Sk α→α
 | _,.fin a=>a
 | _,.br e x y=>bif e then x.val else y.val
 | _,.r _ c k=>(k c.v).val
 | _,.wi _ _ _ k=>k.val
 | _,.wn _ _ _ k=>k.val
 | _,.brt k=>k.val
 | _,.brf k=>k.val
 | _,.dead a=>a
 | _,.bnd _ _ _ k=>k.val
 | _,.cas _ c _ _ x y=>bif c then x.val else y.val
 | _,.nsp _ _ _ k=>k.val
 | _,.fz _ k=>k.val
 | _,.op _ k=>(k []).val
 | _,.cl _ _ k=>k.val
 | _,.clr _ _ _ k=>k.val
 | _,.mr n _ init _ _ b k=>(k ((List.range n).foldr (fun i g=>(b g i).val) init)).val
 | _,.bind _ _ s _ k=>Kv s.val fun b=>(k b).val
 | _,.loop d _ m i0 _ b=>iter (fun i=>(b i).val) d (m i0+1) i0
 | _,.rf it _ _ _ s0 _ _ b k=>(k (Qn (fun s y=>(b s y).val) it.ys s0)).val
def Sk.pst:{α:Type}→Sk α→(α→Prop)→Prop
 | _,.fin a,L=>L a
 | _,.br e x y,L=>(e=true→x.pst L)∧(e=false→y.pst L)
 | _,.r _ c k,L=>∀ x,x=c.v→c.post x→(k x).pst L
 | _,.wi _ _ _ k,L=>k.pst L
 | _,.wn _ _ _ k,L=>k.pst L
 | _,.brt k,L=>k.pst L
 | _,.brf k,L=>k.pst L
 | _,.dead a,L=>L a
 | _,.bnd _ _ _ k,L=>k.pst L
 | _,.cas _ c _ _ x y,L=>(c=true→x.pst L)∧(c=false→y.pst L)
 | _,.nsp _ _ _ k,L=>k.pst L
 | _,.fz _ k,L=>k.pst L
 | _,.op _ k,L=>(k []).pst L
 | _,.cl _ _ k,L=>k.pst L
 | _,.clr _ _ _ k,L=>k.pst L
 | _,.mr n V init _ _ b k,L=>V init∧(∀ g i,V g→i < n→(b g i).pst V)∧∀ g,g=(List.range n).foldr (fun i g=>(b g i).val) init→V g→(k g).pst L
 | _,.bind _ J s _ k,L=>s.pst (Qy L J)∧∀ b,s.val=.inr b→J b→(k b).pst L
 | _,.loop _ I m i0 _ b,L=>I i0∧∀ i,I i→(b i).pst (zL L fun j=>I j∧m j < m i)
 | _,.rf it I B _ s0 _ _ b k,L=>I 0 s0∧(∀ i s y,I i s→it.ys[i]? = some y→(b s y).pst (zL B (I (i+1))))∧∀ r,r=Qn (fun s y=>(b s y).val) it.ys s0→zL B (I it.ys.length) r→(k r).pst L
def Sk.obs:{α:Type}→Sk α→(α→Prop)→Prop
 | _,.fin a,L=>L a
 | _,.br e x y,L=>(e=true→x.obs L)∧(e=false→y.obs L)
 | _,.r _ c k,L=>c.pre∧∀ x,x=c.v→c.post x→(k x).obs L
 | _,.wi _ m n k,L=>m=n∧k.obs L
 | _,.wn _ n n' k,L=>n=n'∧k.obs L
 | _,.brt k,L=>k.obs L
 | _,.brf k,L=>k.obs L
 | _,.dead _,_=>False
 | _,.bnd _ _ n k,L=>n≤maxLen→k.obs L
 | _,.cas _ c _ _ x y,L=>(c=true→x.obs L)∧(c=false→y.obs L)
 | _,.nsp _ n k1 k2,L=>(n=0→k1.obs L∧k1.val=k2.val)∧k2.obs L
 | _,.fz _ k,L=>k.obs L
 | _,.op _ k,L=>∀ m,(k m).val=(k []).val∧(k m).obs L
 | _,.cl _ _ k,L=>k.obs L
 | _,.clr _ x c k,L=>(0≤x∧x≤(c.n:Int))∧k.obs L
 | _,.mr n V init _ _ b k,L=>V init∧(∀ g i,V g→i < n→(b g i).pst V∧(b g i).obs fun _=>True)∧(∀ g i j,V g→i < n→j < n→i≠j→(b (b g j).val i).val=(b (b g i).val j).val)∧∀ g,g=(List.range n).foldr (fun i g=>(b g i).val) init→V g→(k g).obs L
 | _,.bind _ J s _ k,L=>s.obs (Qy L J)∧∀ b,s.val=.inr b→J b→(k b).obs L
 | _,.loop _ I m i0 _ b,L=>I i0∧∀ i,I i→(b i).obs (zL L fun j=>I j∧m j < m i)
 | _,.rf it I B _ s0 _ _ b k,L=>it.pre∧I 0 s0∧(∀ i s y,I i s→it.ys[i]? = some y→(b s y).pst (zL B (I (i+1)))∧(b s y).obs (zL B (I (i+1))))∧∀ r,r=Qn (fun s y=>(b s y).val) it.ys s0→zL B (I it.ys.length) r→(k r).obs L
theorem zi5 {σ β Y:Type} {f:σ→Y→β ⊕ σ} {I:Nat→σ→Prop} {B:β→Prop} (l:List Y) (h:∀ i s y,I i s→l[i]? = some y→zL B (I (i+1)) (f s y)) (s:σ) (hs:I 0 s):zL B (I l.length) (Qn f l s):=by
 have:=zfS (f:=f) (I:=I) (B:=B) l 0 (fun i s y hs hy=>by
  rw [Nat.zero_add] at hs ⊢
  have:=h i s y hs hy
  cases e:f s y <;> rw [e] at this <;> exact this) s hs
 rw [Nat.zero_add] at this
 cases e:Qn f l s <;> rw [e] at this <;> exact this
theorem Gr {γ:Type} {V:γ→Prop} {f:γ→Nat→γ} {n:Nat} (hf:∀ g i,V g→i < n→V (f g i)) {init:γ} (h0:V init):∀ (s:List Nat),(∀ i,i∈s→i < n)→V (s.foldr (fun i g=>f g i) init)
 | [],_=>h0
 | i :: s,h=>hf _ i (Gr hf h0 s (fun j hj=>h j (List.mem_cons_of_mem _ hj))) (h i List.mem_cons_self)
theorem znj {γ:Type} {V:γ→Prop} {f:γ→Nat→γ} {n:Nat} (hf:∀ g i,V g→i < n→V (f g i)) (hc:∀ g i j,V g→i < n→j < n→i≠j→f (f g j) i=f (f g i) j) {init:γ} (h0:V init) {s t:List Nat} (h:s.Perm t) :
  (∀ i,i∈s→i < n)→s.foldr (fun i g=>f g i) init=t.foldr (fun i g=>f g i) init:=by
 induction h with
 | nil=>intro _; rfl
 | cons x _ ih=>intro hs; simp only [List.foldr_cons]; rw [ih (fun i hi=>hs i (List.mem_cons_of_mem _ hi))]
 | swap x y l =>
  intro hs
  simp only [List.foldr_cons]
  by_cases e:x=y
  ·rw [e]
  ·exact hc _ y x (Gr hf h0 l (fun i hi=>hs i (by simp [hi]))) (hs y (by simp)) (hs x (by simp)) (fun e'=>e e'.symm)
 | trans h1 _ ih1 ih2=>intro hs; rw [ih1 hs,ih2 (fun i hi=>hs i (h1.mem_iff.2 hi))]
theorem zi4 {α ι:Type} {f:ι→α ⊕ ι} {d:α} {L:α→Prop} {I:ι→Prop} {m:ι→Nat} (h:∀ i,I i→zL L (fun j=>I j∧m j < m i) (f i)):∀ (n:Nat) (i:ι),I i→m i < n→L (iter f d n i)
 | 0,i,_,hn=>absurd hn (by omega)
 | n+1,i,hi,hn=>by
  have:=h i hi
  simp only [iter]
  cases hf:f i with
  | inl a=>rw [hf] at this; exact this
  | inr j=>rw [hf] at this; exact zi4 h n j this.1 (by have:=this.2; omega)
theorem Sk.pval:{α:Type}→(s:Sk α)→{L:α→Prop}→s.pst L→L s.val
 | _,.fin a,_,h=>h
 | _,.br e x y,L,h=>by
  cases e with
  | true=>exact x.pval (h.1 rfl)
  | false=>exact y.pval (h.2 rfl)
 | _,.r _ c k,L,h=>(k c.v).pval (h _ rfl c.hp)
 | _,.wi _ _ _ k,L,h=>k.pval (L:=L) h
 | _,.wn _ _ _ k,L,h=>k.pval (L:=L) h
 | _,.brt k,L,h=>k.pval (L:=L) h
 | _,.brf k,L,h=>k.pval (L:=L) h
 | _,.dead _,_,h=>h
 | _,.bnd _ _ n k,L,h=>k.pval (L:=L) h
 | _,.cas _ c _ _ x y,L,h=>by
  cases c with
  | true=>exact x.pval (h.1 rfl)
  | false=>exact y.pval (h.2 rfl)
 | _,.nsp _ _ _ k,L,h=>k.pval (L:=L) h
 | _,.fz _ k,L,h=>k.pval (L:=L) h
 | _,.op _ k,L,h=>(k []).pval (L:=L) h
 | _,.cl _ _ k,L,h=>k.pval (L:=L) h
 | _,.clr _ _ _ k,L,h=>k.pval (L:=L) h
 | _,.mr n V init _ _ b k,L,h=>(k _).pval (h.2.2 _ rfl (Gr (fun g i hg hi=>(b g i).pval (h.2.1 g i hg hi)) h.1 _ (fun i hi=>List.mem_range.1 hi)))
 | _,.bind _ J s _ k,L,h=>by
  have h1:=s.pval h.1
  show L (Kv s.val fun b=>(k b).val)
  cases hs:s.val with
  | inl a=>rw [hs] at h1; exact h1
  | inr b=>rw [hs] at h1; exact (k b).pval (h.2 b hs h1)
 | _,.loop d I m i0 _ b,L,h=>zi4 (f:=fun i=>(b i).val) (fun i hi=>(b i).pval (h.2 i hi)) (m i0+1) i0 h.1 (Nat.lt_succ_self _)
 | _,.rf it I B _ s0 _ _ b k,L,h=>(k _).pval (h.2.2 _ rfl (zi5 it.ys (fun i s y hs hy=>(b s y).pval (h.2.1 i s y hs hy)) s0 h.1))
def wnA (κ n':Nat):AV→AV
 | .own k m=>bif Nat.beq k κ then .own k n' else .own k m
 | x=>x
def wnC (κ n:Nat):AV→CT
 | .own k m=>bif Nat.beq k κ then .nn m n else .nil
 | _=>.nil
def zq0 (κ n':Nat):List AV→List AV
 | []=>[]
 | x :: r=>wnA κ n' x :: zq0 κ n' r
def zr8 (κ n:Nat):List AV→CT
 | []=>.nil
 | x :: r=>.two (wnC κ n x) (zr8 κ n r)
def zrr (κ n':Nat):List (Nat × AV)→List (Nat × AV)
 | []=>[]
 | (t,x) :: r=>(t,wnA κ n' x) :: zrr κ n' r
def zqH (κ n:Nat):List (Nat × AV)→CT
 | []=>.nil
 | (_,x) :: r=>.two (wnC κ n x) (zqH κ n r)
def ziN (κ n':Nat):List (Nat × Blk)→List (Nat × Blk)
 | []=>[]
 | (k,.box cs) :: r=>(k,.box (zq0 κ n' cs)) :: ziN κ n' r
 | (k,.row e q n f) :: r=>(k,.row e q (bif Nat.beq k κ then n' else n) f) :: ziN κ n' r
 | (k,b) :: r=>(k,b) :: ziN κ n' r
def zc4 (κ n:Nat) (n':Nat):List (Nat × Blk)→CT
 | []=>.nil
 | (_,.box cs) :: r=>.two (zr8 κ n cs) (zc4 κ n n' r)
 | (k,.row _ _ m _) :: r=>.two (bif Nat.beq k κ then .nn m n' else .nil) (zc4 κ n n' r)
 | (_,_) :: r=>zc4 κ n n' r
theorem zp0 {κ n:Nat} {x:AV} (h:(wnC κ n x).ok):wnA κ n x=x:=by
 unfold wnC at h
 split at h
 ·rename_i k m
  show (bif Nat.beq k κ then AV.own k n else AV.own k m)=AV.own k m
  cases hb:Nat.beq k κ with
  | true =>
   rw [hb] at h
   have h:m=n:=h
   subst h
   rfl
  | false=>rfl
 ·rename_i hno
  cases x <;> first | rfl | exact absurd rfl (hno _ _)
theorem zoq {κ n:Nat}:∀ {l:List AV},(zr8 κ n l).ok→zq0 κ n l=l
 | [],_=>rfl
 | x :: r,h=>by simp only [zq0,zp0 h.1,zoq h.2]
theorem zoB {κ n:Nat}:∀ {l:List (Nat × AV)},(zqH κ n l).ok→zrr κ n l=l
 | [],_=>rfl
 | (t,x) :: r,h=>by simp only [zrr,zp0 h.1,zoB h.2]
theorem Fi {κ n:Nat}:∀ {l:List (Nat × Blk)},(zc4 κ n n l).ok→ziN κ n l=l
 | [],_=>rfl
 | (k,.box cs) :: r,h=>by simp only [ziN,zoq h.1,Fi h.2]
 | (k,.row e q m f) :: r,h=>by
  simp only [ziN,Fi h.2]
  have h1:=h.1
  cases hb:Nat.beq k κ with
  | false=>rfl
  | true =>
   rw [hb] at h1
   have h1:m=n:=h1
   subst h1
   rfl
 | (k,.mp _ _) :: r,h=>by have h:(zc4 κ n n r).ok:=h; simp only [ziN,Fi h]
 | (k,.it _ _ _) :: r,h=>by have h:(zc4 κ n n r).ok:=h; simp only [ziN,Fi h]
 | (k,.mx) :: r,h=>by have h:(zc4 κ n n r).ok:=h; simp only [ziN,Fi h]
def zjn (lb:List (Nat × Blk)):AV→Option Nat
 | .d (.sl q _)=>some q
 | .own κ _=>(match look lb κ with | some (.row _ _ q _)=>some q | _=>none)
 | _=>none
def lenAt (st:St) (t j:Nat):Option Nat :=
 match St.get st.sl t with
 | .ptr κ _=>(match look st.lb κ with | some (.box cs)=>bif Nat.ble (j+1) cs.length then zjn st.lb (cs.getD j default) else none | _=>none)
 | .ref cs=>bif Nat.ble (j+1) cs.length then zjn st.lb (.d (cs.getD j default)) else none
 | .d (.agg cs)=>bif Nat.ble (j+1) cs.length then zjn st.lb (.d (cs.getD j default)) else none
 | x=>zjn st.lb x
def fzA (κ:Nat) (f:Nat→List D):AV→AV
 | .own k m=>bif Nat.beq k κ then .d (.sl m f) else .own k m
 | x=>x
def fzC (κ n:Nat):AV→CT
 | .own k m=>bif Nat.beq k κ then .nn m n else .nil
 | x=>.bb (x.keys.any fun k=>Nat.beq k κ) false
def zn6 (κ:Nat) (f:Nat→List D):List AV→List AV
 | []=>[]
 | x :: r=>fzA κ f x :: zn6 κ f r
def zsu (κ n:Nat):List AV→CT
 | []=>.nil
 | x :: r=>.two (fzC κ n x) (zsu κ n r)
def zpX (κ:Nat) (f:Nat→List D):List (Nat × AV)→List (Nat × AV)
 | []=>[]
 | (t,x) :: r=>(t,fzA κ f x) :: zpX κ f r
def zom (κ n:Nat):List (Nat × AV)→CT
 | []=>.nil
 | (_,x) :: r=>.two (fzC κ n x) (zom κ n r)
def fzB (κ:Nat) (f:Nat→List D):Blk→Blk
 | .box cs=>.box (zn6 κ f cs)
 | b=>b
def zsL (κ n:Nat):Blk→CT
 | .box cs=>zsu κ n cs
 | .it m _ _=>.bb (Nat.beq m κ) false
 | _=>.nil
def znD (κ:Nat) (f:Nat→List D):List (Nat × Blk)→List (Nat × Blk)
 | []=>[]
 | (k,b) :: r=>bif Nat.beq k κ then znD κ f r else (k,fzB κ f b) :: znD κ f r
def zof (κ n:Nat):List (Nat × Blk)→CT
 | []=>.nil
 | (k,b) :: r=>.two (bif Nat.beq k κ then .nil else zsL κ n b) (zof κ n r)
theorem zmp (κ n:Nat) (f:Nat→List D):∀ (l:List (Nat × AV)) (t:Nat),(zom κ n l).ok→St.get (zpX κ f l) t=fzA κ f (St.get l t)∧(fzC κ n (St.get l t)).ok
 | [],t,_=>⟨rfl,rfl⟩
 | (k,x) :: r,t,h=>by
  obtain ⟨i1,i2⟩:=zmp κ n f r t h.2
  simp only [St.get,zpX,jL] at i1 i2 ⊢
  by_cases e:k=t
  ·simp only [e,if_true]
   exact ⟨trivial,h.1⟩
  ·simp only [e,if_false]
   exact ⟨i1,i2⟩
theorem VU (κ n:Nat) (f:Nat→List D):∀ (l:List (Nat × Blk)) (κ':Nat) (b:Blk),(zof κ n l).ok→look (znD κ f l) κ'=some b→κ'≠κ∧∃ c,look l κ'=some c∧b=fzB κ f c∧(zsL κ n c).ok
 | [],κ',b,_,h=>by simp [znD,look] at h
 | (k,c) :: r,κ',b,h,hl=>by
  have h1:=h.1
  simp only [znD] at hl
  cases hb:Nat.beq k κ with
  | true =>
   rw [hb] at hl
   simp only [cond_true] at hl
   obtain ⟨q1,d,q2,q3⟩:=VU κ n f r κ' b h.2 hl
   have hk:=Nat.eq_of_beq_eq_true hb
   refine ⟨q1,d,?_,q3⟩
   rw [jL,if_neg (fun e=>q1 (by omega))]
   exact q2
  | false =>
   rw [hb] at hl h1
   simp only [cond_false,jL] at hl h1
   split at hl
   ·rename_i e
    subst e
    simp only [Option.some.injEq] at hl
    subst hl
    refine ⟨fun e=>(by rw [e,Nat.beq_refl] at hb; cases hb),c,(by rw [jL,if_pos rfl]),rfl,h1⟩
   ·rename_i e
    obtain ⟨q1,d,q2,q3⟩:=VU κ n f r κ' b h.2 hl
    exact ⟨q1,d,by rw [jL,if_neg e]; exact q2,q3⟩
theorem LeS.fz {st:St} {κ e k n:Nat} {f:Nat→List D} (hl:look st.lb κ=some (.row e k n f)) (h1:(zom κ n st.sl).ok) (h2:(zof κ n st.lb).ok):LeS st ⟨zpX κ f st.sl,znD κ f st.lb⟩:=by
 rintro C a w ⟨S,μ,hs⟩
 have hs0:=hs fun _=>false
 have hm:=hs0.mem κ _ hl
 let S':Nat→Prop:=fun q=>S q∨∃ c,μ κ=some (some (q,c))
 have hS:∀ q,S q→S' q:=fun _ h=>.inl h
 have main:∀ {ν:Nat→Bool} {x:AV} {v:Value},(fzC κ n x).ok→Rel w S μ ν x v→Rel w S' μ ν (fzA κ f x) v:=by
  intro ν x v hc hr
  have other:fzA κ f x=x→Rel w S' μ ν (fzA κ f x) v:=fun e=>by rw [e]; exact hr.mono hS (fun _ _=>rfl) (fun _ _ e=>e)
  cases x with
  | own q m =>
   cases hb:Nat.beq q κ with
   | false=>exact other (by simp [fzA,hb])
   | true =>
    have e:=Nat.eq_of_beq_eq_true hb
    subst e
    simp only [fzC,hb,cond_true] at hc
    have hc:m=n:=hc
    subst hc
    simp only [fzA,hb,cond_true]
    cases hr with
    | @ownNil _ ad hμ =>
     cases ad with
     | none=>exact .d (.nil f)
     | some ad=>exact .d (.sl 0 f ad 0 0 (fun _ _=>undef) (Nat.le_refl _) (by simp [maxLen]) (.inl rfl) (fun i hi=>absurd hi (by omega)) (fun i j hi=>absurd hi (by omega)) (fun i j hi=>absurd hi (by omega)))
    | @own _ _ g cap hμ =>
     rw [hμ] at hm
     obtain ⟨cur,hg,_,hsz,hn,hcp,hrow⟩:=hm.at
     refine .d (.sl m f ⟨g,0,none⟩ cap k (fun i j=>(cur[i * k+j]?).getD undef) hn hcp (.inr rfl) (fun i hi=>(hrow i hi).1) (fun i j hi hj=>⟨.inr ⟨cap,hμ⟩,?_⟩) (fun i j hi hj=>?_))
     ·obtain ⟨u,hu,_⟩:=(hrow i hi).2 j hj
      rw [Nat.zero_add,zC w g _ cur e _ hg,hu]
      rfl
     ·obtain ⟨u,hu,hru⟩:=(hrow i hi).2 j hj
      rw [hu]
      exact hru.mono hS (fun _ _=>rfl)
  | any=>exact other rfl
  | d=>exact other rfl
  | ptr=>exact other rfl
  | elt=>exact other rfl
  | ref=>exact other rfl
  | nns=>exact other rfl
  | mpv=>exact other rfl
  | pmp=>exact other rfl
  | fn=>exact other rfl
  | tup=>exact other rfl
  | ag=>exact other rfl
  | g=>exact other rfl
 refine ⟨S',μ,fun ν=>?_⟩
 have hsν:=hs ν
 refine ⟨hsν.tmps,hsν.defers,fun t=>?_,fun κ' b hb=>?_,fun κ1 κ2 b1 b2 g c c' q1 q2 q3 q4=>?_,fun κ' b g c q1 q2=>?_,fun b hb=>.inl (hsν.stable b hb),fun b hb=>?_,fun b hb=>?_,hsν.kept⟩
 ·obtain ⟨e1,e2⟩:=zmp κ n f st.sl t h1
  simp only [St.toM]
  rw [e1]
  exact main e2 (hsν.slots t)
 ·obtain ⟨hne,c,hc,rfl,hok⟩:=VU κ n f st.lb κ' b h2 hb
  have hm':=hsν.mem κ' c hc
  have hnS:∀ g cc,μ κ'=some (some (g,cc))→¬ S' g:=fun g cc hμ' hS'=>by
   rcases hS' with h | ⟨c2,hc2⟩
   ·rw [hμ'] at hm'; exact hm'.at.not h
   ·exact hne (hsν.inj κ' κ c _ g cc c2 hc hl hμ' hc2)
  have hmono:=hm'.mono (S':=S') hS (fun _ _=>rfl) (fun _ _ e=>e) (fun g cc e=>⟨rfl,hnS g cc e⟩)
  cases c with
  | box cs =>
   cases hμ':μ κ' with
   | none=>rw [hμ'] at hm'; exact hm'.elim
   | some y =>
    cases y with
    | none=>rw [hμ'] at hm'; exact hm'.elim
    | some gc =>
     obtain ⟨g,cc⟩:=gc
     rw [hμ'] at hm'
     obtain ⟨cur,e0,x1,x2,x3,x4⟩:=hm'.at
     have hlen:∀ (l:List AV),(zn6 κ f l).length=l.length:=fun l=>by induction l with | nil=>rfl | cons _ _ ih=>simp [zn6,ih]
     have hget:∀ (l:List AV) (j:Nat),j < l.length→(zsu κ n l).ok→(zn6 κ f l).getD j default=fzA κ f (l.getD j default)∧(fzC κ n (l.getD j default)).ok:=fun l=>by
      induction l with
      | nil=>intro j hj; exact absurd hj (by simp)
      | cons x r ih =>
       intro j hj hk
       cases j with
       | zero=>exact ⟨rfl,hk.1⟩
       | succ j=>simpa [zn6] using ih j (by simpa using hj) hk.2
     refine qd.ok (b:=.box (zn6 κ f cs)) ⟨cur,e0,x1,hnS g cc hμ',by rw [hlen]; exact x3,fun j hj=>?_⟩
     rw [hlen] at hj
     obtain ⟨x,y1,y2⟩:=x4 j hj
     obtain ⟨z1,z2⟩:=hget cs j hj hok
     exact ⟨x,y1,fun ν'=>by rw [z1]; exact main z2 (y2 ν')⟩
  | row=>exact hmono
  | mp=>exact hmono
  | it=>exact hmono
  | mx=>exact hmono
 ·obtain ⟨_,d1,e1,_⟩:=VU κ n f st.lb κ1 b1 h2 q1
  obtain ⟨_,d2,e2,_⟩:=VU κ n f st.lb κ2 b2 h2 q2
  exact hsν.inj κ1 κ2 d1 d2 g c c' e1 e2 q3 q4
 ·obtain ⟨_,d1,e1,_⟩:=VU κ n f st.lb κ' b h2 q1
  exact hsν.own κ' d1 g c e1 q2
 ·rcases hb with h | ⟨c,hc⟩
  ·exact hsν.fresh b h
  ·rcases hsν.own κ _ b c hl hc with h | h
   ·exact .inr (.inl h)
   ·exact .inr (.inr h)
 ·rcases hb with h | ⟨c,hc⟩
  ·exact hsν.bound b h
  ·rw [hc] at hm
   exact hm.at.lt
def zoc (ops:Array Oper):Option (Nat × Nat × Nat) :=
 match ops.toList with
 | [o1,o2]=>(match o1.op,o1.dst,o1.guard,o2.op,o2.dst,o2.guard with
  | .next (.tmp it) false,some d1,none,.extract (.tmp d1') 0,some d2,none=>bif Nat.beq d1 d1' then some (it,d1,d2) else none
  | _,_,_,_,_,_=>none)
 | _=>none
def headR:Code→Option (Array Oper × List Item)
 | .seq x y=>(match headR x with | some (ops,l)=>some (ops,l++[.code y]) | none=>none)
 | .region _ ops false=>some (ops,[])
 | _=>none
def znr (st:St) (d1 d2 κi κ n i:Nat) (s:List Nat):St:=⟨(d2,.d (.v (.bool true))) :: jt [d1,d2] st.sl,(κi,.it κ n (i :: s)) :: jt [κi] st.lb⟩
def zgZ (st:St) (d1 d2 it:Nat):St:=⟨(d2,.d (.v (.bool false))) :: jt [d1,d2,it] st.sl,st.lb⟩
inductive zqt where
 | ret (x:AV) (lbs:List (Nat × Blk))
 | retB (x:AV) (lbs:List (Nat × Blk)) (anc:List (Nat × Nat))
 | go (todo:List Item) (st:St)
 | brk (id:Nat) (st:St)
def znP (g:ui):zqt→Prop
 | .ret x lbs=>g.Nrm∧g.res=x∧g.lbs=lbs
 | .retB x lbs anc=>g.NrmB anc∧g.res=x∧g.lbs=lbs
 | .go todo st=>G g todo st
 | .brk id st=>∀ k,exitTo id k=none→G g (.code (.exit id) :: k) st
def zrq (T:List (Nat × TI)) (rs:List ResultVar) (st:St) (x:AV) (lbs:List (Nat × Blk)):CT :=
 match Yk T st rs with
 | some (l,_,ob)=>(match lbs with
  | []=>(match GZ st.lb l with | some (l',_,ob')=>.two (Bz ob) (.two (Bz ob') (znK [] (ZM l') x)) | none=>.bad)
  | lbs=>.two (Bz ob) (.two (.bb (zaI (zgB st.lb lbs (zi6 (ZM l) x []))) true) (.two (znK (zgB st.lb lbs (zi6 (ZM l) x [])) (ZM l) x) (znA (zgB st.lb lbs (zi6 (ZM l) x [])) st.lb lbs))))
 | none=>.bad
def zsJ (anc:List (Nat × Nat)):List (Nat × AV):=anc.map fun p=>(p.1,.ptr p.2 0)
def zrB (st:St) (x:AV) (lbs:List (Nat × Blk)) (anc:List (Nat × Nat)) (l:List AV):Ren:=zgB st.lb lbs (zqK st.sl (zsJ anc) (zi6 (ZM l) x []))
def zoh (T:List (Nat × TI)) (rs:List ResultVar) (st:St) (x:AV) (lbs:List (Nat × Blk)) (anc:List (Nat × Nat)):CT :=
 match Yk T st rs with
 | some (l,_,ob)=>.two (Bz ob) (.two (.bb (zaI (zrB st x lbs anc l)) true) (.two (znK (zrB st x lbs anc l) (ZM l) x) (.two (zrm (zrB st x lbs anc l) st.sl (zsJ anc)) (znA (zrB st x lbs anc l) st.lb lbs))))
 | none=>.bad
def Kz (P:Program) (T:List (Nat × TI)) (nt:Nat) (rm:Nat) (md:Nat) (pr:List Nat) (todo:List Item) (st:St):Option (List Item × St × CT) :=
 match todo with
 | .code (.seq x y) :: k=>some (.code x :: .code y :: k,st,.nil)
 | .code .skip :: k=>some (k,st,.nil)
 | .code (.label _) :: k=>some (k,st,.nil)
 | .code (.cond (.const (.bool e)) x y) :: k=>some (.code (bif e then x else y) :: k,st,.nil)
 | .code (.block id c) :: k=>some (.code c :: .inBlock id :: k,st,.nil)
 | .inBlock _ :: k=>some (k,st,.nil)
 | .code (.exit id) :: k=>(match exitTo id k with | some k'=>some (k',st,.nil) | none=>none)
 | .code (.region _ ops draw) :: k=>(match KV P T nt ops draw none st [] with
  | some (st',ob)=>some (k,st'.keep (Nat.lor rm (yz k)),.two (.bb (zep md pr ops) true) (Bz ob))
  | none=>none)
 | _=>none
def zrA (c:Bool):AV→AV→AV
 | .d x,.d y=>.d (bif c then x else y)
 | x,y=>bif c then x else y
theorem zru (c:Bool) (x y:AV):zrA c x y=bif c then x else y:=by
 unfold zrA
 split
 ·cases c <;> rfl
 ·rfl
def rfM (rm:Nat) (todo:List Item):Nat:=Nat.lor rm (yz todo)
def zqU (P:Program) (T:List (Nat × TI)) (nt:Nat) (rm:Nat) (md:Nat) (pr:List Nat):Nat→List Item→St→Option (List Item × St × CT)
 | 0,_,_=>none
 | n+1,todo,st=>(match todo with
  | .beginRound :: k=>some (.beginRound :: k,st,.nil)
  | todo=>(match Kz P T nt rm md pr todo st with
   | some (k,st1,c)=>(match zqU P T nt rm md pr n k st1 with
    | some (k',st2,c')=>some (k',st2,.two c c')
    | none=>none)
   | none=>none))
def zqc (P:Program) (T:List (Nat × TI)) (nt:Nat) (rm:Nat) (md:Nat) (pr:List Nat) (n:Nat) (todo:List Item) (st:St):St:=match zqU P T nt rm md pr n todo st with | some (_,st2,_)=>st2 | none=>⟨[],[]⟩
def zsS (P:Program) (T:List (Nat × TI)) (nt:Nat) (rm:Nat) (md:Nat) (pr:List Nat) (n:Nat) (todo:List Item) (st:St) (k:List Item):CT:=match zqU P T nt rm md pr n todo st with | some (k',_,c)=>.two c (.td k' k) | none=>.bad
def mxf (m:List (Int × Int)):Nat→Value × D:=fun i=>(.int .i64 (m.getD i default).1,.v (.int .i64 (m.getD i default).2))
def chk (P:Program) (T:List (Nat × TI)) (nt:Nat) (rs:List ResultVar) (rm:Nat) (md:Nat) (pr:List Nat):Nat→{α:Type}→List Item→St→(α→zqt)→Sk α→CT
 | 0,_,_,_,_,_=>.bad
 | n+1,_,todo,st,L,sk =>
  match sk with
  | .op κ k=>(match look st.lb κ with
   | some .mx=>.pi fun m=>chk P T nt rs rm md pr n todo ⟨st.sl,(κ,.mp m.length (mxf m)) :: jt [κ] st.lb⟩ L (k m)
   | _=>.bad)
  | .cl κ m k=>(match look st.lb κ with
   | some (.mp q f)=>.two (.nn q m.length) (.two (.mm f (mxf m)) (chk P T nt rs rm md pr n todo ⟨st.sl,(κ,.mx) :: jt [κ] st.lb⟩ L k))
   | _=>.bad)
  | .clr id x c k=>(match todo with
   | .code (.region i ops false) :: K=>bif Nat.beq i id then (match zqJ ops with
    | some (ts,ti,ty,d1,d2,d3)=>(match St.get st.sl ts,St.get st.sl ti,look T ty with
     | .own κ m,.d (.v (.int .i64 xx)),some { kind:=.slice e',.. }=>(match look st.lb κ,look T e' with
      | some (.row e q m2 f),some i=>.two (.bb (Nat.ble (d1+1) nt&&Nat.ble (d2+1) nt&&Nat.ble (d3+1) nt&&zep md pr ops&&Nat.beq e e'&&Nat.beq q i.size&&i.zero.all Xu&&!Nat.beq ts d1&&!Nat.beq ts d2&&!Nat.beq ts d3) true)
        (.two (.zz xx x) (.two (.nn m m2) (.two (.nn m c.n) (.two (.ff (YK xx.toNat f i.zero) c.f)
        (chk P T nt rs rm md pr n K (St.keep (Nat.lor rm (yz K)) ⟨(ts,.own κ c.n') :: jt [ts,d1,d2,d3] st.sl,(κ,.row e q c.n' c.f') :: jt [κ] st.lb⟩) L k)))))
      | _,_=>.bad)
     | _,_,_=>.bad)
    | none=>.bad)
    else (match Kz P T nt rm md pr (.code (.region i ops false) :: K) st with | some (k0,st1,c0)=>.two c0 (chk P T nt rs rm md pr n k0 st1 L (.clr id x c k)) | none=>.bad)
   | todo=>(match Kz P T nt rm md pr todo st with | some (k0,st1,c0)=>.two c0 (chk P T nt rs rm md pr n k0 st1 L (.clr id x c k)) | none=>.bad))
  | .wi t a b k=>.two (.vv (St.get st.sl t) (.d (.v (.int .i64 a)))) (chk P T nt rs rm md pr n todo ⟨(t,.d (.v (.int .i64 b))) :: jt [t] st.sl,st.lb⟩ L k)
  | .bnd t j m k=>(match lenAt st t j with
   | some q=>.two (.nn q m) (chk P T nt rs rm md pr n todo st L k)
   | none=>.bad)
  | .wn κ a b k=>.two (zqH κ a st.sl) (.two (zc4 κ a b st.lb) (chk P T nt rs rm md pr n todo ⟨zrr κ b st.sl,ziN κ b st.lb⟩ L k))
  | .dead _=>.nil
  | .nsp t m k1 k2=>(match St.get st.sl t with
   | .d (.sl q f)=>.two (.nn q m) (.two (chk P T nt rs rm md pr n todo ⟨(t,.d (.v (.slice none 0 0))) :: jt [t] st.sl,st.lb⟩ L k1) (chk P T nt rs rm md pr n todo ⟨(t,.nns q f) :: jt [t] st.sl,st.lb⟩ L k2))
   | _=>.bad)
  | .fz κ k=>(match look st.lb κ with
   | some (.row _ _ q f)=>.two (zom κ q st.sl) (.two (zof κ q st.lb) (chk P T nt rs rm md pr n todo ⟨zpX κ f st.sl,znD κ f st.lb⟩ L k))
   | _=>.bad)
  | .mr m V init u v b k=>(match todo with
   | .code (.loop c) :: K=>(match headR c with
    | some (ops,l)=>(match zoc ops with
     | some (it,d1,d2)=>bif Nat.ble (d1+1) nt&&Nat.ble (d2+1) nt&&zep md pr ops then
       .two (zh2 st (st.upd (Nat.lor rm (yz (.inLoop c :: K))) (u init [])))
       (.two (.pi fun g=>.pi fun s=>(match St.get (st.upd (Nat.lor rm (yz (.inLoop c :: K))) (u g s)).sl it with
        | .ptr κi 0=>(match look (st.upd (Nat.lor rm (yz (.inLoop c :: K))) (u g s)).lb κi with
         | some (.it κ m1 s1)=>(match look (st.upd (Nat.lor rm (yz (.inLoop c :: K))) (u g s)).lb κ with
          | some (.mp m2 _)=>.two (.nn m1 m) (.two (.nn m2 m) (.two (.ss s1 s) (.two
            (zh2 (zgZ (st.upd (Nat.lor rm (yz (.inLoop c :: K))) (u g s)) d1 d2 it) ((zgZ st d1 d2 it).upd (Nat.lor rm (yz (l++.inLoop c :: K))) (v g)))
            (.pi fun i=>chk P T nt rs rm md pr n (l++.inLoop c :: K) (znr (st.upd (Nat.lor rm (yz (.inLoop c :: K))) (u g s)) d1 d2 κi κ m i s) (fun g'=>.go (.inLoop c :: K) (st.upd (Nat.lor rm (yz (.inLoop c :: K))) (u g' (i :: s)))) (b g i)))))
          | _=>.bad)
         | _=>.bad)
        | _=>.bad))
       (.pi fun g=>chk P T nt rs rm md pr n (l++.inLoop c :: K) ((zgZ st d1 d2 it).upd (Nat.lor rm (yz (l++.inLoop c :: K))) (v g)) L (k g))) else .bad
     | none=>.bad)
    | none=>.bad)
   | todo=>(match Kz P T nt rm md pr todo st with | some (k0,st1,c)=>.two c (chk P T nt rs rm md pr n k0 st1 L (.mr m V init u v b k)) | none=>.bad))
  | .brt x=>(match todo with
   | .code (.cond (.tmp c) p _) :: k=>.two (.vv (St.get st.sl c) (.d (.v (.bool true)))) (chk P T nt rs rm md pr n (.code p :: k) st L x)
   | todo=>(match Kz P T nt rm md pr todo st with | some (k,st1,c)=>.two c (chk P T nt rs rm md pr n k st1 L (.brt x)) | none=>.bad))
  | .brf x=>(match todo with
   | .code (.cond (.tmp c) _ q) :: k=>.two (.vv (St.get st.sl c) (.d (.v (.bool false)))) (chk P T nt rs rm md pr n (.code q :: k) st L x)
   | todo=>(match Kz P T nt rm md pr todo st with | some (k,st1,c)=>.two c (chk P T nt rs rm md pr n k st1 L (.brf x)) | none=>.bad))
  | .cas t c x y k1 k2=>.two (.vv (St.get st.sl t) (zrA c x y)) (.two (chk P T nt rs rm md pr n todo ⟨(t,x) :: jt [t] st.sl,st.lb⟩ L k1) (chk P T nt rs rm md pr n todo ⟨(t,y) :: jt [t] st.sl,st.lb⟩ L k2))
  | .fin a=>(match L a with
   | .go todo' st'=>bif Nat.beq todo.length todo'.length then .two (.td todo todo') (zh2 st st') else
     (match Kz P T nt rm md pr todo st with | some (k,st1,c)=>.two c (chk P T nt rs rm md pr n k st1 L (.fin a)) | none=>.bad)
   | .brk id st'=>(match todo with
    | .code (.exit id') :: k=>bif Nat.beq id id'&&(exitTo id' k).isNone then zh2 st st' else
     (match Kz P T nt rm md pr (.code (.exit id') :: k) st with | some (k,st1,c)=>.two c (chk P T nt rs rm md pr n k st1 L (.fin a)) | none=>.bad)
    | todo=>(match Kz P T nt rm md pr todo st with | some (k,st1,c)=>.two c (chk P T nt rs rm md pr n k st1 L (.fin a)) | none=>.bad))
   | .ret x lbs=>(match todo with
    | []=>zrq T rs st x lbs
    | .code .ret :: _=>zrq T rs st x lbs
    | todo=>(match Kz P T nt rm md pr todo st with | some (k,st1,c)=>.two c (chk P T nt rs rm md pr n k st1 L (.fin a)) | none=>.bad))
   | .retB x lbs anc=>(match todo with
    | []=>zoh T rs st x lbs anc
    | .code .ret :: _=>zoh T rs st x lbs anc
    | todo=>(match Kz P T nt rm md pr todo st with | some (k,st1,c)=>.two c (chk P T nt rs rm md pr n k st1 L (.fin a)) | none=>.bad)))
  | .br e x y=>(match todo with
   | .code (.cond (.tmp c) p q) :: k=>.two (.vv (St.get st.sl c) (.d (.v (.bool e)))) (.two (chk P T nt rs rm md pr n (.code p :: k) st L x) (chk P T nt rs rm md pr n (.code q :: k) st L y))
   | todo=>(match Kz P T nt rm md pr todo st with | some (k,st1,c)=>.two c (chk P T nt rs rm md pr n k st1 L (.br e x y)) | none=>.bad))
  | .r id cl kk=>(match todo with
   | .code (.region i ops draw) :: k=>bif Nat.beq i id then
     .pi fun x=>(match KV P T nt ops draw none st (cl.orc x) with
      | some (st',ob)=>.two (.bb (zep md pr ops) true) <| .two ob.eqs (.two (.po ob.prop (cl.claim x)) (chk P T nt rs rm md pr n k (st'.keep (Nat.lor rm (yz k))) L (kk x)))
      | none=>.bad)
    else (match Kz P T nt rm md pr (.code (.region i ops draw) :: k) st with | some (k,st1,c)=>.two c (chk P T nt rs rm md pr n k st1 L (.r id cl kk)) | none=>.bad)
   | todo=>(match Kz P T nt rm md pr todo st with | some (k,st1,c)=>.two c (chk P T nt rs rm md pr n k st1 L (.r id cl kk)) | none=>.bad))
  | .bind true J s u kk=>(match todo with
   | .code (.block id c) :: k=>.two (chk P T nt rs rm md pr n (.code c :: .inBlock id :: k) st (fun q=>match q with | .inl a=>L a | .inr b=>.go k (st.upd (Nat.lor rm (yz k)) (u b))) s) (.pi fun b=>chk P T nt rs rm md pr n k (st.upd (Nat.lor rm (yz k)) (u b)) L (kk b))
   | todo=>(match Kz P T nt rm md pr todo st with | some (k,st1,c)=>.two c (chk P T nt rs rm md pr n k st1 L (.bind true J s u kk)) | none=>.bad))
  | .bind false J s u kk=>(match todo with
   | .code (.cond (.tmp c) p q) :: k=>.two (chk P T nt rs rm md pr n (.code (.cond (.tmp c) p q) :: k) st (fun q=>match q with | .inl a=>L a | .inr b=>.go k (st.upd (Nat.lor rm (yz k)) (u b))) s) (.pi fun b=>chk P T nt rs rm md pr n k (st.upd (Nat.lor rm (yz k)) (u b)) L (kk b))
   | todo=>(match Kz P T nt rm md pr todo st with | some (k,st1,c)=>.two c (chk P T nt rs rm md pr n k st1 L (.bind false J s u kk)) | none=>.bad))
  | .loop d I m i0 u b=>(match todo with
   | .code (.loop c) :: k=>.two (zh2 st (st.upd (Nat.lor rm (yz (.inLoop c :: k))) (u i0))) (.pi fun i=>chk P T nt rs rm md pr n (.code c :: .inLoop c :: k) (st.upd (Nat.lor rm (yz (.inLoop c :: k))) (u i)) (fun q=>match q with | .inl a=>L a | .inr j=>.go (.inLoop c :: k) (st.upd (Nat.lor rm (yz (.inLoop c :: k))) (u j))) (b i))
   | todo=>(match Kz P T nt rm md pr todo st with | some (k,st1,c)=>.two c (chk P T nt rs rm md pr n k st1 L (.loop d I m i0 u b)) | none=>.bad))
  | .rf it I B id s0 u v b kk=>(match todo with
   | .code (.rangeFunc (.tmp t) ps asg body) :: k =>
     .two (.bb (Nat.beq md 0) true) <|
     .two (.vv (St.get (Vr (rfM rm todo) (jt [] st.sl)) t) (.fn it.gf it.caps)) <|
     .two (.bb (noG.noGL it.caps) true) <|
     .two (.po (some (ItA P it.gf it.caps (it.ys.map it.enc))) (some (ItA it.P it.gf it.caps (it.ys.map it.enc)))) <|
     .two (.bb (zn2 nt ((Vr (rfM rm todo) (jt [] st.sl)).map (·.1)) ps.toList) true) <|
     .two (zh2 st (st.upd (rfM rm todo) ⟨[],u s0⟩)) <|
     .two (.pi fun y=>.nn ps.toList.length (it.enc y).length) <|
     .two (.pi fun s=>.pi fun y=>.two
      (zsS P T nt (rfM rm todo) 1 ((Vr (rfM rm todo) (jt [] st.sl)).map (·.1)) n [.code asg,.beginRound,.code body] ⟨Xm ps.toList (it.enc y)++Vr (rfM rm todo) (jt [] st.sl),(st.upd (rfM rm todo) ⟨[],u s⟩).lb⟩ [.beginRound,.code body])
      (chk P T nt rs (rfM rm todo) 1 ((Vr (rfM rm todo) (jt [] st.sl)).map (·.1)) n [.code body] (zqc P T nt (rfM rm todo) 1 ((Vr (rfM rm todo) (jt [] st.sl)).map (·.1)) n [.code asg,.beginRound,.code body] ⟨Xm ps.toList (it.enc y)++Vr (rfM rm todo) (jt [] st.sl),(st.upd (rfM rm todo) ⟨[],u s⟩).lb⟩)
       (fun q=>match q with | .inl a=>.brk id (st.upd (rfM rm todo) ⟨[],v a⟩) | .inr j=>.go [] (st.upd (rfM rm todo) ⟨[],u j⟩)) (b s y))) <|
     .two (.pi fun s=>chk P T nt rs rm md pr n k (st.upd (rfM rm todo) ⟨[],u s⟩) L (kk (.inr s))) (.pi fun a=>chk P T nt rs rm md pr n (.code (.exit id) :: k) (st.upd (rfM rm todo) ⟨[],v a⟩) L (kk (.inl a)))
   | todo=>(match Kz P T nt rm md pr todo st with | some (k,st1,c)=>.two c (chk P T nt rs rm md pr n k st1 L (.rf it I B id s0 u v b kk)) | none=>.bad))
section
variable {g : ui}
theorem G.keep (m:Nat) {k:List Item} {st:St} (h:G g k (st.keep m)):G g k st:=.le (.keep m st) h
theorem zoI (hn:g.Nrm) (hT:TOk g.P g.T) (hf:g.P.funcs[g.f]? = some g.fn) {st:St} {x:AV} {lbs:List (Nat × Blk)} (h:(zrq g.T g.fn.results.toList st x lbs).ok) (hx:g.res=x) (hl:g.lbs=lbs):G g [] st∧∀ k,G g (.code .ret :: k) st:=by
 subst hx
 subst hl
 unfold zrq at h
 split at h
 ·rename_i l ro ob hr
  split at h
  ·rename_i hl
   split at h
   ·rename_i l' ro' ob' hb
    obtain ⟨h1,h2,h3⟩:=h
    obtain ⟨p,q1,q2⟩:=zah _ _ h3
    have hle:UE (ZM l') g.res:=fun w S μ ν v hv=>by
     exact (GP (ρ:=[]) (ZM l') g.res p q1 q2 v hv).mono (fun _ h=>h) (fun _ _=>rfl) (fun k y hk=>by simp [Wa,look] at hk)
    exact G.ret hn hT hf hl hr (Ug h1) hb (Ug h2) hle
   ·exact h.elim
  ·obtain ⟨h1,h2,h3,h4⟩:=h
   obtain ⟨p,q1,q2⟩:=zah _ _ h3
   obtain ⟨p',q3,q4⟩:=za6 h4
   exact G.retO hn hT hf _ hr (Ug h1) h2 q1 q2 q3 q4
 ·exact h.elim
theorem zmJ {anc:List (Nat × Nat)} (hn:g.NrmB anc) (hT:TOk g.P g.T) (hf:g.P.funcs[g.f]? = some g.fn) {st:St} {x:AV} {lbs:List (Nat × Blk)} (h:(zoh g.T g.fn.results.toList st x lbs anc).ok) (hx:g.res=x) (hl:g.lbs=lbs):G g [] st∧∀ k,G g (.code .ret :: k) st:=by
 subst hx
 subst hl
 unfold zoh at h
 split at h
 ·rename_i l ro ob hr
  obtain ⟨h1,h2,h3,h4,h5⟩:=h
  obtain ⟨p,q1,q2⟩:=zah _ _ h3
  obtain ⟨p',q3,q4⟩:=za6 h5
  obtain ⟨p'',q5,q6⟩:=zle h4
  exact G.retB hn hT hf _ hr (Ug h1) h2 q1 q2 q3 q4 q5 q6
 ·exact h.elim
theorem qT (hT:TOk g.P g.T) (hm:g.P.follows .mixedOrders=true) {rm:Nat} {todo k:List Item} {st st':St} {c:CT} (h:Kz g.P g.T g.nt rm g.md g.pr todo st=some (k,st',c)) (hc:c.ok) (hg:G g k st'):G g todo st:=by
 unfold Kz at h
 split at h
 ·simp only [Option.some.injEq,Prod.mk.injEq] at h; obtain ⟨rfl,rfl,-⟩:=h; exact .seq hg
 ·simp only [Option.some.injEq,Prod.mk.injEq] at h; obtain ⟨rfl,rfl,-⟩:=h; exact .skip hg
 ·simp only [Option.some.injEq,Prod.mk.injEq] at h; obtain ⟨rfl,rfl,-⟩:=h; exact .label hg
 ·simp only [Option.some.injEq,Prod.mk.injEq] at h; obtain ⟨rfl,rfl,-⟩:=h; exact .condC hg
 ·simp only [Option.some.injEq,Prod.mk.injEq] at h; obtain ⟨rfl,rfl,-⟩:=h; exact .block hg
 ·simp only [Option.some.injEq,Prod.mk.injEq] at h; obtain ⟨rfl,rfl,-⟩:=h; exact .inBlock hg
 ·split at h
  ·rename_i k' he
   simp only [Option.some.injEq,Prod.mk.injEq] at h; obtain ⟨rfl,rfl,-⟩:=h; exact .exit he hg
  ·cases h
 ·split at h
  ·rename_i st1 ob hr
   simp only [Option.some.injEq,Prod.mk.injEq] at h
   obtain ⟨rfl,rfl,rfl⟩:=h
   exact .region hT hm hc.1 hr (Ug hc.2) (.keep _ hg)
  ·cases h
 ·cases h
theorem LeS.put {st:St} (t:Nat) {x y:AV} (hx:St.get st.sl t=x) (h:UE x y):LeS st ⟨(t,y) :: jt [t] st.sl,st.lb⟩:=by
 rintro C a w ⟨S,μ,hs⟩
 refine ⟨S,μ,fun ν=>(hs ν).weaken (fun u v hv=>?_) (fun κ b hb=>⟨b,hb,fun _ h=>h⟩)⟩
 simp only [St.toM] at hv ⊢
 rw [zeO]
 split
 ·rename_i e
  subst e
  rw [hx] at hv
  exact h _ _ _ _ _ hv
 ·exact hv
theorem zaL {C:Cx} {A:M} {a:Act} {w:World} {S:Nat→Prop} {μ:Mu} {ν:Nat→Bool} {lb:List (Nat × Blk)} (hs:Sim C A a w S μ ν) (hA:A.lb=look lb) {x:AV} {v:Value} {q:Nat} (h:zjn lb x=some q) (hr:Rel w S μ ν x v):q≤maxLen:=by
 unfold zjn at h
 split at h
 ·simp only [Option.some.injEq] at h
  subst h
  cases vp.1 hr with
  | nil=>simp [maxLen]
  | sl _ _ _ _ _ _ hc hm=>omega
 ·rename_i κ n
  split at h
  ·rename_i e k q' f hl
   simp only [Option.some.injEq] at h
   subst h
   have hm:=hs.mem κ _ (by rw [hA]; exact hl)
   cases hμ:μ κ with
   | none=>rw [hμ] at hm; exact hm.elim
   | some y =>
    rw [hμ] at hm
    cases y with
    | none=>have:q'=0:=hm; simp [this]
    | some gc =>
     obtain ⟨g,c⟩:=gc
     obtain ⟨cur,_,_,_,q4,q5,_⟩:=hm.at
     omega
  ·cases h
 ·cases h
theorem Sim.weakenAt {C:Cx} {A B:M} {a:Act} {w:World} {S:Nat→Prop} {μ:Mu} {ν:Nat→Bool} (h:Sim C A a w S μ ν) (hsl:∀ t,B.sl t=A.sl t) (hlb:∀ κ b',B.lb κ=some b'→∃ b,A.lb κ=some b∧(vb w S μ b (μ κ)→vb w S μ b' (μ κ))):Sim C B a w S μ ν:=by
 refine ⟨h.tmps,h.defers,fun t=>by rw [hsl]; exact h.slots t,fun κ b hb=>?_,fun κ κ' b b' g c c' hb hb' hm hm'=>?_,fun κ b g c hb hm=>?_,h.stable,h.fresh,h.bound,h.kept⟩
 ·obtain ⟨d,h1,h2⟩:=hlb κ b hb
  exact h2 (h.mem κ d h1)
 ·obtain ⟨d,h1,_⟩:=hlb κ b hb
  obtain ⟨d',h1',_⟩:=hlb κ' b' hb'
  exact h.inj κ κ' d d' g c c' h1 h1' hm hm'
 ·obtain ⟨d,h1,_⟩:=hlb κ b hb
  exact h.own κ d g c h1 hm
theorem zrQ (st:St) (κ:Nat) (b:Blk) (k:Nat):(St.toM ⟨st.sl,(κ,b) :: jt [κ] st.lb⟩).lb k=if κ=k then some b else st.toM.lb k:=by
 simp only [St.toM,jL,gE]
 split
 ·rfl
 ·rename_i h
  rw [if_neg (by simp; exact fun e=>h e.symm)]
theorem G.cl {g:ui} {k:List Item} {st:St} {κ n:Nat} {f:Nat→Value × D} {m:List (Int × Int)} (hl:look st.lb κ=some (.mp n f)) (hn:n=m.length) (hf:f=mxf m) (h:G g k ⟨st.sl,(κ,.mx) :: jt [κ] st.lb⟩):G g k st:=by
 subst hn
 subst hf
 refine .le (fun C a w hs=>?_) h
 obtain ⟨S,μ,hs⟩:=hs
 refine ⟨S,μ,fun ν=>(hs ν).weakenAt (fun _=>rfl) (fun κ' b' hb=>?_)⟩
 rw [zrQ] at hb
 split at hb
 ·rename_i e
  subst e
  simp only [Option.some.injEq] at hb
  subst hb
  refine ⟨_,hl,fun hy=>?_⟩
  generalize μ κ=y at hy ⊢
  match y,hy with
  | some (some (g,c)),hy=>exact ⟨m,hy⟩
 ·exact ⟨b',hb,fun h=>h⟩
theorem G.op {g:ui} {k:List Item} {st:St} {κ:Nat} (hl:look st.lb κ=some .mx) (h:∀ m,G g k ⟨st.sl,(κ,.mp m.length (mxf m)) :: jt [κ] st.lb⟩):G g k st:=by
 intro C h1 h2 a w hkp hs
 obtain ⟨S,μ,hs⟩:=hs
 have hm:=(hs fun _=>false).mem κ _ hl
 obtain ⟨m,hm'⟩:∃ m:List (Int × Int),vb w S μ (.mp m.length (mxf m)) (μ κ):=by
  generalize μ κ=y at hm ⊢
  match y,hm with
  | some (some (g,c)),hm=>obtain ⟨m,hm⟩:=hm; exact ⟨m,hm⟩
 refine h m C h1 h2 a w hkp ⟨S,μ,fun ν=>(hs ν).weakenAt (fun _=>rfl) (fun κ' b' hb=>?_)⟩
 rw [zrQ] at hb
 split at hb
 ·rename_i e
  subst e
  simp only [Option.some.injEq] at hb
  subst hb
  exact ⟨_,hl,fun _=>hm'⟩
 ·exact ⟨b',hb,fun h=>h⟩
theorem G.lenAt {k:List Item} {st:St} {t j q:Nat} (h:lenAt st t j=some q) (hg:q≤maxLen→G g k st):G g k st:=by
 intro C h1 h2 a w hkp hs
 have hs0:=hs
 obtain ⟨S,μ,hsim⟩:=hs
 refine hg ?_ C h1 h2 a w hkp hs0
 have hs:=hsim fun _=>false
 have hr:=hs.slots t
 simp only [St.toM] at hr
 unfold Go.Av.lenAt at h
 split at h
 ·rename_i κ o hx
  split at h
  ·rename_i cs hl
   rw [Bool.cond_eq_ite] at h
   split at h
   ·rename_i hj
    have hj:=Nat.le_of_ble_eq_true hj
    rw [hx] at hr
    generalize a.tmps.getD t undef=v at hr
    cases hr with
    | ptr hμ =>
     have hm:=hs.mem κ _ hl
     rw [hμ] at hm
     obtain ⟨cur,e,_,_,hsz,hc⟩:=hm.at
     obtain ⟨x,_,hx⟩:=hc j hj
     exact zaL hs rfl h (hx fun _=>false)
   ·cases h
  ·cases h
 ·rename_i cs hx
  rw [Bool.cond_eq_ite] at h
  split at h
  ·rename_i hj
   have hj:=Nat.le_of_ble_eq_true hj
   rw [hx] at hr
   generalize a.tmps.getD t undef=v at hr
   cases hr with
   | ref vals hcell hh=>exact zaL hs rfl h (.d (hh j hj))
  ·cases h
 ·rename_i cs hx
  rw [Bool.cond_eq_ite] at h
  split at h
  ·rename_i hj
   have hj:=Nat.le_of_ble_eq_true hj
   rw [hx] at hr
   generalize a.tmps.getD t undef=v at hr
   cases vp.1 hr with
   | agg _ vs hl hh=>exact zaL hs rfl h (.d (hh j hj))
  ·cases h
 ·exact zaL hs rfl h hr
theorem G.nsp {k:List Item} {st:St} {t n:Nat} {f:Nat→List D} (ht:St.get st.sl t=.d (.sl n f)) (h1:n=0→G g k ⟨(t,.d (.v (.slice none 0 0))) :: jt [t] st.sl,st.lb⟩) (h2:G g k ⟨(t,.nns n f) :: jt [t] st.sl,st.lb⟩):G g k st:=by
 intro C c1 c2 a w hkp hs
 obtain ⟨S,μ,hsim⟩:=hs
 have hr:=(hsim fun _=>false).slots t
 simp only [St.toM,ht] at hr
 have put:∀ y:AV,(∀ ν,Rel w S μ ν y (a.tmps.getD t undef))→uh C ⟨(t,y) :: jt [t] st.sl,st.lb⟩ a w:=fun y hy=>by
  refine ⟨S,μ,fun ν=>?_⟩
  have h:=hsim ν
  refine ⟨h.tmps,h.defers,fun u=>?_,h.mem,h.inj,h.own,h.stable,h.fresh,h.bound,h.kept⟩
  simp only [St.toM]
  rw [zeO]
  split
  ·rename_i e
   subst e
   exact hy ν
  ·exact h.slots u
 cases hv:a.tmps.getD t undef with
 | slice ad m cap =>
  rw [hv] at hr
  cases ad with
  | none =>
   cases vp.1 hr with
   | nil=>exact h1 rfl C c1 c2 a w hkp (put _ (fun ν=>by rw [hv]; exact zD rfl))
  | some ad=>exact h2 C c1 c2 a w hkp (put _ (fun ν=>by rw [hv]; exact .nns (vp.1 hr)))
 | _=>rw [hv] at hr; cases vp.1 hr
theorem G.headR:∀ {c:Code} {ops:Array Oper} {l K:List Item} {st:St},Go.Av.headR c=some (ops,l)→(∀ id,G g (.code (.region id ops false) :: (l++K)) st)→G g (.code c :: K) st
 | .seq x y,ops,l,K,st,h,hg=>by
  simp only [Go.Av.headR] at h
  split at h
  ·rename_i ops' l' hx
   simp only [Option.some.injEq,Prod.mk.injEq] at h
   obtain ⟨rfl,rfl⟩:=h
   exact .seq (G.headR hx (fun id=>by have:=hg id; rwa [List.append_assoc] at this))
  ·cases h
 | .region id ops' false,ops,l,K,st,h,hg=>by
  simp only [Go.Av.headR,Option.some.injEq,Prod.mk.injEq] at h
  obtain ⟨rfl,rfl⟩:=h
  exact hg id
 | .region _ _ true,_,_,_,_,h,_=>by simp [Go.Av.headR] at h
 | .skip,_,_,_,_,h,_=>by simp [Go.Av.headR] at h
 | .cond ..,_,_,_,_,h,_=>by simp [Go.Av.headR] at h
 | .block ..,_,_,_,_,h,_=>by simp [Go.Av.headR] at h
 | .loop ..,_,_,_,_,h,_=>by simp [Go.Av.headR] at h
 | .rangeFunc ..,_,_,_,_,h,_=>by simp [Go.Av.headR] at h
 | .exit ..,_,_,_,_,h,_=>by simp [Go.Av.headR] at h
 | .scope ..,_,_,_,_,h,_=>by simp [Go.Av.headR] at h
 | .label ..,_,_,_,_,h,_=>by simp [Go.Av.headR] at h
 | .goto ..,_,_,_,_,h,_=>by simp [Go.Av.headR] at h
 | .ret,_,_,_,_,h,_=>by simp [Go.Av.headR] at h
 | .refuse ..,_,_,_,_,h,_=>by simp [Go.Av.headR] at h
theorem uh.put2 {C:Cx} {st:St} {a:Act} {w:World} {S:Nat→Prop} {μ:Mu} (hsim:∀ ν,Sim C st.toM a w S μ ν) {d1 d2:Nat} (hd1:d1 < C.nt) (hd2:d2 < C.nt) (x:Value) (b:Bool) (ds:List Nat) (h1:d1∈ds) (h2:d2∈ds) :
  ∀ ν,Sim C (St.toM ⟨(d2,.d (.v (.bool b))) :: jt ds st.sl,st.lb⟩) ((a.put (some d1) x).put (some d2) (.bool b)) w S μ ν:=fun ν=>by
 have h:=hsim ν
 refine ⟨by simp [Act.put,h.tmps],h.defers,fun u=>?_,h.mem,h.inj,h.own,h.stable,h.fresh,h.bound,h.kept⟩
 simp only [St.toM,St.get,jL]
 by_cases c2:d2=u
 ·subst c2
  simp only [if_true,Act.put]
  rw [zK _ _ _ (by simp [h.tmps]; exact hd2)]
  exact zD rfl
 ·simp only [c2,if_false,gE]
  split
  ·rename_i x hx
   split at hx
   ·cases hx
   ·rename_i hn
    have n1:u≠d1:=fun e=>hn (e ▸ h1)
    have n2:u≠d2:=fun e=>hn (e ▸ h2)
    simp only [Act.put]
    rw [kF _ _ _ _ n2,kF _ _ _ _ n1]
    have:=h.slots u
    simp only [St.toM,St.get,hx] at this
    exact this
  ·exact .any _
theorem G.next (hm:g.P.follows .mixedOrders=true) {K:List Item} {st:St} {id:Nat} {ops:Array Oper} {it d1 d2 κi κ n:Nat} {f:Nat→Value × D} {s:List Nat} (hreg:zep g.md g.pr ops=true) (hops:zoc ops=some (it,d1,d2)) (hd1:d1 < g.nt) (hd2:d2 < g.nt)
  (hit:St.get st.sl it=.ptr κi 0) (hli:look st.lb κi=some (.it κ n s)) (hl:look st.lb κ=some (.mp n f))
  (hstep:∀ i,i < n→i ∉ s→G g K (znr st d1 d2 κi κ n i s)) (hend:(∀ i,i < n→i∈s)→G g K (zgZ st d1 d2 it)):G g (.code (.region id ops false) :: K) st:=by
 intro C c1 c2 a w hkp hs
 suffices hw:wpOps C.P ops (fun e a' w'=>e=.normal∧((∃ i,i < n∧i ∉ s∧uh C (znr st d1 d2 κi κ n i s) a' w')∨((∀ i,i < n→i∈s)∧uh C (zgZ st d1 d2 it) a' w'))) (List.range ops.size) a w by
  rw [c1] at hw
  refine G.ops hm hreg hkp (.inl ⟨rfl,hw⟩) (fun a' w' hk' hs'=>?_)
  rcases hs' with ⟨i,hi,hn,hs'⟩ | ⟨he,hs'⟩
  ·exact hstep i hi hn C c1 c2 a' w' hk' hs'
  ·exact hend he C c1 c2 a' w' hk' hs'
 obtain ⟨S,μ,hsim⟩:=hs
 have h0:=hsim fun _=>false
 rw [← c2] at hd1 hd2
 unfold zoc at hops
 split at hops
 ·rename_i o1 o2 hol
  split at hops
  ·rename_i it' d1' e1 d2' q1 q2 q3 q4 q5 q6
   rw [Bool.cond_eq_ite] at hops
   split at hops
   ·rename_i heq
    have heq:=Nat.eq_of_beq_eq_true heq
    subst heq
    simp only [Option.some.injEq,Prod.mk.injEq] at hops
    obtain ⟨rfl,rfl,rfl⟩:=hops
    have hops:ops = #[o1,o2]:=by cases ops; simpa using hol
    subst hops
    show wpOps C.P #[o1,o2] _ [0,1] a w
    have w1:∀ y,Region.wanted o1 y=true:=fun y=>by simp [Region.wanted,q3]
    have w2:∀ y,Region.wanted o2 y=true:=fun y=>by simp [Region.wanted,q6]
    have hr:=h0.slots it'
    simp only [St.toM,hit] at hr
    generalize hiv:a.tmps.getD it' undef=iv at hr
    cases hr with
    | @ptr _ _ gi ci hμi =>
     have hmi:=h0.mem κi _ hli
     rw [hμi] at hmi
     have hmi':=hmi.at
     obtain ⟨mg,c,hμ,hgi,hnsi⟩:=hmi'
     have hme:=h0.mem κ _ hl
     rw [hμ] at hme
     obtain ⟨cur,hg,hns,hsz,hcell⟩:=hme.at
     have hev:a.eval (.tmp it')=.pointer (some ⟨gi,0,none⟩):=hiv
     have hborn:∀ x,x∈cur.toList→x.born < n:=fun x hx=>by
      obtain ⟨q,hq,rfl⟩:=List.getElem_of_mem hx
      have hqn:q < n:=by simpa [hsz] using hq
      obtain ⟨e,y1,_,_,y4,_⟩:=hcell q hqn
      have:cur.toList[q]=e:=by simpa using (Array.getElem?_eq_some_iff.1 y1).2
      rw [this,y4]; exact hqn
     have ext:∀ (a':Act) (w':World) (b:Bool) (rest:List Value),a'.eval (.tmp d1')=.tuple (#[.bool b]++rest.toArray)→(execOp a'.eval o2).run C.P w'=.ok (.value (.bool b)) w':=fun a' w' b rest hh=>by
      simp [execOp,q4,hh,Instr.extract]
     have putd:∀ (x:Value),(a.put (some d1') x).eval (.tmp d1')=x:=fun x=>by
      show (a.tmps.setIfInBounds d1' x).getD d1' undef=x
      exact zK _ _ _ (by rw [h0.tmps]; exact hd1)
     rcases run_next_at (P:=C.P) w o1.type gi mg n n s.reverse.toArray cur n hgi hg hborn (Nat.le_refl _) with ⟨hz,hrun⟩ | ⟨e,he,wd,hwd,hrun⟩
     ·simp only [wpOps,List.getElem?_toArray,List.getElem?_cons_zero,List.getElem?_cons_succ,w1,w2,if_true]
      left
      unfold Oper.wp
      have hx:(execOp a.eval o1).run C.P w=.ok (.value (.tuple #[.bool false])) w:=by
       simp only [execOp,q1,hev,Sem.run_bind,hrun,Result.andThen_ok,Sem.run_pure]
      rw [hx,Oper.upon_value,q2]
      left
      rw [ext (a.put (some d1') (.tuple #[.bool false])) w false [] (by rw [putd]; rfl),Oper.upon_value,q5]
      refine ⟨trivial,.inr ⟨fun i hi=>?_,⟨S,μ,uh.put2 hsim hd1 hd2 _ false [d1',d2',it'] (by simp) (by simp)⟩⟩⟩
      have:∀ x,x∈cur.toList→x.born∈s:=fun x hx=>by
       have hz':leftOf cur s.reverse.toArray = #[]:=Array.eq_empty_of_size_eq_zero hz
       unfold leftOf at hz'
       rw [Array.filter_eq_empty_iff] at hz'
       have:=hz' x (by simpa using hx)
       simpa using this
      obtain ⟨e,y1,_,_,y4,_⟩:=hcell i hi
      have hm:e∈cur.toList:=by
       have:=(Array.getElem?_eq_some_iff.1 y1)
       obtain ⟨hlt,rfl⟩:=this
       simp
      have:=this e hm
      rwa [y4] at this
     ·simp only [wpOps,List.getElem?_toArray,List.getElem?_cons_zero,List.getElem?_cons_succ,w1,w2,if_true]
      left
      unfold Oper.wp
      have hx:(execOp a.eval o1).run C.P w=.ok (.value (.tuple #[.bool true,e.key,e.val])) (ChangeMaps.setBlock wd gi (.mapIter (some mg) n (s.reverse.toArray.push e.born) n)):=by
       simp only [execOp,q1,hev,Sem.run_bind,hrun,Result.andThen_ok,Sem.run_pure]
      rw [hx,Oper.upon_value,q2]
      left
      rw [ext (a.put (some d1') (.tuple #[.bool true,e.key,e.val])) _ true [e.key,e.val] (by rw [putd]; rfl),Oper.upon_value,q5]
      have hmem:e∈cur.toList∧e.born ∉ s:=by
       unfold leftOf at he
       simpa using he
      refine ⟨trivial,.inl ⟨e.born,hborn e hmem.1,hmem.2,?_⟩⟩
      have hwd1:Kept w wd (fun _=>False):=by
       rcases hwd with rfl | rfl
       ·exact Kept.refl _ _
       ·exact ⟨rfl,rfl,rfl,Nat.le_refl _,fun _ _ _=>rfl⟩
      have hgi1:wd.heap[gi]? = some (.mapIter (some mg) n s.reverse.toArray n):=by rcases hwd with rfl | rfl <;> exact hgi
      have hsim1:∀ ν,Sim C st.toM a wd S μ ν:=fun ν=>(hsim ν).world (fun _ x=>x) (fun _ x=>.inl x) hwd1
      have hset:ChangeMaps.setBlock wd gi (.mapIter (some mg) n (s.reverse.toArray.push e.born) n)=World.setO wd gi (.mapIter (some mg) n (s.reverse.toArray.push e.born) n):=rfl
      rw [hset]
      have hsim2:∀ ν,Sim C (st.toM.set κi (some (.it κ n (e.born :: s)))) a (World.setO wd gi (.mapIter (some mg) n (s.reverse.toArray.push e.born) n)) S μ ν:=fun ν=>(hsim1 ν).writeW (b:=.it κ n s) hli hμi (VR gi _) ⟨mg,c,hμ,by rw [zeK _ hgi1]; simp,hnsi⟩
      have hst:(St.toM ⟨st.sl,(κi,.it κ n (e.born :: s)) :: jt [κi] st.lb⟩)=st.toM.set κi (some (.it κ n (e.born :: s))):=by
       unfold St.toM M.set
       congr 1
       funext q
       rw [jL,gE]
       by_cases hq:κi=q
       ·subst hq; simp
       ·have:q ∉ [κi]:=by simp; exact fun e=>hq e.symm
        have hq':¬ q=κi:=fun e=>hq e.symm
        simp [hq,hq']
      exact ⟨S,μ,uh.put2 (st:=⟨st.sl,(κi,.it κ n (e.born :: s)) :: jt [κi] st.lb⟩) (fun ν=>by rw [hst]; exact hsim2 ν) hd1 hd2 _ true [d1',d2'] (by simp) (by simp)⟩
   ·cases hops
  ·cases hops
 ·cases hops
theorem zoF (hT:TOk g.P g.T) (hm:g.P.follows .mixedOrders=true) {rm:Nat}:∀ (n:Nat) {todo k:List Item} {st st':St} {c:CT},zqU g.P g.T g.nt rm g.md g.pr n todo st=some (k,st',c)→c.ok→G g k st'→G g todo st
 | 0,_,_,_,_,_,h,_,_=>by cases h
 | n+1,todo,k,st,st',c,h,hc,hg=>by
  unfold zqU at h
  split at h
  ·simp only [Option.some.injEq,Prod.mk.injEq] at h
   obtain ⟨rfl,rfl,rfl⟩:=h
   exact hg
  ·split at h
   ·rename_i k1 st1 c1 hs
    split at h
    ·rename_i k2 st2 c2 hr
     simp only [Option.some.injEq,Prod.mk.injEq] at h
     obtain ⟨rfl,rfl,rfl⟩:=h
     exact qT hT hm hs hc.1 (zoF hT hm n hr hc.2 hg)
    ·cases h
   ·cases h
theorem We:∀ (n:Nat) {g:ui} (hT:TOk g.P g.T) (hm:g.P.follows .mixedOrders=true) (hf:g.P.funcs[g.f]? = some g.fn) (hz:g.md=0→g.Nrm∧∀ {C C' b cs m},Reb C C'→g.Z C' b cs m→g.Z C b cs m) (rm:Nat) {α:Type} (todo:List Item) (st:St) (L:α→zqt) (sk:Sk α) (lp:α→Prop),
  (chk g.P g.T g.nt g.fn.results.toList rm g.md g.pr n todo st L sk).ok→sk.obs lp→(∀ a,a=sk.val→lp a→znP g (L a))→G g todo st
 | 0,_,_,_,_,_,_,_,todo,st,L,sk,lp,h,_,_=>h.elim
 | n+1,g,hT,hm,hf,hz,rm,α,todo,st,L,sk,lp,h,ho,hL=>by
  have ih:=fun {α:Type}=>We n hT hm hf hz rm (α:=α)
  unfold chk at h
  split at h
  ·-- op
   rename_i κ k
   split at h
   ·rename_i hl
    exact G.op hl fun m=>ih _ _ L (k m) lp (h m) (ho m).2 (fun a ha=>hL a (ha.trans (ho m).1))
   ·exact h.elim
  ·-- cl
   rename_i κ m k
   split at h
   ·rename_i q f hl
    obtain ⟨h1,h2,h3⟩:=h
    exact G.cl hl h1 h2 (ih _ _ L k lp h3 ho hL)
   ·exact h.elim
  ·-- clr
   rename_i id x c k
   split at h
   ·rename_i i ops K
    rw [Bool.cond_eq_ite] at h
    split at h
    ·split at h
     ·rename_i ts ti ty d1 d2 d3 hcl
      split at h
      ·rename_i κ m xx e' _ _ _ _ hts hti hty
       split at h
       ·rename_i e q m2 f ii hl he
        obtain ⟨h0,h1,h2,h3,h4,h5⟩:=h
        have h0:(Nat.ble (d1+1) g.nt&&Nat.ble (d2+1) g.nt&&Nat.ble (d3+1) g.nt&&zep g.md g.pr ops&&Nat.beq e e'&&Nat.beq q ii.size&&ii.zero.all Xu&&!Nat.beq ts d1&&!Nat.beq ts d2&&!Nat.beq ts d3)=true:=h0
        simp only [Bool.and_eq_true,Bool.not_eq_true'] at h0
        obtain ⟨⟨⟨⟨⟨⟨⟨⟨⟨b1,b2⟩,b3⟩,b4⟩,b5⟩,b6⟩,b7⟩,b8⟩,b9⟩,b10⟩:=h0
        have h1:xx=x:=h1
        have h2:m=m2:=h2
        have h3:m=c.n:=h3
        have h4:YK xx.toNat f ii.zero=c.f:=h4
        have b5:=Nat.eq_of_beq_eq_true b5
        have b6:=Nat.eq_of_beq_eq_true b6
        subst h1; subst h2; subst b5
        obtain ⟨⟨o1,o2⟩,o3⟩:=ho
        have ne:∀ d,Nat.beq ts d=false→¬ ts=d:=fun d hd e=>by rw [e,Nat.beq_refl] at hd; cases hd
        refine G.clr hT hm b4 hcl (Nat.le_of_ble_eq_true b1) (Nat.le_of_ble_eq_true b2) (Nat.le_of_ble_eq_true b3) hts hti hl hty rfl he b6 b7 o1 (by rw [h3]; exact o2) (.le ?_ (.keep _ (ih _ _ L k lp h5 o3 hL)))
        have hcn:m=c.n':=h3.trans c.eq.1
        rintro C a w ⟨S,μ,hsim⟩
        refine ⟨S,μ,fun ν=>(hsim ν).weaken (fun t v hv=>?_) (fun κ' b' hb'=>?_)⟩
        ·simp only [St.toM,St.get,jL,gE] at hv ⊢
         by_cases ht:ts=t
         ·subst ht
          simp only [if_true]
          rw [if_neg (by simp only [List.mem_cons,List.not_mem_nil,or_false,not_or]; exact ⟨ne _ b8,ne _ b9,ne _ b10⟩)] at hv
          simp only [St.get] at hts
          rw [hts,hcn] at hv
          exact hv
         ·have e1:(t∈[ts,d1,d2,d3])↔(t∈[d1,d2,d3]):=by
           rw [List.mem_cons]
           exact ⟨fun h=>h.elim (fun e=>absurd e.symm ht) (fun h=>h),.inr⟩
          simp only [ht,if_false,e1]
          exact hv
        ·simp only [St.toM,jL,gE] at hb' ⊢
         by_cases hk:κ=κ'
         ·simp only [hk,if_true,Option.some.injEq] at hb' ⊢
          subst hb'
          refine ⟨_,rfl,fun y hy=>?_⟩
          rw [h4] at hy
          exact zqp hcn (fun i hi=>c.eq.2 i (by rw [← h3]; exact hi)) y hy
         ·simp only [hk,if_false] at hb' ⊢
          exact ⟨b',hb',fun _ h=>h⟩
       ·exact h.elim
      ·exact h.elim
     ·exact h.elim
    ·split at h
     ·rename_i k0 st1 c0 hs
      exact qT hT hm hs h.1 (ih _ _ L (.clr id x c k) lp h.2 ho hL)
     ·exact h.elim
   ·split at h
    ·rename_i k0 st1 c0 hs
     exact qT hT hm hs h.1 (ih _ _ L (.clr id x c k) lp h.2 ho hL)
    ·exact h.elim
  ·-- wi
   rename_i t a b k
   obtain ⟨h1,h2⟩:=h
   obtain ⟨o1,o2⟩:=ho
   refine .le (LeS.put t h1 (y:=.d (.v (.int .i64 b))) ?_) (ih _ _ L k lp h2 o2 hL)
   subst o1
   exact UE.rfl'
  ·-- bnd
   rename_i t j m k
   split at h
   ·rename_i q hq
    obtain ⟨h1,h2⟩:=h
    have h1:q=m:=h1
    subst h1
    exact G.lenAt hq fun hb=>ih _ _ L k lp h2 (ho hb) hL
   ·exact h.elim
  ·-- wn
   rename_i κ a b k
   obtain ⟨h1,h2,h3⟩:=h
   obtain ⟨o1,o2⟩:=ho
   subst o1
   rw [zoB h1,Fi h2] at h3
   exact ih _ _ L k lp h3 o2 hL
  ·exact (ho:False).elim
  ·-- nsp
   rename_i t m k1 k2
   split at h
   ·rename_i q f hq
    obtain ⟨h1,h2,h3⟩:=h
    have h1:q=m:=h1
    subst h1
    refine G.nsp hq (fun h0=>?_) (ih _ _ L k2 lp h3 ho.2 hL)
    exact ih _ _ L k1 lp h2 (ho.1 h0).1 (fun a ha=>hL a (by rw [ha,(ho.1 h0).2]; rfl))
   ·exact h.elim
  ·-- fz
   rename_i κ k
   split at h
   ·rename_i e0 k0 q f hq
    exact .le (LeS.fz hq h.1 h.2.1) (ih _ _ L k lp h.2.2 ho hL)
   ·exact h.elim
  ·-- mr
   rename_i γ m V init u v b k
   split at h
   ·rename_i c K
    split at h
    ·rename_i ops l hh
     split at h
     ·rename_i it d1 d2 hn
      rw [Bool.cond_eq_ite] at h
      split at h
      ·rename_i hb
       simp only [Bool.and_eq_true] at hb
       have hd1:=Nat.le_of_ble_eq_true hb.1.1
       have hd2:=Nat.le_of_ble_eq_true hb.1.2
       obtain ⟨h1,h2,h3⟩:=h
       obtain ⟨oi,ob,oc,o3⟩:=ho
       have hV:∀ g i,V g→i < m→V ((b g i).val):=fun g i hg hi=>(b g i).pval (ob g i hg hi).1
       have o1:∀ s:List Nat,s.Perm (List.range m)→s.foldr (fun i g=>(b g i).val) init=(List.range m).foldr (fun i g=>(b g i).val) init:=fun s hs=>znj (f:=fun g i=>(b g i).val) hV oc oi hs (fun i hi=>List.mem_range.1 (hs.mem_iff.1 hi))
       have o2:∀ (s:List Nat) (i:Nat),(∀ j,j∈s→j < m)→i < m→(b (s.foldr (fun i g=>(b g i).val) init) i).obs fun _=>True:=fun s i hs hi=>(ob _ i (Gr (f:=fun g i=>(b g i).val) hV oi s hs) hi).2
       have key:∀ (q:Nat) (s:List Nat),s.Nodup→(∀ j,j∈s→j < m)→m - s.length < q→G g (.code c :: .inLoop c :: K) (st.upd (Nat.lor rm (yz (.inLoop c :: K))) (u (s.foldr (fun i g=>(b g i).val) init) s)):=by
        intro q
        induction q with
        | zero=>intro s _ _ hlt; omega
        | succ q ihq =>
         intro s hnd hlt hq
         have h2:=h2 (s.foldr (fun i g=>(b g i).val) init) s
         dsimp only at h2
         split at h2
         ·rename_i κi hit
          split at h2
          ·rename_i κ m1 s1 hli
           split at h2
           ·rename_i m2 f hl
            obtain ⟨e1,e2,e3,e4,e5⟩:=h2
            have e1:m1=m:=e1
            have e2:m2=m:=e2
            have e3:s1=s:=e3
            subst e1; subst e2; subst e3
            refine G.headR hh (fun id=>G.next hm hb.2 hn hd1 hd2 hit hli hl (fun i hi hni=>?_) (fun hall=>?_))
            ·refine ih _ _ _ (b _ i) _ (e5 i) (o2 s1 i hlt hi) (fun g' hg' _=>?_)
             subst hg'
             refine .inLoop (ihq (i :: s1) (List.nodup_cons.2 ⟨hni,hnd⟩) (fun j hj=>?_) ?_)
             ·rcases List.mem_cons.1 hj with rfl | hj
              ·exact hi
              ·exact hlt j hj
             ·have hle:(i :: s1).length≤m2:=by
               have:=List.Nodup.length_le_of_subset (l₁:=i :: s1) (l₂:=List.range m2) (List.nodup_cons.2 ⟨hni,hnd⟩) (fun j hj=>by
                rcases List.mem_cons.1 hj with rfl | hj
                ·exact List.mem_range.2 hi
                ·exact List.mem_range.2 (hlt j hj))
               simpa using this
              simp only [List.length_cons] at hle ⊢
              omega
            ·have hp:s1.Perm (List.range m2):=(List.perm_ext_iff_of_nodup hnd List.nodup_range).2 (fun j=>⟨fun hj=>List.mem_range.2 (hlt j hj),fun hj=>hall j (List.mem_range.1 hj)⟩)
             refine .le (Yq e4) ?_
             rw [o1 s1 hp]
             exact ih _ _ L (k _) lp (h3 _) (o3 _ rfl (Gr (f:=fun g i=>(b g i).val) hV oi _ (fun i hi=>List.mem_range.1 hi))) hL
           ·exact h2.elim
          ·exact h2.elim
         ·exact h2.elim
       intro C c1 c2 a w hkp hs
       exact (key (m+1) [] List.nodup_nil (fun j hj=>by cases hj) (by simp) C c1 c2 a w hkp (Yq h1 C a w hs)).step fun _ _=>.one stepR_loop
      ·exact h.elim
     ·exact h.elim
    ·exact h.elim
   ·split at h
    ·rename_i k0 st1 c hs
     exact qT hT hm hs h.1 (ih _ _ L (.mr m V init u v b k) lp h.2 ho hL)
    ·exact h.elim
  ·-- brt
   rename_i x
   split at h
   ·exact .cond h.1 (fun _=>ih _ _ L x lp h.2 ho hL) (fun he=>by cases he)
   ·split at h
    ·rename_i k st1 c hs
     exact qT hT hm hs h.1 (ih _ _ L (.brt x) lp h.2 ho hL)
    ·exact h.elim
  ·-- brf
   rename_i x
   split at h
   ·exact .cond h.1 (fun he=>by cases he) (fun _=>ih _ _ L x lp h.2 ho hL)
   ·split at h
    ·rename_i k st1 c hs
     exact qT hT hm hs h.1 (ih _ _ L (.brf x) lp h.2 ho hL)
    ·exact h.elim
  ·-- cas
   rename_i t c x y k1 k2
   obtain ⟨h1,h2,h3⟩:=h
   have h1:St.get st.sl t=zrA c x y:=h1
   rw [zru] at h1
   cases c with
   | true=>exact .le (LeS.put t h1 UE.rfl') (ih _ _ L k1 lp h2 (ho.1 rfl) hL)
   | false=>exact .le (LeS.put t h1 UE.rfl') (ih _ _ L k2 lp h3 (ho.2 rfl) hL)
  ·-- fin
   rename_i a
   have hla:=hL a rfl ho
   split at h
   ·rename_i todo' st' hl
    rw [hl] at hla
    rw [Bool.cond_eq_ite] at h
    split at h
    ·obtain ⟨h1,h2⟩:=h
     have h1:todo=todo':=h1
     subst h1
     exact .le (Yq h2) hla
    ·split at h
     ·rename_i k st1 c hs
      exact qT hT hm hs h.1 (ih _ _ L (.fin a) lp h.2 ho hL)
     ·exact h.elim
   ·rename_i id st' hl
    rw [hl] at hla
    split at h
    ·rename_i id' k
     rw [Bool.cond_eq_ite] at h
     split at h
     ·rename_i hb
      simp only [Bool.and_eq_true,Option.isNone_iff_eq_none] at hb
      obtain rfl:=Nat.eq_of_beq_eq_true hb.1
      exact .le (Yq h) (hla k hb.2)
     ·split at h
      ·rename_i k st1 c hs
       exact qT hT hm hs h.1 (ih _ _ L (.fin a) lp h.2 ho hL)
      ·exact h.elim
    ·split at h
     ·rename_i k st1 c hs
      exact qT hT hm hs h.1 (ih _ _ L (.fin a) lp h.2 ho hL)
     ·exact h.elim
   ·rename_i x lbs hl
    rw [hl] at hla
    split at h
    ·exact (zoI hla.1 hT hf h hla.2.1 hla.2.2).1
    ·exact (zoI hla.1 hT hf h hla.2.1 hla.2.2).2 _
    ·split at h
     ·rename_i k st1 c hs
      exact qT hT hm hs h.1 (ih _ _ L (.fin a) lp h.2 ho hL)
     ·exact h.elim
   ·rename_i x lbs anc hl
    rw [hl] at hla
    split at h
    ·exact (zmJ hla.1 hT hf h hla.2.1 hla.2.2).1
    ·exact (zmJ hla.1 hT hf h hla.2.1 hla.2.2).2 _
    ·split at h
     ·rename_i k st1 c hs
      exact qT hT hm hs h.1 (ih _ _ L (.fin a) lp h.2 ho hL)
     ·exact h.elim
  ·-- br
   rename_i e x y
   split at h
   ·rename_i c p q k
    obtain ⟨h1,h2,h3⟩:=h
    refine .cond h1 (fun he=>?_) (fun he=>?_)
    ·exact ih _ _ L x lp h2 (ho.1 he) (fun a ha=>hL a (by rw [ha]; simp [Sk.val,he]))
    ·exact ih _ _ L y lp h3 (ho.2 he) (fun a ha=>hL a (by rw [ha]; simp [Sk.val,he]))
   ·split at h
    ·rename_i k st1 c hs
     exact qT hT hm hs h.1 (ih _ _ L (.br e x y) lp h.2 ho hL)
    ·exact h.elim
  ·-- r
   rename_i β id cl kk
   split at h
   ·rename_i i ops draw k
    rw [Bool.cond_eq_ite] at h
    split at h
    ·have h:=h cl.v
     dsimp only at h
     split at h
     ·rename_i st' ob hr
      obtain ⟨h0,h1,h2,h3⟩:=h
      have h2:ob.prop=cl.claim cl.v:=h2
      exact .region hT hm h0 hr (Ob.den_of h1 (fun p hp=>cl.pf ho.1 p (h2 ▸ hp))) (.keep _ (ih _ _ L (kk cl.v) lp h3 (ho.2 _ rfl cl.hp) hL))
     ·exact h.elim
    ·split at h
     ·rename_i k st1 c hs
      exact qT hT hm hs h.1 (ih _ _ L (.r id cl kk) lp h.2 ho hL)
     ·exact h.elim
   ·split at h
    ·rename_i k st1 c hs
     exact qT hT hm hs h.1 (ih _ _ L (.r id cl kk) lp h.2 ho hL)
    ·exact h.elim
  ·-- bind at a block
   rename_i β J s u kk
   split at h
   ·rename_i id c k
    obtain ⟨h1,h2⟩:=h
    refine .block (ih _ _ _ s _ h1 ho.1 (fun q hq hlq=>?_))
    cases q with
    | inl a=>exact hL a (by simp only [Sk.val,← hq,Kv]) hlq
    | inr b=>exact ih _ _ L (kk b) lp (h2 b) (ho.2 b hq.symm hlq) (fun a ha=>hL a (by rw [ha]; simp only [Sk.val,← hq,Kv]))
   ·split at h
    ·rename_i k st1 c hs
     exact qT hT hm hs h.1 (ih _ _ L (.bind true J s u kk) lp h.2 ho hL)
    ·exact h.elim
  ·-- bind at a choice
   rename_i β J s u kk
   split at h
   ·rename_i c p q k
    obtain ⟨h1,h2⟩:=h
    refine ih _ _ _ s _ h1 ho.1 (fun q hq hlq=>?_)
    cases q with
    | inl a=>exact hL a (by simp only [Sk.val,← hq,Kv]) hlq
    | inr b=>exact ih _ _ L (kk b) lp (h2 b) (ho.2 b hq.symm hlq) (fun a ha=>hL a (by rw [ha]; simp only [Sk.val,← hq,Kv]))
   ·split at h
    ·rename_i k st1 c hs
     exact qT hT hm hs h.1 (ih _ _ L (.bind false J s u kk) lp h.2 ho hL)
    ·exact h.elim
  ·-- loop
   rename_i ι d I m i0 u b
   split at h
   ·rename_i c k
    obtain ⟨h1,h2⟩:=h
    obtain ⟨o1,o2⟩:=ho
    have key:∀ (q:Nat) (i:ι),I i→m i < q→(∀ a,a=iter (fun i=>(b i).val) d q i→lp a→znP g (L a))→G g (.code c :: .inLoop c :: k) (st.upd (Nat.lor rm (yz (.inLoop c :: k))) (u i)):=by
     intro q
     induction q with
     | zero=>intro i _ hlt; omega
     | succ q ihq =>
      intro i hi hlt hla
      refine ih _ _ _ (b i) _ (h2 i) (o2 i hi) (fun r hr hlr=>?_)
      cases r with
      | inl a=>exact hla a (by simp only [iter,← hr]) hlr
      | inr j=>exact .inLoop (ihq j hlr.1 (by have:=hlr.2; omega) (fun a ha=>hla a (by rw [ha]; simp only [iter,← hr])))
    intro C c1 c2 a w hkp hs
    exact (key (m i0+1) i0 o1 (Nat.lt_succ_self _) hL C c1 c2 a w hkp (Yq h1 C a w hs)).step fun _ _=>.one stepR_loop
   ·split at h
    ·rename_i k st1 c hs
     exact qT hT hm hs h.1 (ih _ _ L (.loop d I m i0 u b) lp h.2 ho hL)
    ·exact h.elim
  ·-- rf
   rename_i σ β Y it I B id s0 u v b kk
   split at h
   ·rename_i t ps asg body k
    obtain ⟨h1,h2,h3,h4,h5,h6,h7,h8,h9,h10⟩:=h
    obtain ⟨o1,o2,o3,o4⟩:=ho
    have hpr:g.md=0:=Nat.eq_of_beq_eq_true h1
    obtain ⟨hn,hreb⟩:=hz hpr
    have h4:some (ItA g.P it.gf it.caps (it.ys.map it.enc))=some (ItA it.P it.gf it.caps (it.ys.map it.enc)):=h4
    have hit:ItA g.P it.gf it.caps (it.ys.map it.enc):=by rw [Option.some.inj h4]; exact it.pf o1
    have hleaf:=fun i s y hs hy=>(b s y).pval (o3 i s y hs hy).1
    generalize hmm:rfM rm (Item.code (.rangeFunc (.tmp t) ps asg body) :: k)=mm at *
    refine G.rf hn hreb it.ys it.enc (fun s y=>(b s y).val) s0 I (Vr mm (jt [] st.sl)) (fun s=>st.upd mm ⟨[],u s⟩) (fun a=>st.upd mm ⟨[],v a⟩) id
     (fun s y=>zqc g.P g.T g.nt mm 1 ((Vr mm (jt [] st.sl)).map (·.1)) n [.code asg,.beginRound,.code body] ⟨Xm ps.toList (it.enc y)++Vr mm (jt [] st.sl),(st.upd mm ⟨[],u s⟩).lb⟩)
     (fun _=>rfl) (fun _=>rfl) (Yq h6) h2 h3 hit h5 (fun y _=>h7 y) o2 (fun i s y hs hy=>?_) (fun s y tm Z zs hy hg=>?_) (fun i s y tm Z zs hs hy hg=>?_) ?_
    ·have:=hleaf i s y hs hy
     show match (b s y).val with | .inl _=>True | .inr s'=>I (i+1) s'
     cases e:(b s y).val with
     | inl a=>trivial
     | inr s'=>rw [e] at this; exact this
    ·have h8:=(h8 s y).1
     unfold zsS at h8
     unfold zqc at hg
     split at h8
     ·rename_i k' st2 c ha
      rw [ha] at hg
      have hk:k'=[.beginRound,.code body]:=h8.2
      subst hk
      exact zoF (g:=g.round _ tm Z zs) hT hm n ha h8.1 hg
     ·exact h8.elim
    ·have h8:=(h8 s y).2
     refine We n (g:=g.round _ tm Z zs) hT hm hf (fun e=>by cases e) mm _ _ _ (b s y) (zL B (I (i+1))) h8 (o3 i s y hs hy).2 (fun q hq hlq=>?_)
     have hg:(match (b s y).val with | .inr s'=>G (g.round _ tm Z zs) [] (st.upd mm ⟨[],u s'⟩) | .inl b=>∀ k',exitTo id k'=none→G (g.round _ tm Z zs) (.code (.exit id) :: k') (st.upd mm ⟨[],v b⟩)):=hg
     cases q with
     | inl a=>rw [← hq] at hg; exact hg
     | inr j=>rw [← hq] at hg; exact hg
    ·have hr:=o4 _ rfl (zi5 it.ys hleaf s0 o2)
     cases e:Qn (fun s y=>(b s y).val) it.ys s0 with
     | inr s =>
      rw [e] at hr
      exact ih _ _ L (kk (.inr s)) lp (h9 s) hr (fun a ha=>hL a (by rw [ha]; simp only [Sk.val,e]))
     | inl a =>
      rw [e] at hr
      exact ih _ _ L (kk (.inl a)) lp (h10 a) hr (fun a' ha=>hL a' (by rw [ha]; simp only [Sk.val,e]))
   ·split at h
    ·rename_i k st1 c hs
     exact qT hT hm hs h.1 (ih _ _ L (.rf it I B id s0 u v b kk) lp h.2 ho hL)
    ·exact h.elim
end
theorem FnA.sk {P:Program} {T:List (Nat × TI)} (hT:TOk P T) (hm:P.follows .mixedOrders=true) {f:FuncId} {fn:Func} {body:Code} {args:List AV} {lbs:List (Nat × Blk)} {α:Type} (enc:α→AV) (encB:α→List (Nat × Blk)) (hf:P.funcs[f]? = some fn) (hb:fn.body=some body)
  (hc:(qV P f&&Nat.ble args.length fn.ntmps)=true) (n:Nat) (sk:Sk α) (h:chk P T fn.ntmps fn.results.toList (zbq fn.results.toList) 0 [] n [.code body] ⟨qe 0 args,lbs⟩ (fun a=>.ret (enc a) (encB a)) sk=(chk P T fn.ntmps fn.results.toList (zbq fn.results.toList) 0 [] n [.code body] ⟨qe 0 args,lbs⟩ (fun a=>.ret (enc a) (encB a)) sk).diag)
  (ho:sk.obs fun _=>True):FnA P f args lbs (enc sk.val) (encB sk.val):=by
 simp only [Bool.and_eq_true] at hc
 refine FnA.intro (T:=T) hf hb hc.1 (Nat.le_of_ble_eq_true hc.2) ?_
 exact We n (g:=.of P T fn.ntmps f fn (enc sk.val) (encB sk.val)) hT hm hf (fun _=>⟨ui.of_nrm,fun {_ _ b _ _} hr hz=>ZN.reb (b:=b) hr hz⟩) _ _ _ _ sk _ (CT.ok_of h) ho (fun a ha _=>by subst ha; exact ⟨ui.of_nrm,rfl,rfl⟩)
def zsq:List (Nat × Nat)→Nat→Nat
 | [],m=>m
 | (t,_) :: r,m=>Nat.lor (zrd t) (zsq r m)
theorem FnB.sk {P:Program} {T:List (Nat × TI)} (hT:TOk P T) (hm:P.follows .mixedOrders=true) {f:FuncId} {fn:Func} {body:Code} {args:List AV} {lbs:List (Nat × Blk)} {α:Type} (enc:α→AV) (encB:α→List (Nat × Blk)) (anc:List (Nat × Nat)) (hf:P.funcs[f]? = some fn) (hb:fn.body=some body)
  (hc:(qV P f&&Nat.ble args.length fn.ntmps&&anc.all fun p=>Nat.ble (p.1+1) args.length)=true) (n:Nat) (sk:Sk α) (h:chk P T fn.ntmps fn.results.toList (zsq anc (zbq fn.results.toList)) 3 (anc.map (·.1)) n [.code body] ⟨qe 0 args,lbs⟩ (fun a=>.retB (enc a) (encB a) anc) sk=(chk P T fn.ntmps fn.results.toList (zsq anc (zbq fn.results.toList)) 3 (anc.map (·.1)) n [.code body] ⟨qe 0 args,lbs⟩ (fun a=>.retB (enc a) (encB a) anc) sk).diag)
  (ho:sk.obs fun _=>True):FnB P f args lbs (enc sk.val) (encB sk.val) anc:=by
 simp only [Bool.and_eq_true,List.all_eq_true] at hc
 refine FnB.intro (T:=T) hf hb hc.1.1 (Nat.le_of_ble_eq_true hc.1.2) (fun p hp=>Nat.le_of_ble_eq_true (hc.2 p hp)) (fun tm=>?_)
 exact We n (g:=.ofB P T fn.ntmps f fn (enc sk.val) (encB sk.val) anc tm) hT hm hf (fun h=>by cases h) _ _ _ _ sk _ (CT.ok_of h) ho (fun a ha _=>by subst ha; exact ⟨ui.ofB_nrm,rfl,rfl⟩)
end Go.Av
