/- Sketches: what a piece of code computes, told once; the check that the code does so, by computation. -/
import Derived.Test.YtgibnoahjhfmcaaGreatDoorLc
import Derived.Maps.RangeRun
set_option linter.unusedSimpArgs false
set_option linter.unusedVariables false
set_option linter.unusedSectionVars false
namespace Go.Av
open Go
variable [Globs]
/-- equations that are meant to hold by computation -/
inductive CT:Type 1 where
  | nil
  | bad
  | bb (a b:Bool)
  | nn (a b:Nat)
  | zz (a b:Int)
  | dd (a b:D)
  | ll (a b:List D)
  | vv (a b:AV)
  | ff (f g:Nat→List D)
  | mm (f g:Nat→Value × D)
  | ss (a b:List Nat)
  | po (a b:Option Prop)
  | td (a b:List Item)
  | qq (a b:List (Int × Int)→Prop)
  | tq (a b:Nat→(Nat→Value × D)→Prop)
  | rq (a b:(Nat→List D)→Prop)
  | two (a b:CT)
  | pi {β:Type} (f:β→CT)

def CT.ok:CT→Prop
  | .nil=>True
  | .bad=>False
  | .bb a b=>a=b
  | .nn a b=>a=b
  | .zz a b=>a=b
  | .dd a b=>a=b
  | .ll a b=>a=b
  | .vv a b=>a=b
  | .ff f g=>f=g
  | .mm f g=>f=g
  | .ss a b=>a=b
  | .po a b=>a=b
  | .td a b=>a=b
  | .qq a b=>a=b
  | .tq a b=>a=b
  | .rq a b=>a=b
  | .two a b=>a.ok∧b.ok
  | .pi f=>∀ b,(f b).ok

def CT.diag:CT→CT
  | .nil=>.nil
  | .bad=>.nil
  | .bb _ b=>.bb b b
  | .nn _ b=>.nn b b
  | .zz _ b=>.zz b b
  | .dd _ b=>.dd b b
  | .ll _ b=>.ll b b
  | .vv _ b=>.vv b b
  | .ff _ g=>.ff g g
  | .mm _ g=>.mm g g
  | .ss _ b=>.ss b b
  | .po _ b=>.po b b
  | .td _ b=>.td b b
  | .qq _ b=>.qq b b
  | .tq _ b=>.tq b b
  | .rq _ b=>.rq b b
  | .two a b=>.two a.diag b.diag
  | .pi f=>.pi fun b=>(f b).diag

theorem CT.ok_of:∀ {t:CT},t=t.diag→t.ok
  | .nil,_=>trivial
  | .bad,h=>by cases h
  | .bb a b,h=>by simpa [CT.diag,CT.ok] using h
  | .nn a b,h=>by simpa [CT.diag,CT.ok] using h
  | .zz a b,h=>by simpa [CT.diag,CT.ok] using h
  | .dd a b,h=>by simpa [CT.diag,CT.ok] using h
  | .ll a b,h=>by simpa [CT.diag,CT.ok] using h
  | .vv a b,h=>by simpa [CT.diag,CT.ok] using h
  | .ff a b,h=>by simpa [CT.diag,CT.ok] using h
  | .mm a b,h=>by simpa [CT.diag,CT.ok] using h
  | .ss a b,h=>by simpa [CT.diag,CT.ok] using h
  | .po a b,h=>by simp only [CT.diag,CT.po.injEq] at h; exact h.1
  | .td a b,h=>by simpa [CT.diag,CT.ok] using h
  | .qq a b,h=>by simpa [CT.diag,CT.ok] using h
  | .tq a b,h=>by simpa [CT.diag,CT.ok] using h
  | .rq a b,h=>by simpa [CT.diag,CT.ok] using h
  | .two a b,h=>by
    simp only [CT.diag,CT.two.injEq] at h
    exact ⟨CT.ok_of h.1,CT.ok_of h.2⟩
  | .pi f,h=>by
    simp only [CT.diag] at h
    have h1:f=fun b=>(f b).diag:=by injection h
    exact fun b=>CT.ok_of (congrFun h1 b)

def Ob.eqs:Ob→CT
  | .tt=>.nil
  | .pr _=>.nil
  | .be a b=>.bb a b
  | .ne a b=>.nn a b
  | .ze a b=>.zz a b
  | .fe f g=>.ff f g
  | .me f g=>.mm f g
  | .ve a b=>.vv a b
  | .two a b=>.two a.eqs b.eqs
  | .wh _ _ a=>a.eqs

def andO:Option Prop→Option Prop→Option Prop
  | none,x=>x
  | x,none=>x
  | some p,some q=>some (p∧q)

def Ob.prop:Ob→Option Prop
  | .pr p=>some p
  | .two a b=>andO a.prop b.prop
  | .wh e w a=>(match a.prop with | none=>none | some p=>some (e=w→p))
  | _=>none

theorem andO_of {x y:Option Prop} (h:∀ p,andO x y=some p→p):(∀ p,x=some p→p)∧∀ p,y=some p→p:=by
  cases x with
  | none=>exact ⟨fun p hp=>(by cases hp),fun p hp=>h p (by simpa [andO] using hp)⟩
  | some a =>
    cases y with
    | none=>exact ⟨fun p hp=>h p (by simpa [andO] using hp),fun p hp=>(by cases hp)⟩
    | some b =>
      have:=h (a∧b) rfl
      exact ⟨fun p hp=>(by cases hp; exact this.1),fun p hp=>(by cases hp; exact this.2)⟩

theorem Ob.den_of:∀ {ob:Ob},ob.eqs.ok→(∀ p,ob.prop=some p→p)→ob.den
  | .tt,_,_=>trivial
  | .pr p,_,h=>h p rfl
  | .be _ _,h,_=>h
  | .ne _ _,h,_=>h
  | .ze _ _,h,_=>h
  | .fe _ _,h,_=>h
  | .me _ _,h,_=>h
  | .ve _ _,h,_=>h
  | .two a b,h,hp=>⟨Ob.den_of h.1 (andO_of hp).1,Ob.den_of h.2 (andO_of hp).2⟩
  | .wh e w a,h,hp=>fun he=>Ob.den_of h (fun p hq=>hp (e=w→p) (by simp [Ob.prop,hq]) he)

def noProp (ob:Ob):CT:=match ob.prop with | none=>ob.eqs | some _=>.bad

theorem noProp_den {ob:Ob} (h:(noProp ob).ok):ob.den:=by
  unfold noProp at h
  split at h
  · rename_i hn
    exact Ob.den_of h (fun p hp=>by rw [hn] at hp; cases hp)
  · exact h.elim

/-! comparing states -/

def cEq:D→D→CT
  | .v (.slice none 0 0),.sl n _=>.nn n 0
  | x,y=>.dd x y

def dsEq:List D→List D→CT
  | [],[]=>.nil
  | c :: cs,d :: ds=>.two (cEq c d) (dsEq cs ds)
  | _,_=>.bad

def dEq:D→D→CT
  | .agg cs,.agg ds=>dsEq cs ds
  | x,y=>cEq x y

theorem cEq_le {x y:D} (h:(cEq x y).ok):DLe x y:=by
  unfold cEq at h
  split at h
  · have h:_=0:=h
    subst h
    exact DLe.nil _
  · exact DLe.of_eq h

theorem dsEq_le:∀ {cs ds:List D},(dsEq cs ds).ok→cs.length=ds.length∧∀ i,i < cs.length→DLe (cs.getD i default) (ds.getD i default)
  | [],[],_=>⟨rfl,fun i hi=>absurd hi (by simp)⟩
  | c :: cs,d :: ds,h=>by
    obtain ⟨h1,h2⟩:=dsEq_le h.2
    refine ⟨by simp [h1],fun i hi=>?_⟩
    cases i with
    | zero=>simpa using cEq_le h.1
    | succ i=>simpa using h2 i (by simpa using hi)
  | [],_ :: _,h=>h.elim
  | _ :: _,[],h=>h.elim

theorem dEq_le {x y:D} (h:(dEq x y).ok):DLe x y:=by
  unfold dEq at h
  split at h
  · exact DLe.agg (dsEq_le h).1 (dsEq_le h).2
  · exact cEq_le h

mutual
def avEq (ρ:Ren):AV→AV→CT
  | _,.any=>.nil
  | .d x,.d y=>dEq x y
  | .own κ n,.own κ' n'=>.two (.bb (keyOK ρ κ' κ) true) (.nn n n')
  | .d (.v (.slice none 0 0)),.own κ' n'=>.two (.bb (nilOK ρ κ') true) (.nn n' 0)
  | .ptr κ o,.ptr κ' o'=>.bb (keyOK ρ κ' κ&&Nat.beq o o') true
  | .ref cs,.ref cs'=>.ll cs cs'
  | .fn f l,.fn f' l'=>.two (.bb (Nat.beq f f') true) (avEqL ρ l l')
  | .tup l,.tup l'=>avEqL ρ l l'
  | .ag l,.ag l'=>avEqL ρ l l'
  | .mpv κ,.mpv κ'=>.bb (keyOK ρ κ' κ) true
  | .pmp n f,.pmp n' f'=>.two (.nn n n') (.mm f f')
  | .nns n f,.nns n' f'=>.two (.nn n n') (.ff f f')
  | .nns n f,.d (.sl n' f')=>.two (.nn n n') (.ff f f')
  | .elt κ k i o,.elt κ' k' i' o'=>.two (.bb (keyOK ρ κ' κ&&Nat.beq k k'&&Nat.beq o o') true) (.nn i i')
  | _,_=>.bad
def avEqL (ρ:Ren):List AV→List AV→CT
  | [],[]=>.nil
  | x :: r,y :: s=>.two (avEq ρ x y) (avEqL ρ r s)
  | _,_=>.bad
end

def blEq (ρ:Ren):Blk→Blk→CT
  | .box cs,.box cs'=>avEqL ρ cs cs'
  | .row e k n f,.row e' k' n' f'=>.two (.bb (Nat.beq e e'&&Nat.beq k k') true) (.two (.nn n n') (.ff f f'))
  | .mp n f,.mp n' f'=>.two (.nn n n') (.mm f f')
  | .mp n f,.ml n' f'=>.two (.nn n n') (.mm f f')
  | .ml n f,.ml n' f'=>.two (.nn n n') (.mm f f')
  | .it mk n s,.it mk' n' s'=>.two (.bb (keyOK ρ mk' mk) true) (.two (.nn n n') (.ss s s'))
  | .mx q,.mx q'=>.qq q q'
  | .tx q,.tx q'=>.tq q q'
  | .rx e k n q,.rx e' k' n' q'=>.two (.bb (Nat.beq e e'&&Nat.beq k k') true) (.two (.nn n n') (.rq q q'))
  | _,_=>.bad

def slEq (ρ:Ren) (sl:List (Nat × AV)):List (Nat × AV)→CT
  | []=>.nil
  | (t,x) :: r=>.two (avEq ρ (St.get sl t) x) (slEq ρ sl r)

def lbEq (ρ:Ren) (lb:List (Nat × Blk)):List (Nat × Blk)→CT
  | []=>.nil
  | (κ,b) :: r=>(match look ρ κ with
    | some (some o)=>(match look lb o with | some c=>.two (blEq ρ c b) (lbEq ρ lb r) | none=>.bad)
    | some none=>(match b with | .row _ _ n _=>.two (.nn n 0) (lbEq ρ lb r) | _=>.bad)
    | none=>.bad)

mutual
theorem avEq_le {ρ:Ren}:∀ (x y:AV),(avEq ρ x y).ok→∃ p,avLe ρ x y=some p∧p
  | x,y,h=>by
    unfold avEq at h
    split at h
    · exact ⟨True,by unfold avLe; rfl,trivial⟩
    · exact ⟨_,by unfold avLe; rfl,dEq_le h⟩
    · obtain ⟨h1,h2⟩:=h
      have h1:keyOK ρ _ _=true:=h1
      exact ⟨_,by unfold avLe; rw [h1]; rfl,h2⟩
    · obtain ⟨h1,h2⟩:=h
      have h1:nilOK ρ _=true:=h1
      exact ⟨_=0,by simp [avLe,h1],h2⟩
    · have h:(keyOK ρ _ _&&Nat.beq _ _)=true:=h
      exact ⟨True,by unfold avLe; rw [h]; rfl,trivial⟩
    · exact ⟨_,by unfold avLe; rfl,h⟩
    · rename_i f l f' l'
      obtain ⟨h1,h2⟩:=h
      have h1:Nat.beq f f'=true:=h1
      obtain ⟨p,hp,hq⟩:=avEqL_le l l' h2
      exact ⟨p,by unfold avLe; rw [h1]; exact hp,hq⟩
    · rename_i l l'
      obtain ⟨p,hp,hq⟩:=avEqL_le l l' h
      exact ⟨p,by unfold avLe; exact hp,hq⟩
    · rename_i l l'
      obtain ⟨p,hp,hq⟩:=avEqL_le l l' h
      exact ⟨p,by unfold avLe; exact hp,hq⟩
    · have h:keyOK ρ _ _=true:=h
      exact ⟨True,by unfold avLe; rw [h]; rfl,trivial⟩
    · rename_i n f n' f'
      exact ⟨n=n'∧f=f',by unfold avLe; rfl,h.1,h.2⟩
    · rename_i n f n' f'
      exact ⟨n=n'∧f=f',by unfold avLe; rfl,h.1,h.2⟩
    · rename_i n f n' f'
      exact ⟨n=n'∧f=f',by unfold avLe; rfl,h.1,h.2⟩
    · rename_i κ k i o κ' k' i' o'
      obtain ⟨h1,h2⟩:=h
      have h1:(keyOK ρ κ' κ&&Nat.beq k k'&&Nat.beq o o')=true:=h1
      exact ⟨i=i',by unfold avLe; rw [h1]; rfl,h2⟩
    · exact h.elim
theorem avEqL_le {ρ:Ren}:∀ (x y:List AV),(avEqL ρ x y).ok→∃ p,avLeL ρ x y=some p∧p
  | [],[],_=>⟨True,by unfold avLeL; rfl,trivial⟩
  | x :: r,y :: s,h=>by
    unfold avEqL at h
    obtain ⟨p,h1,h2⟩:=avEq_le x y h.1
    obtain ⟨q,h3,h4⟩:=avEqL_le r s h.2
    exact ⟨p∧q,by unfold avLeL; rw [h1,h3],h2,h4⟩
  | [],_ :: _,h=>by unfold avEqL at h; exact h.elim
  | _ :: _,[],h=>by unfold avEqL at h; exact h.elim
end

theorem blEq_le {ρ:Ren} {b c:Blk} (h:(blEq ρ b c).ok):∃ p,blLe ρ b c=some p∧p:=by
  unfold blEq at h
  split at h
  · rename_i cs cs'
    obtain ⟨p,h1,h2⟩:=avEqL_le cs cs' h
    exact ⟨p,h1,h2⟩
  · rename_i e k n f e' k' n' f'
    obtain ⟨h1,h2,h3⟩:=h
    have h1:(Nat.beq e e'&&Nat.beq k k')=true:=h1
    have h3:f=f':=h3
    exact ⟨n=n'∧∀ i,i < n→f i=f' i,by unfold blLe; dsimp only; rw [h1]; rfl,h2,fun i _=>by rw [h3]⟩
  · rename_i n f n' f'
    exact ⟨n=n'∧f=f',rfl,h.1,h.2⟩
  · rename_i n f n' f'
    exact ⟨n=n'∧f=f',rfl,h.1,h.2⟩
  · rename_i n f n' f'
    exact ⟨n=n'∧f=f',rfl,h.1,h.2⟩
  · rename_i mk n s mk' n' s'
    obtain ⟨h1,h2,h3⟩:=h
    have h1:keyOK ρ mk' mk=true:=h1
    exact ⟨n=n'∧s=s',by unfold blLe; dsimp only; rw [h1]; rfl,h2,h3⟩
  · rename_i q q'
    exact ⟨q=q',rfl,h⟩
  · rename_i q q'
    exact ⟨q=q',rfl,h⟩
  · rename_i e k n q e' k' n' q'
    obtain ⟨h1,h2,h3⟩:=h
    have h1:(Nat.beq e e'&&Nat.beq k k')=true:=h1
    exact ⟨n=n'∧q=q',by unfold blLe; dsimp only; rw [h1]; rfl,h2,h3⟩
  · exact h.elim

theorem slEq_le {ρ:Ren} {sl:List (Nat × AV)}:∀ {l:List (Nat × AV)},(slEq ρ sl l).ok→∃ p,slLe ρ sl l=some p∧p
  | [],_=>⟨True,rfl,trivial⟩
  | (t,x) :: r,h=>by
    obtain ⟨p,h1,h2⟩:=avEq_le _ _ h.1
    obtain ⟨q,h3,h4⟩:=slEq_le h.2
    exact ⟨p∧q,by unfold slLe; rw [h1,h3],h2,h4⟩

theorem lbEq_le {ρ:Ren} {lb:List (Nat × Blk)}:∀ {l:List (Nat × Blk)},(lbEq ρ lb l).ok→∃ p,lbLe ρ lb l=some p∧p
  | [],_=>⟨True,rfl,trivial⟩
  | (κ,b) :: r,h=>by
    unfold lbEq at h
    split at h
    · rename_i o ho
      split at h
      · rename_i c hc
        obtain ⟨p,h1,h2⟩:=blEq_le h.1
        obtain ⟨q,h3,h4⟩:=lbEq_le h.2
        exact ⟨p∧q,by unfold lbLe; rw [ho,h3]; simp only [hc,h1],h2,h4⟩
      · exact h.elim
    · rename_i ho
      split at h
      · obtain ⟨q,h3,h4⟩:=lbEq_le h.2
        exact ⟨_∧q,by unfold lbLe; rw [ho,h3]; rfl,h.1,h4⟩
      · exact h.elim
    · exact h.elim

/-- which key of the second state stands for which of the first -/
def addRen (κ:Nat) (o:Option Nat) (ρ:Ren):Ren:=match look ρ κ with | some _=>ρ | none=>(κ,o) :: ρ

mutual
def renAV:AV→AV→Ren→Ren
  | .own κ _,.own κ' _,ρ=>addRen κ' (some κ) ρ
  | .d _,.own κ' _,ρ=>addRen κ' none ρ
  | .ptr κ _,.ptr κ' _,ρ=>addRen κ' (some κ) ρ
  | .mpv κ,.mpv κ',ρ=>addRen κ' (some κ) ρ
  | .elt κ _ _ _,.elt κ' _ _ _,ρ=>addRen κ' (some κ) ρ
  | .fn _ l,.fn _ l',ρ=>renAVL l l' ρ
  | .tup l,.tup l',ρ=>renAVL l l' ρ
  | .ag l,.ag l',ρ=>renAVL l l' ρ
  | _,_,ρ=>ρ
def renAVL:List AV→List AV→Ren→Ren
  | x :: r,y :: s,ρ=>renAVL r s (renAV x y ρ)
  | _,_,ρ=>ρ
end

def renSl (sl:List (Nat × AV)):List (Nat × AV)→Ren→Ren
  | [],ρ=>ρ
  | (t,x) :: r,ρ=>renSl sl r (renAV (St.get sl t) x ρ)

def renLb (lb:List (Nat × Blk)):List (Nat × Blk)→Ren→Ren
  | [],ρ=>ρ
  | (κ,b) :: r,ρ=>renLb lb r (match look ρ κ with
    | some (some o)=>(match look lb o,b with | some (.box cs),.box cs'=>renAVL cs cs' ρ | some (.it m _ _),.it m' _ _=>addRen m' (some m) ρ | _,_=>ρ)
    | _=>ρ)

def renOf (st st':St):Ren:=renLb st.lb st'.lb (renLb st.lb st'.lb (renSl st.sl st'.sl []))

def leSt (st st':St):CT:=.two (.bb (injB (renOf st st')) true) (.two (slEq (renOf st st') st.sl st'.sl) (lbEq (renOf st st') st.lb st'.lb))

theorem leSt_le {st st':St} (h:(leSt st st').ok):LeS st st':=by
  obtain ⟨h1,h2,h3⟩:=h
  obtain ⟨p,q1,q2⟩:=slEq_le h2
  obtain ⟨p',q3,q4⟩:=lbEq_le h3
  exact LeS.of _ h1 q1 q2 q3 q4

/-! which slots are still read -/

def bitM (t:Nat):Nat:=Nat.shiftLeft 1 t

def operandM:Operand→Nat
  | .tmp t=>bitM t
  | _=>0

def operandsM:List Operand→Nat
  | []=>0
  | x :: r=>Nat.lor (operandM x) (operandsM r)

def opersM:List Oper→Nat
  | []=>0
  | o :: r=>Nat.lor (operandsM o.op.operands.toList) (opersM r)

def codeM:Code→Nat
  | .region _ ops _=>opersM ops.toList
  | .seq a b=>Nat.lor (codeM a) (codeM b)
  | .cond c a b=>Nat.lor (operandM c) (Nat.lor (codeM a) (codeM b))
  | .block _ c=>codeM c
  | .loop c=>codeM c
  | .scope c=>codeM c
  | .rangeFunc f _ a b=>Nat.lor (operandM f) (Nat.lor (codeM a) (codeM b))
  | _=>0

def todoM:List Item→Nat
  | []=>0
  | .code c :: r=>Nat.lor (codeM c) (todoM r)
  | .inLoop c :: r=>Nat.lor (codeM c) (todoM r)
  | _ :: r=>todoM r

def resM:List ResultVar→Nat
  | []=>0
  | .tmp t :: r=>Nat.lor (bitM t) (resM r)
  | .cell t _ :: r=>Nat.lor (bitM t) (resM r)

def hasBit (m t:Nat):Bool:=Nat.beq (Nat.land (Nat.shiftRight m t) 1) 1

def keepM (m:Nat):List (Nat × AV)→List (Nat × AV)
  | []=>[]
  | (t,x) :: r=>bif hasBit m t then (t,x) :: keepM m r else keepM m r

theorem keepM_look (m:Nat):∀ (l:List (Nat × AV)) (t:Nat),look (keepM m l) t=bif hasBit m t then look l t else none
  | [],t=>by cases hasBit m t <;> rfl
  | (k,x) :: r,t=>by
    have ih:=keepM_look m r t
    simp only [keepM]
    cases hk:hasBit m k with
    | true =>
      simp only [cond_true,look_cons]
      by_cases e:k=t
      · subst e; simp [hk]
      · simp only [e,if_false]; exact ih
    | false =>
      simp only [cond_false,look_cons]
      by_cases e:k=t
      · subst e; rw [ih,hk]; rfl
      · simp only [e,if_false]; exact ih

def St.keep (m:Nat) (st:St):St:=⟨keepM m st.sl,st.lb⟩

theorem LeS.keep (m:Nat) (st:St):LeS st (st.keep m):=by
  rintro C a w ⟨S,μ,hs⟩
  refine ⟨S,μ,fun ν=>(hs ν).weaken (fun t v hv=>?_) (fun κ b hb=>⟨b,hb,fun _ h=>h⟩)⟩
  simp only [St.toM,St.get,St.keep,keepM_look] at hv ⊢
  cases hasBit m t with
  | true=>exact hv
  | false=>exact .any _

def reach1 (lb:List (Nat × Blk)):List Nat→List Nat
  | []=>[]
  | k :: r=>(match look lb k with | some b=>b.keys++reach1 lb r | none=>reach1 lb r)

def slKeys:List (Nat × AV)→List Nat
  | []=>[]
  | (_,x) :: r=>x.keys++slKeys r

def keepKeys (ks:List Nat):List (Nat × Blk)→List (Nat × Blk)
  | []=>[]
  | (k,b) :: r=>bif ks.any (fun q=>Nat.beq q k) then (k,b) :: keepKeys ks r else keepKeys ks r

/-- slots and blocks that are told anew -/
structure Upd where
  sl:List (Nat × AV):=[]
  lb:List (Nat × Blk):=[]

def St.upd (st:St) (m:Nat) (u:Upd):St :=
  let sl:=u.sl++keepM m (delKeys (u.sl.map (·.1)) st.sl)
  let lb:=u.lb++delKeys (u.lb.map (·.1)) st.lb
  let k0:=slKeys sl
  let k1:=reach1 lb k0
  let k2:=reach1 lb k1
  ⟨sl,keepKeys (k0++k1++k2) lb⟩

/-! sketches -/

/-- what a region's calls and tests need: a value,the oracles,what is claimed -/
structure Cal (β:Type) where
  v:β
  orc:β→List Orc
  claim:β→Option Prop
  pre:Prop
  pf:pre→∀ p,claim v=some p→p
  post:β→Prop
  hp:post v

/-- what a call needs that may panic: its outcome; the oracles and what is claimed where it comes back; what is claimed where it panics -/
structure CalX (E β:Type) where
  v:Except E β
  f:FuncId
  hand:List Nat
  orc:β→List Orc
  claim:β→Option Prop
  pv:E→Value
  claimX:E→Option Prop
  pre:Prop
  pf:pre→∀ b,v=.ok b→∀ p,claim b=some p→p
  pfX:pre→∀ e,v=.error e→∀ p,claimX e=some p→p
  post:Except E β→Prop
  hp:post v

def exitOf {α γ:Type}:α ⊕ γ→Option α
  | .inl a=>some a
  | .inr _=>none
def leafE {α γ:Type} (L:α→Prop) (g:γ):α ⊕ γ→Prop
  | .inl a=>L a
  | .inr g'=>g'=g
theorem find_one {α:Type} {f:Nat→Option α} {a:α} {i n:Nat} (hi:i < n) (h:f i=some a) (hu:∀ j,j < n→j≠i→f j=none):(List.range n).findSome? f=some a:=by
  cases hf:(List.range n).findSome? f with
  | none =>
    rw [List.findSome?_eq_none_iff] at hf
    rw [hf i (List.mem_range.2 hi)] at h
    cases h
  | some b =>
    obtain ⟨j,hj,hb⟩:=List.exists_of_findSome?_eq_some hf
    by_cases hc:j=i
    · subst hc
      rw [h] at hb
      exact hb.symm
    · rw [hu j (List.mem_range.1 hj) hc] at hb
      cases hb
theorem find_no {α:Type} {f:Nat→Option α} {n:Nat} (h:∀ j,j < n→f j=none):(List.range n).findSome? f=none:=by
  rw [List.findSome?_eq_none_iff]
  exact fun j hj=>h j (List.mem_range.1 hj)
def okX {E β α:Type} (v:Except E β) (f:β→α) (err:E→α):α:=match v with | .ok b=>f b | .error e=>err e
def leafX {E β:Type} (v:Except E β) (K:β→Prop) (N:E→Prop):Prop:=match v with | .ok b=>K b | .error e=>N e

def iter {α ι:Type} (f:ι→α ⊕ ι) (d:α):Nat→ι→α
  | 0,_=>d
  | n+1,i=>match f i with | .inl a=>a | .inr j=>iter f d n j

def pickS {α β:Type}:α ⊕ β→(β→α)→α
  | .inl a,_=>a
  | .inr b,f=>f b
def leafB {α β:Type} (L:α→Prop) (J:β→Prop):α ⊕ β→Prop
  | .inl a=>L a
  | .inr b=>J b
def leafJ {α ι:Type} (L:α→Prop) (J:ι→Prop):α ⊕ ι→Prop
  | .inl a=>L a
  | .inr j=>J j

/-- an iterator: what it hands out -/
structure ItC (Y:Type) where
  P:Program
  gf:FuncId
  caps:List AV
  ys:List Y
  enc:Y→List AV
  pre:Prop
  pf:pre→ItA P gf caps (ys.map enc)

inductive Sk:Type→Type 1 where
  | fin {α:Type} (a:α):Sk α
  | br {α:Type} (e:Bool) (x y:Sk α):Sk α
  | r {α β:Type} (id:Nat) (c:Cal β) (k:β→Sk α):Sk α
  | wi {α:Type} (t:Nat) (m n:Int) (k:Sk α):Sk α
  | wn {α:Type} (κ n n':Nat) (k:Sk α):Sk α
  | wr {α:Type} (κ n n':Nat) (k:Sk α):Sk α
  | brt {α:Type} (k:Sk α):Sk α
  | brf {α:Type} (k:Sk α):Sk α
  | dead {α:Type} (a:α):Sk α
  | bnd {α:Type} (t j n:Nat) (k:Sk α):Sk α
  | cas {α:Type} (t:Nat) (c:Bool) (x y:AV) (k1 k2:Sk α):Sk α
  | nsp {α:Type} (t n:Nat) (k1 k2:Sk α):Sk α
  | fz {α:Type} (κ:Nat) (k:Sk α):Sk α
  | op {α:Type} (κ:Nat) (k:List (Int × Int)→Sk α):Sk α
  | cl {α:Type} (κ:Nat) (m:List (Int × Int)) (k:Sk α):Sk α
  | oq {α:Type} (κ:Nat) (q:List (Int × Int)→Prop) (k:List (Int × Int)→Sk α):Sk α
  | cq {α:Type} (κ:Nat) (m:List (Int × Int)) (q:List (Int × Int)→Prop) (k:Sk α):Sk α
  | ot {α Y:Type} (κ:Nat) (Q:Y→Prop) (ln:Y→Nat) (en:Y→Nat→Value × D) (d:Y) (k:Y→Sk α):Sk α
  | ct {α Y:Type} (κ:Nat) (Q:Y→Prop) (ln:Y→Nat) (en:Y→Nat→Value × D) (y:Y) (k:Sk α):Sk α
  | orr {α Y:Type} (κ:Nat) (Q:Y→Prop) (en:Y→Nat→List D) (d:Y) (k:Y→Sk α):Sk α
  | cr {α Y:Type} (κ n:Nat) (Q:Y→Prop) (en:Y→Nat→List D) (y:Y) (k:Sk α):Sk α
  | fm {α:Type} (κ:Nat) (k:Sk α):Sk α
  | fb {α:Type} (κ:Nat) (k:Sk α):Sk α
  | up {α:Type} (u:Upd) (k:Sk α):Sk α
  | nr {α:Type} (t κ e q:Nat) (f:Nat→List D) (k:Sk α):Sk α
  | clr {α:Type} (id:Nat) (x:Int) (c:NormC) (k:Sk α):Sk α
  | mr {α γ:Type} (n:Nat) (V:List Nat→γ→Prop) (init:γ) (u:γ→List Nat→Upd) (v:γ→Upd) (b:γ→Nat→Sk γ) (k:γ→Sk α):Sk α
  | bind {α β:Type} (blk:Bool) (J:β→Prop) (s:Sk (α ⊕ β)) (u:β→Upd) (k:β→Sk α):Sk α
  | loop {α ι:Type} (d:α) (I:ι→Prop) (m:ι→Nat) (i0:ι) (u:ι→Upd) (b:ι→Sk (α ⊕ ι)):Sk α
  | me {α γ:Type} (n:Nat) (g:γ) (u:γ→List Nat→Upd) (v:γ→Upd) (b:Nat→Sk (α ⊕ γ)) (k:Sk α):Sk α
  | pn {α:Type} (id:Nat) (c:Cal Unit) (a:α):Sk α
  | rx {α γ E β δ:Type} (id:Nat) (a:Cal γ) (c:γ→CalX E β) (z:γ→β→Cal δ) (err:E→α) (k:γ→β→δ→Sk α):Sk α
  | rf {α σ β Y:Type} (it:ItC Y) (I:Nat→σ→Prop) (B:β→Prop) (id:Nat) (s0:σ) (u:σ→List (Nat × Blk)) (v:β→List (Nat × Blk)) (b:σ→Y→Sk (β ⊕ σ)) (k:β ⊕ σ→Sk α):Sk α

abbrev Sk.bt {α β:Type} (s:Sk (α ⊕ β)) (u:β→Upd) (k:β→Sk α):Sk α:=.bind true (fun _=>True) s u k
abbrev Sk.lt {α:Type} (t j i n:Nat) (x y:Sk α):Sk α:=.bnd t j n (.br (decide ((i:Int) < (n:Int))) x y)

/-- some list that has a property,if there is one -/
noncomputable def canon (q:List (Int × Int)→Prop):List (Int × Int):=open Classical in if h:∃ m,q m then h.choose else []
theorem canon_spec {q:List (Int × Int)→Prop} (h:∃ m,q m):q (canon q):=by
  unfold canon
  rw [dif_pos h]
  exact h.choose_spec
noncomputable def canonY {Y:Type} (Q:Y→Prop) (d:Y):Y:=open Classical in if h:∃ y,Q y then h.choose else d
theorem canonY_spec {Y:Type} {Q:Y→Prop} {d:Y} (h:∃ y,Q y):Q (canonY Q d):=by
  unfold canonY
  rw [dif_pos h]
  exact h.choose_spec
/-- told contents: of a map,of a row -/
def txQ {Y:Type} (Q:Y→Prop) (ln:Y→Nat) (en:Y→Nat→Value × D):Nat→(Nat→Value × D)→Prop:=fun n f=>∃ y,Q y∧n=ln y∧f=en y
def rxQ {Y:Type} (Q:Y→Prop) (en:Y→Nat→List D):(Nat→List D)→Prop:=fun f=>∃ y,Q y∧f=en y
abbrev mxT:List (Int × Int)→Prop:=fun _=>True

noncomputable def Sk.val:{α:Type}→Sk α→α
  | _,.fin a=>a
  | _,.br e x y=>bif e then x.val else y.val
  | _,.r _ c k=>(k c.v).val
  | _,.wi _ _ _ k=>k.val
  | _,.wn _ _ _ k=>k.val
  | _,.wr _ _ _ k=>k.val
  | _,.brt k=>k.val
  | _,.brf k=>k.val
  | _,.dead a=>a
  | _,.bnd _ _ _ k=>k.val
  | _,.cas _ c _ _ x y=>bif c then x.val else y.val
  | _,.nsp _ _ _ k=>k.val
  | _,.fz _ k=>k.val
  | _,.op _ k=>(k []).val
  | _,.cl _ _ k=>k.val
  | _,.oq _ q k=>(k (canon q)).val
  | _,.cq _ _ _ k=>k.val
  | _,.ot _ Q _ _ d k=>(k (canonY Q d)).val
  | _,.ct _ _ _ _ _ k=>k.val
  | _,.orr _ Q _ d k=>(k (canonY Q d)).val
  | _,.cr _ _ _ _ _ k=>k.val
  | _,.fm _ k=>k.val
  | _,.fb _ k=>k.val
  | _,.up _ k=>k.val
  | _,.nr _ _ _ _ _ k=>k.val
  | _,.clr _ _ _ k=>k.val
  | _,.mr n _ init _ _ b k=>(k ((List.range n).foldr (fun i g=>(b g i).val) init)).val
  | _,.bind _ _ s _ k=>pickS s.val fun b=>(k b).val
  | _,.loop d _ m i0 _ b=>iter (fun i=>(b i).val) d (m i0+1) i0
  | _,.me n _ _ _ b k=>((List.range n).findSome? fun i=>exitOf (b i).val).getD k.val
  | _,.pn _ _ a=>a
  | _,.rx _ a c z err k=>okX (c a.v).v (fun b=>(k a.v b (z a.v b).v).val) err
  | _,.rf it _ _ _ s0 _ _ b k=>(k (runY (fun s y=>(b s y).val) it.ys s0)).val

/-- what holds of the value,obligations apart -/
def Sk.pst:{α:Type}→Sk α→(α→Prop)→Prop
  | _,.fin a,L=>L a
  | _,.br e x y,L=>(e=true→x.pst L)∧(e=false→y.pst L)
  | _,.r _ c k,L=>∀ x,x=c.v→c.post x→(k x).pst L
  | _,.wi _ _ _ k,L=>k.pst L
  | _,.wn _ _ _ k,L=>k.pst L
  | _,.wr _ _ _ k,L=>k.pst L
  | _,.brt k,L=>k.pst L
  | _,.brf k,L=>k.pst L
  | _,.dead a,L=>L a
  | _,.bnd _ _ _ k,L=>k.pst L
  | _,.cas _ c _ _ x y,L=>(c=true→x.pst L)∧(c=false→y.pst L)
  | _,.nsp _ _ _ k,L=>k.pst L
  | _,.fz _ k,L=>k.pst L
  | _,.op _ k,L=>(k []).pst L
  | _,.cl _ _ k,L=>k.pst L
  | _,.oq _ q k,L=>(∃ m,q m)∧∀ m,q m→(k m).pst L
  | _,.cq _ _ _ k,L=>k.pst L
  | _,.ot _ Q _ _ _ k,L=>(∃ m,Q m)∧∀ m,Q m→(k m).pst L
  | _,.ct _ _ _ _ _ k,L=>k.pst L
  | _,.orr _ Q _ _ k,L=>(∃ m,Q m)∧∀ m,Q m→(k m).pst L
  | _,.cr _ _ _ _ _ k,L=>k.pst L
  | _,.fm _ k,L=>k.pst L
  | _,.fb _ k,L=>k.pst L
  | _,.up _ k,L=>k.pst L
  | _,.nr _ _ _ _ _ k,L=>k.pst L
  | _,.clr _ _ _ k,L=>k.pst L
  | _,.mr n V init _ _ b k,L=>V [] init∧(∀ s g i,V s g→i < n→i ∉ s→(b g i).pst (V (i :: s)))∧∀ g,g=(List.range n).foldr (fun i g=>(b g i).val) init→V (List.range n) g→(k g).pst L
  | _,.bind _ J s _ k,L=>s.pst (leafB L J)∧∀ b,s.val=.inr b→J b→(k b).pst L
  | _,.loop _ I m i0 _ b,L=>I i0∧∀ i,I i→(b i).pst (leafJ L fun j=>I j∧m j < m i)
  | _,.me n g _ _ b k,L=>(∀ i,i < n→(b i).pst (leafE L g))∧((∀ i,i < n→exitOf (b i).val=none)→k.pst L)
  | _,.pn _ _ a,L=>L a
  | _,.rx _ a c z err k,L=>∀ x,x=a.v→a.post x→∀ y,y=(c x).v→(c x).post y→leafX y (fun b=>∀ d,d=(z x b).v→(z x b).post d→(k x b d).pst L) fun e=>L (err e)
  | _,.rf it I B _ s0 _ _ b k,L=>I 0 s0∧(∀ i s y,I i s→it.ys[i]? = some y→(b s y).pst (leafJ B (I (i+1))))∧∀ r,r=runY (fun s y=>(b s y).val) it.ys s0→leafJ B (I it.ys.length) r→(k r).pst L

def Sk.obs:{α:Type}→Sk α→(α→Prop)→Prop
  | _,.fin a,L=>L a
  | _,.br e x y,L=>(e=true→x.obs L)∧(e=false→y.obs L)
  | _,.r _ c k,L=>c.pre∧∀ x,x=c.v→c.post x→(k x).obs L
  | _,.wi _ m n k,L=>m=n∧k.obs L
  | _,.wn _ n n' k,L=>n=n'∧k.obs L
  | _,.wr _ n n' k,L=>n=n'∧k.obs L
  | _,.brt k,L=>k.obs L
  | _,.brf k,L=>k.obs L
  | _,.dead _,_=>False
  | _,.bnd _ _ n k,L=>n≤maxLen→k.obs L
  | _,.cas _ c _ _ x y,L=>(c=true→x.obs L)∧(c=false→y.obs L)
  | _,.nsp _ n k1 k2,L=>(n=0→k1.obs L∧k1.val=k2.val)∧k2.obs L
  | _,.fz _ k,L=>k.obs L
  | _,.op _ k,L=>∀ m,(k m).val=(k []).val∧(k m).obs L
  | _,.cl _ _ k,L=>k.obs L
  | _,.oq _ q k,L=>∀ m,q m→(k m).val=(k (canon q)).val∧(k m).obs L
  | _,.cq _ m q k,L=>q m∧k.obs L
  | _,.ot _ Q _ _ d k,L=>∀ m,Q m→(k m).val=(k (canonY Q d)).val∧(k m).obs L
  | _,.ct _ Q _ _ y k,L=>Q y∧k.obs L
  | _,.orr _ Q _ d k,L=>∀ m,Q m→(k m).val=(k (canonY Q d)).val∧(k m).obs L
  | _,.cr _ _ Q _ y k,L=>Q y∧k.obs L
  | _,.fm _ k,L=>k.obs L
  | _,.fb _ k,L=>k.obs L
  | _,.up _ k,L=>k.obs L
  | _,.nr _ _ _ _ _ k,L=>k.obs L
  | _,.clr _ x c k,L=>(0≤x∧x≤(c.n:Int))∧k.obs L
  | _,.mr n V init _ _ b k,L=>V [] init∧(∀ s g i,V s g→i < n→i ∉ s→(b g i).pst (V (i :: s))∧(b g i).obs fun _=>True)∧(∀ s g i j,V s g→i < n→j < n→i≠j→i ∉ s→j ∉ s→(b (b g j).val i).val=(b (b g i).val j).val)∧∀ g,g=(List.range n).foldr (fun i g=>(b g i).val) init→V (List.range n) g→(k g).obs L
  | _,.bind _ J s _ k,L=>s.obs (leafB L J)∧∀ b,s.val=.inr b→J b→(k b).obs L
  | _,.loop _ I m i0 _ b,L=>I i0∧∀ i,I i→(b i).obs (leafJ L fun j=>I j∧m j < m i)
  | _,.me n g _ _ b k,L=>(∀ i,i < n→(b i).obs (leafE L g))∧(∀ i j,i < n→j < n→i≠j→exitOf (b i).val=none∨exitOf (b j).val=none)∧((∀ i,i < n→exitOf (b i).val=none)→k.obs L)
  | _,.pn _ c a,L=>c.pre∧L a
  | _,.rx _ a c z err k,L=>a.pre∧∀ x,x=a.v→a.post x→(c x).pre∧∀ y,y=(c x).v→(c x).post y→leafX y (fun b=>(z x b).pre∧∀ d,d=(z x b).v→(z x b).post d→(k x b d).obs L) fun e=>L (err e)
  | _,.rf it I B _ s0 _ _ b k,L=>it.pre∧I 0 s0∧(∀ i s y,I i s→it.ys[i]? = some y→(b s y).pst (leafJ B (I (i+1)))∧(b s y).obs (leafJ B (I (i+1))))∧∀ r,r=runY (fun s y=>(b s y).val) it.ys s0→leafJ B (I it.ys.length) r→(k r).obs L

theorem leafJ_run {σ β Y:Type} {f:σ→Y→β ⊕ σ} {I:Nat→σ→Prop} {B:β→Prop} (l:List Y) (h:∀ i s y,I i s→l[i]? = some y→leafJ B (I (i+1)) (f s y)) (s:σ) (hs:I 0 s):leafJ B (I l.length) (runY f l s):=by
  have:=runY_postI (f:=f) (I:=I) (B:=B) l 0 (fun i s y hs hy=>by
    rw [Nat.zero_add] at hs ⊢
    have:=h i s y hs hy
    cases e:f s y <;> rw [e] at this <;> exact this) s hs
  rw [Nat.zero_add] at this
  cases e:runY f l s <;> rw [e] at this <;> exact this

theorem foldr_inv {γ:Type} {V:List Nat→γ→Prop} {f:γ→Nat→γ} {n:Nat} (hf:∀ s g i,V s g→i < n→i ∉ s→V (i :: s) (f g i)) {init:γ} (h0:V [] init):∀ (s:List Nat),s.Nodup→(∀ i,i∈s→i < n)→V s (s.foldr (fun i g=>f g i) init)
  | [],_,_=>h0
  | i :: s,hd,h=>hf s _ i (foldr_inv hf h0 s (List.nodup_cons.1 hd).2 (fun j hj=>h j (List.mem_cons_of_mem _ hj))) (h i List.mem_cons_self) (List.nodup_cons.1 hd).1

theorem foldr_comm {γ:Type} {V:List Nat→γ→Prop} {f:γ→Nat→γ} {n:Nat} (hf:∀ s g i,V s g→i < n→i ∉ s→V (i :: s) (f g i)) (hc:∀ s g i j,V s g→i < n→j < n→i≠j→i ∉ s→j ∉ s→f (f g j) i=f (f g i) j) {init:γ} (h0:V [] init) {s t:List Nat} (h:s.Perm t) :
    s.Nodup→(∀ i,i∈s→i < n)→s.foldr (fun i g=>f g i) init=t.foldr (fun i g=>f g i) init:=by
  induction h with
  | nil=>intro _ _; rfl
  | cons x _ ih=>intro hd hs; simp only [List.foldr_cons]; rw [ih (List.nodup_cons.1 hd).2 (fun i hi=>hs i (List.mem_cons_of_mem _ hi))]
  | swap x y l =>
    intro hd hs
    simp only [List.foldr_cons]
    have h1:=List.nodup_cons.1 hd
    have h2:=List.nodup_cons.1 h1.2
    have hxy:y≠x:=fun e=>h1.1 (e ▸ List.mem_cons_self)
    exact hc l _ y x (foldr_inv hf h0 l h2.2 (fun i hi=>hs i (by simp [hi]))) (hs y (by simp)) (hs x (by simp)) hxy (fun e=>h1.1 (List.mem_cons_of_mem _ e)) h2.1
  | trans h1 _ ih1 ih2=>intro hd hs; rw [ih1 hd hs,ih2 (h1.nodup_iff.1 hd) (fun i hi=>hs i (h1.mem_iff.2 hi))]

theorem iter_post {α ι:Type} {f:ι→α ⊕ ι} {d:α} {L:α→Prop} {I:ι→Prop} {m:ι→Nat} (h:∀ i,I i→leafJ L (fun j=>I j∧m j < m i) (f i)):∀ (n:Nat) (i:ι),I i→m i < n→L (iter f d n i)
  | 0,i,_,hn=>absurd hn (by omega)
  | n+1,i,hi,hn=>by
    have:=h i hi
    simp only [iter]
    cases hf:f i with
    | inl a=>rw [hf] at this; exact this
    | inr j=>rw [hf] at this; exact iter_post h n j this.1 (by have:=this.2; omega)

theorem Sk.pval:{α:Type}→(s:Sk α)→{L:α→Prop}→s.pst L→L s.val
  | _,.fin a,_,h=>h
  | _,.br e x y,L,h=>by
    cases e with
    | true=>exact x.pval (h.1 rfl)
    | false=>exact y.pval (h.2 rfl)
  | _,.r _ c k,L,h=>(k c.v).pval (h _ rfl c.hp)
  | _,.wi _ _ _ k,L,h=>k.pval (L:=L) h
  | _,.wn _ _ _ k,L,h=>k.pval (L:=L) h
  | _,.wr _ _ _ k,L,h=>k.pval (L:=L) h
  | _,.brt k,L,h=>k.pval (L:=L) h
  | _,.brf k,L,h=>k.pval (L:=L) h
  | _,.dead _,_,h=>h
  | _,.bnd _ _ n k,L,h=>k.pval (L:=L) h
  | _,.cas _ c _ _ x y,L,h=>by
    cases c with
    | true=>exact x.pval (h.1 rfl)
    | false=>exact y.pval (h.2 rfl)
  | _,.nsp _ _ _ k,L,h=>k.pval (L:=L) h
  | _,.fz _ k,L,h=>k.pval (L:=L) h
  | _,.op _ k,L,h=>(k []).pval (L:=L) h
  | _,.cl _ _ k,L,h=>k.pval (L:=L) h
  | _,.oq _ q k,L,h=>(k (canon q)).pval (L:=L) (h.2 _ (canon_spec h.1))
  | _,.cq _ _ _ k,L,h=>k.pval (L:=L) h
  | _,.ot _ Q _ _ d k,L,h=>(k (canonY Q d)).pval (L:=L) (h.2 _ (canonY_spec h.1))
  | _,.ct _ _ _ _ _ k,L,h=>k.pval (L:=L) h
  | _,.orr _ Q _ d k,L,h=>(k (canonY Q d)).pval (L:=L) (h.2 _ (canonY_spec h.1))
  | _,.cr _ _ _ _ _ k,L,h=>k.pval (L:=L) h
  | _,.fm _ k,L,h=>k.pval (L:=L) h
  | _,.fb _ k,L,h=>k.pval (L:=L) h
  | _,.up _ k,L,h=>k.pval (L:=L) h
  | _,.nr _ _ _ _ _ k,L,h=>k.pval (L:=L) h
  | _,.clr _ _ _ k,L,h=>k.pval (L:=L) h
  | _,.mr n V init _ _ b k,L,h=>(k _).pval (h.2.2 _ rfl (foldr_inv (V:=V) (fun s g i hg hi hn=>(b g i).pval (h.2.1 s g i hg hi hn)) h.1 _ List.nodup_range (fun i hi=>List.mem_range.1 hi)))
  | _,.bind _ J s _ k,L,h=>by
    have h1:=s.pval h.1
    show L (pickS s.val fun b=>(k b).val)
    cases hs:s.val with
    | inl a=>rw [hs] at h1; exact h1
    | inr b=>rw [hs] at h1; exact (k b).pval (h.2 b hs h1)
  | _,.loop d I m i0 _ b,L,h=>iter_post (f:=fun i=>(b i).val) (fun i hi=>(b i).pval (h.2 i hi)) (m i0+1) i0 h.1 (Nat.lt_succ_self _)
  | _,.me n g _ _ b k,L,h=>by
    show L (((List.range n).findSome? fun i=>exitOf (b i).val).getD k.val)
    cases hf:(List.range n).findSome? fun i=>exitOf (b i).val with
    | none =>
      rw [List.findSome?_eq_none_iff] at hf
      exact k.pval (h.2 fun i hi=>hf i (List.mem_range.2 hi))
    | some a =>
      obtain ⟨j,hj,hb⟩:=List.exists_of_findSome?_eq_some hf
      have:=(b j).pval (h.1 j (List.mem_range.1 hj))
      cases hv:(b j).val with
      | inl x =>
        rw [hv] at hb this
        have hb:some x=some a:=hb
        cases hb
        exact this
      | inr x=>rw [hv] at hb; cases hb
  | _,.pn _ _ _,_,h=>h
  | _,.rx _ a c z err k,L,h=>by
    have h1:=h _ rfl a.hp _ rfl (c a.v).hp
    show L (okX (c a.v).v (fun b=>(k a.v b (z a.v b).v).val) err)
    cases hv:(c a.v).v with
    | ok b=>rw [hv] at h1; exact (k a.v b (z a.v b).v).pval (h1 _ rfl (z a.v b).hp)
    | error e=>rw [hv] at h1; exact h1
  | _,.rf it I B _ s0 _ _ b k,L,h=>(k _).pval (h.2.2 _ rfl (leafJ_run it.ys (fun i s y hs hy=>(b s y).pval (h.2.1 i s y hs hy)) s0 h.1))

/-- the length of an own row,said otherwise -/
def wnA (κ n':Nat):AV→AV
  | .own k m=>bif Nat.beq k κ then .own k n' else .own k m
  | x=>x
def wnC (κ n:Nat):AV→CT
  | .own k m=>bif Nat.beq k κ then .nn m n else .nil
  | _=>.nil
def wnAs (κ n':Nat):List AV→List AV
  | []=>[]
  | x :: r=>wnA κ n' x :: wnAs κ n' r
def wnCs (κ n:Nat):List AV→CT
  | []=>.nil
  | x :: r=>.two (wnC κ n x) (wnCs κ n r)
def wnSl (κ n':Nat):List (Nat × AV)→List (Nat × AV)
  | []=>[]
  | (t,x) :: r=>(t,wnA κ n' x) :: wnSl κ n' r
def wnSlC (κ n:Nat):List (Nat × AV)→CT
  | []=>.nil
  | (_,x) :: r=>.two (wnC κ n x) (wnSlC κ n r)
def wnLb (κ n':Nat):List (Nat × Blk)→List (Nat × Blk)
  | []=>[]
  | (k,.box cs) :: r=>(k,.box (wnAs κ n' cs)) :: wnLb κ n' r
  | (k,.row e q n f) :: r=>(k,.row e q (bif Nat.beq k κ then n' else n) f) :: wnLb κ n' r
  | (k,b) :: r=>(k,b) :: wnLb κ n' r
def wnLbC (κ n:Nat) (n':Nat):List (Nat × Blk)→CT
  | []=>.nil
  | (_,.box cs) :: r=>.two (wnCs κ n cs) (wnLbC κ n n' r)
  | (k,.row _ _ m _) :: r=>.two (bif Nat.beq k κ then .nn m n' else .nil) (wnLbC κ n n' r)
  | (_,_) :: r=>wnLbC κ n n' r

theorem wnA_eq {κ n:Nat} {x:AV} (h:(wnC κ n x).ok):wnA κ n x=x:=by
  unfold wnC at h
  split at h
  · rename_i k m
    show (bif Nat.beq k κ then AV.own k n else AV.own k m)=AV.own k m
    cases hb:Nat.beq k κ with
    | true =>
      rw [hb] at h
      have h:m=n:=h
      subst h
      rfl
    | false=>rfl
  · rename_i hno
    cases x <;> first | rfl | exact absurd rfl (hno _ _)
theorem wnAs_eq {κ n:Nat}:∀ {l:List AV},(wnCs κ n l).ok→wnAs κ n l=l
  | [],_=>rfl
  | x :: r,h=>by simp only [wnAs,wnA_eq h.1,wnAs_eq h.2]
theorem wnSl_eq {κ n:Nat}:∀ {l:List (Nat × AV)},(wnSlC κ n l).ok→wnSl κ n l=l
  | [],_=>rfl
  | (t,x) :: r,h=>by simp only [wnSl,wnA_eq h.1,wnSl_eq h.2]
theorem wnLb_eq {κ n:Nat}:∀ {l:List (Nat × Blk)},(wnLbC κ n n l).ok→wnLb κ n l=l
  | [],_=>rfl
  | (k,.box cs) :: r,h=>by simp only [wnLb,wnAs_eq h.1,wnLb_eq h.2]
  | (k,.row e q m f) :: r,h=>by
    simp only [wnLb,wnLb_eq h.2]
    have h1:=h.1
    cases hb:Nat.beq k κ with
    | false=>rfl
    | true =>
      rw [hb] at h1
      have h1:m=n:=h1
      subst h1
      rfl
  | (k,.mp _ _) :: r,h=>by have h:(wnLbC κ n n r).ok:=h; simp only [wnLb,wnLb_eq h]
  | (k,.it _ _ _) :: r,h=>by have h:(wnLbC κ n n r).ok:=h; simp only [wnLb,wnLb_eq h]
  | (k,.mx _) :: r,h=>by have h:(wnLbC κ n n r).ok:=h; simp only [wnLb,wnLb_eq h]
  | (k,.tx _) :: r,h=>by have h:(wnLbC κ n n r).ok:=h; simp only [wnLb,wnLb_eq h]
  | (k,.ml _ _) :: r,h=>by have h:(wnLbC κ n n r).ok:=h; simp only [wnLb,wnLb_eq h]
  | (k,.rx _ _ _ _) :: r,h=>by have h:(wnLbC κ n n r).ok:=h; simp only [wnLb,wnLb_eq h]

/-- the length of a slice that is there -/
def lenAV (lb:List (Nat × Blk)):AV→Option Nat
  | .d (.sl q _)=>some q
  | .own κ _=>(match look lb κ with | some (.row _ _ q _)=>some q | _=>none)
  | _=>none

def lenAt (st:St) (t j:Nat):Option Nat :=
  match St.get st.sl t with
  | .ptr κ _=>(match look st.lb κ with | some (.box cs)=>bif Nat.ble (j+1) cs.length then lenAV st.lb (cs.getD j default) else none | _=>none)
  | .ref cs=>bif Nat.ble (j+1) cs.length then lenAV st.lb (.d (cs.getD j default)) else none
  | .d (.agg cs)=>bif Nat.ble (j+1) cs.length then lenAV st.lb (.d (cs.getD j default)) else none
  | x=>lenAV st.lb x

/-! an own row that is never written again -/
def fzA (κ:Nat) (f:Nat→List D):AV→AV
  | .own k m=>bif Nat.beq k κ then .d (.sl m f) else .own k m
  | x=>x
def fzC (κ n:Nat):AV→CT
  | .own k m=>bif Nat.beq k κ then .nn m n else .nil
  | x=>.bb (x.keys.any fun k=>Nat.beq k κ) false
def fzAs (κ:Nat) (f:Nat→List D):List AV→List AV
  | []=>[]
  | x :: r=>fzA κ f x :: fzAs κ f r
def fzCs (κ n:Nat):List AV→CT
  | []=>.nil
  | x :: r=>.two (fzC κ n x) (fzCs κ n r)
def fzSl (κ:Nat) (f:Nat→List D):List (Nat × AV)→List (Nat × AV)
  | []=>[]
  | (t,x) :: r=>(t,fzA κ f x) :: fzSl κ f r
def fzSlC (κ n:Nat):List (Nat × AV)→CT
  | []=>.nil
  | (_,x) :: r=>.two (fzC κ n x) (fzSlC κ n r)
def fzB (κ:Nat) (f:Nat→List D):Blk→Blk
  | .box cs=>.box (fzAs κ f cs)
  | b=>b
def fzBC (κ n:Nat):Blk→CT
  | .box cs=>fzCs κ n cs
  | .it m _ _=>.bb (Nat.beq m κ) false
  | _=>.nil
def fzLb (κ:Nat) (f:Nat→List D):List (Nat × Blk)→List (Nat × Blk)
  | []=>[]
  | (k,b) :: r=>bif Nat.beq k κ then fzLb κ f r else (k,fzB κ f b) :: fzLb κ f r
def fzLbC (κ n:Nat):List (Nat × Blk)→CT
  | []=>.nil
  | (k,b) :: r=>.two (bif Nat.beq k κ then .nil else fzBC κ n b) (fzLbC κ n r)

theorem fzSl_get (κ n:Nat) (f:Nat→List D):∀ (l:List (Nat × AV)) (t:Nat),(fzSlC κ n l).ok→St.get (fzSl κ f l) t=fzA κ f (St.get l t)∧(fzC κ n (St.get l t)).ok
  | [],t,_=>⟨rfl,rfl⟩
  | (k,x) :: r,t,h=>by
    obtain ⟨i1,i2⟩:=fzSl_get κ n f r t h.2
    simp only [St.get,fzSl,look_cons] at i1 i2 ⊢
    by_cases e:k=t
    · simp only [e,if_true]
      exact ⟨trivial,h.1⟩
    · simp only [e,if_false]
      exact ⟨i1,i2⟩

theorem fzLb_look (κ n:Nat) (f:Nat→List D):∀ (l:List (Nat × Blk)) (κ':Nat) (b:Blk),(fzLbC κ n l).ok→look (fzLb κ f l) κ'=some b→κ'≠κ∧∃ c,look l κ'=some c∧b=fzB κ f c∧(fzBC κ n c).ok
  | [],κ',b,_,h=>by simp [fzLb,look] at h
  | (k,c) :: r,κ',b,h,hl=>by
    have h1:=h.1
    simp only [fzLb] at hl
    cases hb:Nat.beq k κ with
    | true =>
      rw [hb] at hl
      simp only [cond_true] at hl
      obtain ⟨q1,d,q2,q3⟩:=fzLb_look κ n f r κ' b h.2 hl
      have hk:=Nat.eq_of_beq_eq_true hb
      refine ⟨q1,d,?_,q3⟩
      rw [look_cons,if_neg (fun e=>q1 (by omega))]
      exact q2
    | false =>
      rw [hb] at hl h1
      simp only [cond_false,look_cons] at hl h1
      split at hl
      · rename_i e
        subst e
        simp only [Option.some.injEq] at hl
        subst hl
        refine ⟨fun e=>(by rw [e,Nat.beq_refl] at hb; cases hb),c,(by rw [look_cons,if_pos rfl]),rfl,h1⟩
      · rename_i e
        obtain ⟨q1,d,q2,q3⟩:=fzLb_look κ n f r κ' b h.2 hl
        exact ⟨q1,d,by rw [look_cons,if_neg e]; exact q2,q3⟩

theorem LeS.fz {st:St} {κ e k n:Nat} {f:Nat→List D} (hl:look st.lb κ=some (.row e k n f)) (h1:(fzSlC κ n st.sl).ok) (h2:(fzLbC κ n st.lb).ok):LeS st ⟨fzSl κ f st.sl,fzLb κ f st.lb⟩:=by
  rintro C a w ⟨S,μ,hs⟩
  have hs0:=hs fun _=>false
  have hm:=hs0.mem κ _ hl
  let S':Nat→Prop:=fun q=>S q∨∃ c,μ κ=some (some (q,c))
  have hS:∀ q,S q→S' q:=fun _ h=>.inl h
  have main:∀ {ν:Nat→Bool} {x:AV} {v:Value},(fzC κ n x).ok→Rel w S μ ν x v→Rel w S' μ ν (fzA κ f x) v:=by
    intro ν x v hc hr
    have other:fzA κ f x=x→Rel w S' μ ν (fzA κ f x) v:=fun e=>by rw [e]; exact hr.mono hS (fun _ _=>rfl) (fun _ _ e=>e)
    cases x with
    | own q m =>
      cases hb:Nat.beq q κ with
      | false=>exact other (by simp [fzA,hb])
      | true =>
        have e:=Nat.eq_of_beq_eq_true hb
        subst e
        simp only [fzC,hb,cond_true] at hc
        have hc:m=n:=hc
        subst hc
        simp only [fzA,hb,cond_true]
        cases hr with
        | @ownNil _ ad hμ =>
          cases ad with
          | none=>exact .d (.nil f)
          | some ad=>exact .d (.sl 0 f ad 0 0 (fun _ _=>undef) (Nat.le_refl _) (by simp [maxLen]) (.inl rfl) (fun i hi=>absurd hi (by omega)) (fun i j hi=>absurd hi (by omega)) (fun i j hi=>absurd hi (by omega)))
        | @own _ _ g cap hμ =>
          rw [hμ] at hm
          obtain ⟨cur,hg,_,hsz,hn,hcp,hrow⟩:=hm.at
          refine .d (.sl m f ⟨g,0,none⟩ cap k (fun i j=>(cur[i * k+j]?).getD undef) hn hcp (.inr rfl) (fun i hi=>(hrow i hi).1) (fun i j hi hj=>⟨.inr ⟨cap,hμ⟩,?_⟩) (fun i j hi hj=>?_))
          · obtain ⟨u,hu,_⟩:=(hrow i hi).2 j hj
            rw [Nat.zero_add,cell_row w g _ cur e _ hg,hu]
            rfl
          · obtain ⟨u,hu,hru⟩:=(hrow i hi).2 j hj
            rw [hu]
            exact hru.mono hS (fun _ _=>rfl)
    | any=>exact other rfl
    | d=>exact other rfl
    | ptr=>exact other rfl
    | elt=>exact other rfl
    | ref=>exact other rfl
    | nns=>exact other rfl
    | mpv=>exact other rfl
    | pmp=>exact other rfl
    | fn=>exact other rfl
    | tup=>exact other rfl
    | ag=>exact other rfl
    | g=>exact other rfl
  refine ⟨S',μ,fun ν=>?_⟩
  have hsν:=hs ν
  refine ⟨hsν.tmps,hsν.defers,fun t=>?_,fun κ' b hb=>?_,fun κ1 κ2 b1 b2 g c c' q1 q2 q3 q4=>?_,fun κ' b g c q1 q2=>?_,fun b hb=>.inl (hsν.stable b hb),fun b hb=>?_,fun b hb=>?_,hsν.kept⟩
  · obtain ⟨e1,e2⟩:=fzSl_get κ n f st.sl t h1
    simp only [St.toM]
    rw [e1]
    exact main e2 (hsν.slots t)
  · obtain ⟨hne,c,hc,rfl,hok⟩:=fzLb_look κ n f st.lb κ' b h2 hb
    have hm':=hsν.mem κ' c hc
    have hnS:∀ g cc,μ κ'=some (some (g,cc))→¬ S' g:=fun g cc hμ' hS'=>by
      rcases hS' with h | ⟨c2,hc2⟩
      · rw [hμ'] at hm'; exact hm'.at.not h
      · exact hne (hsν.inj κ' κ c _ g cc c2 hc hl hμ' hc2)
    have hmono:=hm'.mono (S':=S') hS (fun _ _=>rfl) (fun _ _ e=>e) (fun g cc e=>⟨rfl,hnS g cc e⟩)
    cases c with
    | box cs =>
      cases hμ':μ κ' with
      | none=>rw [hμ'] at hm'; exact hm'.elim
      | some y =>
        cases y with
        | none=>rw [hμ'] at hm'; exact hm'.elim
        | some gc =>
          obtain ⟨g,cc⟩:=gc
          rw [hμ'] at hm'
          obtain ⟨cur,e0,x1,x2,x3,x4⟩:=hm'.at
          have hlen:∀ (l:List AV),(fzAs κ f l).length=l.length:=fun l=>by induction l with | nil=>rfl | cons _ _ ih=>simp [fzAs,ih]
          have hget:∀ (l:List AV) (j:Nat),j < l.length→(fzCs κ n l).ok→(fzAs κ f l).getD j default=fzA κ f (l.getD j default)∧(fzC κ n (l.getD j default)).ok:=fun l=>by
            induction l with
            | nil=>intro j hj; exact absurd hj (by simp)
            | cons x r ih =>
              intro j hj hk
              cases j with
              | zero=>exact ⟨rfl,hk.1⟩
              | succ j=>simpa [fzAs] using ih j (by simpa using hj) hk.2
          refine BlkAt.ok (b:=.box (fzAs κ f cs)) ⟨cur,e0,x1,hnS g cc hμ',by rw [hlen]; exact x3,fun j hj=>?_⟩
          rw [hlen] at hj
          obtain ⟨x,y1,y2⟩:=x4 j hj
          obtain ⟨z1,z2⟩:=hget cs j hj hok
          exact ⟨x,y1,fun ν'=>by rw [z1]; exact main z2 (y2 ν')⟩
    | row=>exact hmono
    | mp=>exact hmono
    | it=>exact hmono
    | mx=>exact hmono
    | tx=>exact hmono
    | rx=>exact hmono
    | ml=>exact hmono
  · obtain ⟨_,d1,e1,_⟩:=fzLb_look κ n f st.lb κ1 b1 h2 q1
    obtain ⟨_,d2,e2,_⟩:=fzLb_look κ n f st.lb κ2 b2 h2 q2
    exact hsν.inj κ1 κ2 d1 d2 g c c' e1 e2 q3 q4
  · obtain ⟨_,d1,e1,_⟩:=fzLb_look κ n f st.lb κ' b h2 q1
    exact hsν.own κ' d1 g c e1 q2
  · rcases hb with h | ⟨c,hc⟩
    · exact hsν.fresh b h
    · rcases hsν.own κ _ b c hl hc with h | h
      · exact .inr (.inl h)
      · exact .inr (.inr h)
  · rcases hb with h | ⟨c,hc⟩
    · exact hsν.bound b h
    · rw [hc] at hm
      exact hm.at.lt

/-! an own map,an own variable that is never written again -/
def gzAs (g:AV→AV):List AV→List AV
  | []=>[]
  | x :: r=>g x :: gzAs g r
def gzCs (c:AV→CT):List AV→CT
  | []=>.nil
  | x :: r=>.two (c x) (gzCs c r)
def gzSl (g:AV→AV):List (Nat × AV)→List (Nat × AV)
  | []=>[]
  | (t,x) :: r=>(t,g x) :: gzSl g r
def gzSlC (c:AV→CT):List (Nat × AV)→CT
  | []=>.nil
  | (_,x) :: r=>.two (c x) (gzSlC c r)
def gzB (g:AV→AV):Blk→Blk
  | .box cs=>.box (gzAs g cs)
  | b=>b
def gzBC (κ:Nat) (c:AV→CT):Blk→CT
  | .box cs=>gzCs c cs
  | .it m _ _=>.bb (Nat.beq m κ) false
  | _=>.nil
def gzLb (κ:Nat) (g:AV→AV):List (Nat × Blk)→List (Nat × Blk)
  | []=>[]
  | (k,b) :: r=>bif Nat.beq k κ then gzLb κ g r else (k,gzB g b) :: gzLb κ g r
def gzLbC (κ:Nat) (c:AV→CT):List (Nat × Blk)→CT
  | []=>.nil
  | (k,b) :: r=>.two (bif Nat.beq k κ then .nil else gzBC κ c b) (gzLbC κ c r)
def mzA (κ n:Nat) (f:Nat→Value × D):AV→AV
  | .mpv k=>bif Nat.beq k κ then .d (.mp n (fun i=>(f i).1) (fun i=>(f i).2)) else .mpv k
  | x=>x
def mzC (κ:Nat):AV→CT
  | .mpv _=>.nil
  | x=>.bb (x.keys.any fun k=>Nat.beq k κ) false
def bzA (κ:Nat) (ds:List D):AV→AV
  | .ptr k o=>bif Nat.beq k κ then .ref (ds.drop o) else .ptr k o
  | x=>x
def bzC (κ:Nat):AV→CT
  | .ptr _ _=>.nil
  | x=>.bb (x.keys.any fun k=>Nat.beq k κ) false

theorem gzSl_get (g:AV→AV) (c:AV→CT) (ha:g .any=.any) (hc:(c .any).ok):∀ (l:List (Nat × AV)) (t:Nat),(gzSlC c l).ok→St.get (gzSl g l) t=g (St.get l t)∧(c (St.get l t)).ok
  | [],t,_=>⟨ha.symm,hc⟩
  | (k,x) :: r,t,h=>by
    obtain ⟨i1,i2⟩:=gzSl_get g c ha hc r t h.2
    simp only [St.get,gzSl,look_cons] at i1 i2 ⊢
    by_cases e:k=t
    · simp only [e,if_true]
      exact ⟨trivial,h.1⟩
    · simp only [e,if_false]
      exact ⟨i1,i2⟩

theorem gzLb_look (κ:Nat) (g:AV→AV) (cc:AV→CT):∀ (l:List (Nat × Blk)) (κ':Nat) (b:Blk),(gzLbC κ cc l).ok→look (gzLb κ g l) κ'=some b→κ'≠κ∧∃ c,look l κ'=some c∧b=gzB g c∧(gzBC κ cc c).ok
  | [],κ',b,_,h=>by simp [gzLb,look] at h
  | (k,c) :: r,κ',b,h,hl=>by
    have h1:=h.1
    simp only [gzLb] at hl
    cases hb:Nat.beq k κ with
    | true =>
      rw [hb] at hl
      simp only [cond_true] at hl
      obtain ⟨q1,d,q2,q3⟩:=gzLb_look κ g cc r κ' b h.2 hl
      have hk:=Nat.eq_of_beq_eq_true hb
      refine ⟨q1,d,?_,q3⟩
      rw [look_cons,if_neg (fun e=>q1 (by omega))]
      exact q2
    | false =>
      rw [hb] at hl h1
      simp only [cond_false,look_cons] at hl h1
      split at hl
      · rename_i e
        subst e
        simp only [Option.some.injEq] at hl
        subst hl
        refine ⟨fun e=>(by rw [e,Nat.beq_refl] at hb; cases hb),c,(by rw [look_cons,if_pos rfl]),rfl,h1⟩
      · rename_i e
        obtain ⟨q1,d,q2,q3⟩:=gzLb_look κ g cc r κ' b h.2 hl
        exact ⟨q1,d,by rw [look_cons,if_neg e]; exact q2,q3⟩

theorem LeS.gz {st:St} {κ:Nat} {b0:Blk} (g:AV→AV) (cc:AV→CT) (ha:g .any=.any) (hc:(cc .any).ok) (hl:look st.lb κ=some b0)
    (hmain:∀ {w:World} {S:Nat→Prop} {μ:Mu} {ν:Nat→Bool} {x:AV} {v:Value},BlkOK w S μ b0 (μ κ)→(cc x).ok→Rel w S μ ν x v→Rel w (fun q=>S q∨∃ c,μ κ=some (some (q,c))) μ ν (g x) v)
    (h1:(gzSlC cc st.sl).ok) (h2:(gzLbC κ cc st.lb).ok):LeS st ⟨gzSl g st.sl,gzLb κ g st.lb⟩:=by
  rintro C a w ⟨S,μ,hs⟩
  have hs0:=hs fun _=>false
  have hm:=hs0.mem κ _ hl
  let S':Nat→Prop:=fun q=>S q∨∃ c,μ κ=some (some (q,c))
  have hS:∀ q,S q→S' q:=fun _ h=>.inl h
  have main:∀ {ν:Nat→Bool} {x:AV} {v:Value},(cc x).ok→Rel w S μ ν x v→Rel w S' μ ν (g x) v:=fun hc hr=>hmain hm hc hr
  refine ⟨S',μ,fun ν=>?_⟩
  have hsν:=hs ν
  refine ⟨hsν.tmps,hsν.defers,fun t=>?_,fun κ' b hb=>?_,fun κ1 κ2 b1 b2 g1 c c' q1 q2 q3 q4=>?_,fun κ' b g1 c q1 q2=>?_,fun b hb=>.inl (hsν.stable b hb),fun b hb=>?_,fun b hb=>?_,hsν.kept⟩
  · obtain ⟨e1,e2⟩:=gzSl_get g cc ha hc st.sl t h1
    simp only [St.toM]
    rw [e1]
    exact main e2 (hsν.slots t)
  · obtain ⟨hne,c,hcl,rfl,hok⟩:=gzLb_look κ g cc st.lb κ' b h2 hb
    have hm':=hsν.mem κ' c hcl
    have hnS:∀ g1 c1,μ κ'=some (some (g1,c1))→¬ S' g1:=fun g1 c1 hμ' hS'=>by
      rcases hS' with h | ⟨c2,hc2⟩
      · rw [hμ'] at hm'; exact hm'.at.not h
      · exact hne (hsν.inj κ' κ c _ g1 c1 c2 hcl hl hμ' hc2)
    have hmono:=hm'.mono (S':=S') hS (fun _ _=>rfl) (fun _ _ e=>e) (fun g1 c1 e=>⟨rfl,hnS g1 c1 e⟩)
    cases c with
    | box cs =>
      cases hμ':μ κ' with
      | none=>rw [hμ'] at hm'; exact hm'.elim
      | some y =>
        cases y with
        | none=>rw [hμ'] at hm'; exact hm'.elim
        | some gc =>
          obtain ⟨g1,c1⟩:=gc
          rw [hμ'] at hm'
          obtain ⟨cur,e0,x1,x2,x3,x4⟩:=hm'.at
          have hlen:∀ (l:List AV),(gzAs g l).length=l.length:=fun l=>by induction l with | nil=>rfl | cons _ _ ih=>simp [gzAs,ih]
          have hget:∀ (l:List AV) (j:Nat),j < l.length→(gzCs cc l).ok→(gzAs g l).getD j default=g (l.getD j default)∧(cc (l.getD j default)).ok:=fun l=>by
            induction l with
            | nil=>intro j hj; exact absurd hj (by simp)
            | cons x r ih =>
              intro j hj hk
              cases j with
              | zero=>exact ⟨rfl,hk.1⟩
              | succ j=>simpa [gzAs] using ih j (by simpa using hj) hk.2
          refine BlkAt.ok (b:=.box (gzAs g cs)) ⟨cur,e0,x1,hnS g1 c1 hμ',by rw [hlen]; exact x3,fun j hj=>?_⟩
          rw [hlen] at hj
          obtain ⟨x,y1,y2⟩:=x4 j hj
          obtain ⟨z1,z2⟩:=hget cs j hj hok
          exact ⟨x,y1,fun ν'=>by rw [z1]; exact main z2 (y2 ν')⟩
    | row=>exact hmono
    | mp=>exact hmono
    | it=>exact hmono
    | mx=>exact hmono
    | tx=>exact hmono
    | rx=>exact hmono
    | ml=>exact hmono
  · obtain ⟨_,d1,e1,_⟩:=gzLb_look κ g cc st.lb κ1 b1 h2 q1
    obtain ⟨_,d2,e2,_⟩:=gzLb_look κ g cc st.lb κ2 b2 h2 q2
    exact hsν.inj κ1 κ2 d1 d2 g1 c c' e1 e2 q3 q4
  · obtain ⟨_,d1,e1,_⟩:=gzLb_look κ g cc st.lb κ' b h2 q1
    exact hsν.own κ' d1 g1 c e1 q2
  · rcases hb with h | ⟨c,hc⟩
    · exact hsν.fresh b h
    · rcases hsν.own κ _ b c hl hc with h | h
      · exact .inr (.inl h)
      · exact .inr (.inr h)
  · rcases hb with h | ⟨c,hc⟩
    · exact hsν.bound b h
    · rw [hc] at hm
      exact hm.at.lt

theorem LeS.fm {st:St} {κ n:Nat} {f:Nat→Value × D} (hl:look st.lb κ=some (.mp n f)) (h1:(gzSlC (mzC κ) st.sl).ok) (h2:(gzLbC κ (mzC κ) st.lb).ok):LeS st ⟨gzSl (mzA κ n f) st.sl,gzLb κ (mzA κ n f) st.lb⟩:=by
  refine LeS.gz (mzA κ n f) (mzC κ) rfl rfl hl (fun {w S μ ν x v} hm hc hr=>?_) h1 h2
  have other:mzA κ n f x=x→Rel w (fun q=>S q∨∃ c,μ κ=some (some (q,c))) μ ν (mzA κ n f x) v:=fun e=>by rw [e]; exact hr.mono (fun _ h=>.inl h) (fun _ _=>rfl) (fun _ _ e=>e)
  cases x with
  | mpv q =>
    cases hb:Nat.beq q κ with
    | false=>exact other (by simp [mzA,hb])
    | true =>
      have e:=Nat.eq_of_beq_eq_true hb
      subst e
      simp only [mzA,hb,cond_true]
      cases hr with
      | @mpv _ g cap hμ =>
        rw [hμ] at hm
        obtain ⟨cur,hg,_,hsz,hcell⟩:=hm.at
        refine .d (.mp n _ _ g cur (fun i=>((cur[i]?).map (·.val)).getD undef) (.inr ⟨cap,hμ⟩) hg hsz (fun i hi=>?_) (fun i hi=>?_))
        · obtain ⟨e,q1,q2,q3,q4,q5⟩:=hcell i hi
          exact ⟨e,q1,q2,q3,q4,by rw [q1]; rfl⟩
        · obtain ⟨e,q1,q2,q3,q4,q5⟩:=hcell i hi
          rw [q1]
          exact q5.mono (fun _ h=>.inl h) (fun _ _=>rfl)
  | _=>exact other rfl
theorem LeS.fb {st:St} {κ:Nat} {cs:List AV} {ds:List D} (hl:look st.lb κ=some (.box cs)) (hp:pureL cs=some ds) (h1:(gzSlC (bzC κ) st.sl).ok) (h2:(gzLbC κ (bzC κ) st.lb).ok):LeS st ⟨gzSl (bzA κ ds) st.sl,gzLb κ (bzA κ ds) st.lb⟩:=by
  refine LeS.gz (bzA κ ds) (bzC κ) rfl rfl hl (fun {w S μ ν x v} hm hc hr=>?_) h1 h2
  have other:bzA κ ds x=x→Rel w (fun q=>S q∨∃ c,μ κ=some (some (q,c))) μ ν (bzA κ ds x) v:=fun e=>by rw [e]; exact hr.mono (fun _ h=>.inl h) (fun _ _=>rfl) (fun _ _ e=>e)
  cases x with
  | ptr q o =>
    cases hb:Nat.beq q κ with
    | false=>exact other (by simp [bzA,hb])
    | true =>
      have e:=Nat.eq_of_beq_eq_true hb
      subst e
      simp only [bzA,hb,cond_true]
      cases hr with
      | @ptr _ _ g cap hμ =>
        rw [hμ] at hm
        obtain ⟨cur,e,hg,_,hsz,hcell⟩:=hm.at
        obtain rfl:=pureL_spec hp
        simp only [List.length_map] at hsz hcell
        refine .ref (fun j=>(cur[o+j]?).getD undef) (fun j hj=>⟨.inr ⟨cap,hμ⟩,?_⟩) (fun j hj=>?_)
        · simp only [List.length_drop] at hj
          obtain ⟨x,hx,_⟩:=hcell (o+j) (by omega)
          rw [cell_row w g _ cur e _ hg,hx]
          rfl
        · simp only [List.length_drop] at hj
          obtain ⟨x,hx,hr⟩:=hcell (o+j) (by omega)
          have h3:=hr fun _=>false
          rw [getD_mapd ds (o+j) (by omega)] at h3
          rw [show (ds.drop o).getD j default=ds.getD (o+j) default from by simp [List.getD],hx]
          exact (rel_d.1 h3).mono (fun _ h=>.inl h) (fun _ _=>rfl)
  | _=>exact other rfl

/-! a walk over a map -/
def isNext (ops:Array Oper):Option (Nat × Nat × Nat) :=
  match ops.toList with
  | [o1,o2]=>(match o1.op,o1.dst,o1.guard,o2.op,o2.dst,o2.guard with
    | .next (.tmp it) false,some d1,none,.extract (.tmp d1') 0,some d2,none=>bif Nat.beq d1 d1' then some (it,d1,d2) else none
    | _,_,_,_,_,_=>none)
  | _=>none

def headR:Code→Option (Array Oper × List Item)
  | .seq x y=>(match headR x with | some (ops,l)=>some (ops,l++[.code y]) | none=>none)
  | .region _ ops false=>some (ops,[])
  | _=>none

def nextSt (st:St) (d1 d2 κi κ n i:Nat) (s:List Nat):St:=⟨(d2,.d (.v (.bool true))) :: delKeys [d1,d2] st.sl,(κi,.it κ n (i :: s)) :: delKeys [κi] st.lb⟩
def overSt (st:St) (d1 d2 it:Nat):St:=⟨(d2,.d (.v (.bool false))) :: delKeys [d1,d2,it] st.sl,st.lb⟩

inductive Leaf where
  | ret (x:AV) (lbs:List (Nat × Blk))
  | retB (x:AV) (lbs:List (Nat × Blk)) (anc:List (Nat × Nat))
  | go (todo:List Item) (st:St)
  | brk (id:Nat) (st:St)
  | pan (pv:Value) (s:Option St)

def LeafOK (g:Goal):Leaf→Prop
  | .ret x lbs=>g.Nrm∧g.res=x∧g.lbs=lbs
  | .retB x lbs anc=>g.NrmB anc∧g.res=x∧g.lbs=lbs
  | .go todo st=>G g todo st
  | .brk id st=>∀ k,exitTo id k=none→G g (.code (.exit id) :: k) st
  | .pan pv none=>g.Pan pv
  | .pan pv (some s)=>g.PanK s pv

/-- the state behind a panic is one that the leaf takes -/
def panLe (s:Option St) (draw:Bool) (st:St):CT:=match s with | none=>.nil | some s'=>.two (.bb draw false) (leSt st s')

def retC (T:List (Nat × TI)) (rs:List ResultVar) (st:St) (x:AV) (lbs:List (Nat × Blk)):CT :=
  match evRes T st rs with
  | some (l,_,ob)=>(match lbs with
    | []=>(match borAL st.lb l with | some (l',_,ob')=>.two (noProp ob) (.two (noProp ob') (avEq [] (packR l') x)) | none=>.bad)
    | lbs=>.two (noProp ob) (.two (.bb (injB (renLb st.lb lbs (renAV (packR l) x []))) true) (.two (avEq (renLb st.lb lbs (renAV (packR l) x [])) (packR l) x) (lbEq (renLb st.lb lbs (renAV (packR l) x [])) st.lb lbs))))
  | none=>.bad

def ancS (anc:List (Nat × Nat)):List (Nat × AV):=anc.map fun p=>(p.1,.ptr p.2 0)
def renB (st:St) (x:AV) (lbs:List (Nat × Blk)) (anc:List (Nat × Nat)) (l:List AV):Ren:=renLb st.lb lbs (renSl st.sl (ancS anc) (renAV (packR l) x []))
def retCB (T:List (Nat × TI)) (rs:List ResultVar) (st:St) (x:AV) (lbs:List (Nat × Blk)) (anc:List (Nat × Nat)):CT :=
  match evRes T st rs with
  | some (l,_,ob)=>.two (noProp ob) (.two (.bb (injB (renB st x lbs anc l)) true) (.two (avEq (renB st x lbs anc l) (packR l) x) (.two (slEq (renB st x lbs anc l) st.sl (ancS anc)) (lbEq (renB st x lbs anc l) st.lb lbs))))
  | none=>.bad

/-- a step that is no choice -/
def stepD (P:Program) (T:List (Nat × TI)) (nt:Nat) (rm:Nat) (md:Nat) (pr:List Nat) (todo:List Item) (st:St):Option (List Item × St × CT) :=
  match todo with
  | .code (.seq x y) :: k=>some (.code x :: .code y :: k,st,.nil)
  | .code .skip :: k=>some (k,st,.nil)
  | .code (.label _) :: k=>some (k,st,.nil)
  | .code (.cond (.const (.bool e)) x y) :: k=>some (.code (bif e then x else y) :: k,st,.nil)
  | .code (.block id c) :: k=>some (.code c :: .inBlock id :: k,st,.nil)
  | .inBlock _ :: k=>some (k,st,.nil)
  | .code (.exit id) :: k=>(match exitTo id k with | some k'=>some (k',st,.nil) | none=>none)
  | .code (.region _ ops draw) :: k=>(match evRegion P T nt ops draw none st [] with
    | some (st',ob)=>some (k,st'.keep (Nat.lor rm (todoM k)),.two (.bb (regR md pr ops) true) (noProp ob))
    | none=>none)
  | .code (.scope c) :: k=>some (.code c :: .inScope c :: k,st,.nil)
  | .inScope _ :: k=>some (k,st,.nil)
  | _=>none

def casA (c:Bool):AV→AV→AV
  | .d x,.d y=>.d (bif c then x else y)
  | x,y=>bif c then x else y
theorem casA_eq (c:Bool) (x y:AV):casA c x y=bif c then x else y:=by
  unfold casA
  split
  · cases c <;> rfl
  · rfl

def rfM (rm:Nat) (todo:List Item):Nat:=Nat.lor rm (todoM todo)
/-- the assignments at a round's head -/
def asgD (P:Program) (T:List (Nat × TI)) (nt:Nat) (rm:Nat) (md:Nat) (pr:List Nat):Nat→List Item→St→Option (List Item × St × CT)
  | 0,_,_=>none
  | n+1,todo,st=>(match todo with
    | .beginRound :: k=>some (.beginRound :: k,st,.nil)
    | todo=>(match stepD P T nt rm md pr todo st with
      | some (k,st1,c)=>(match asgD P T nt rm md pr n k st1 with
        | some (k',st2,c')=>some (k',st2,.two c c')
        | none=>none)
      | none=>none))

def asgSt (P:Program) (T:List (Nat × TI)) (nt:Nat) (rm:Nat) (md:Nat) (pr:List Nat) (n:Nat) (todo:List Item) (st:St):St:=match asgD P T nt rm md pr n todo st with | some (_,st2,_)=>st2 | none=>⟨[],[]⟩
def asgC (P:Program) (T:List (Nat × TI)) (nt:Nat) (rm:Nat) (md:Nat) (pr:List Nat) (n:Nat) (todo:List Item) (st:St) (k:List Item):CT:=match asgD P T nt rm md pr n todo st with | some (k',_,c)=>.two c (.td k' k) | none=>.bad

/-- the first call of a function in a region -/
def pIdx (f:FuncId):List Oper→Nat→Option (Nat × Oper)
  | [],_=>none
  | o :: r,n=>(match o.op with
    | .call { callee:=.value (.func f'),.. }=>bif Nat.beq f' f then some (n,o) else pIdx f r (n+1)
    | _=>pIdx f r (n+1))
theorem pIdx_get {f:FuncId}:∀ {l:List Oper} {n:Nat} {j:Nat} {o:Oper},pIdx f l n=some (j,o)→n≤j∧l[j - n]? = some o
  | [],_,_,_,h=>by cases h
  | o' :: r,n,j,o,h=>by
    have step:pIdx f r (n+1)=some (j,o)→n≤j∧(o' :: r)[j - n]? = some o:=fun h=>by
      obtain ⟨h1,h2⟩:=pIdx_get h
      refine ⟨by omega,?_⟩
      rw [show j - n=j - (n+1)+1 by omega,List.getElem?_cons_succ]
      exact h2
    unfold pIdx at h
    split at h
    · rw [Bool.cond_eq_ite] at h
      split at h
      · simp only [Option.some.injEq,Prod.mk.injEq] at h
        obtain ⟨rfl,rfl⟩:=h
        exact ⟨Nat.le_refl _,by simp⟩
      · exact step h
    · exact step h
/-- a call's function and arguments -/
def panC (st:St) (o:Oper):Option (FuncId × List AV × List (Nat × AV)) :=
  match o.op with
  | .call { callee:=.value cf,args:=xs,.. }=>(match rhoN (needOf st.sl (slotsOf (cf :: xs.toList))) [] cf,argsOf (rhoN (needOf st.sl (slotsOf (cf :: xs.toList))) []) xs.toList with
    | some (.fn f caps),some l=>bif noG.noGL (l++caps) then some (f,l++caps,needOf st.sl (slotsOf (cf :: xs.toList))) else none
    | _,_=>none)
  | _=>none
/-- what a region raises -/
def raiC (st:St) (o:Oper):Option (Operand × TypeId × Value) :=
  match o.op with
  | .panic x=>(match rhoN (needOf st.sl (slotsOf [x])) [] x with
    | some (.d (.v (.iface t u)))=>some (x,t,u)
    | _=>none)
  | _=>none
/-- the entries of a map of numbers -/
def mxf (m:List (Int × Int)):Nat→Value × D:=fun i=>(.int .i64 (m.getD i default).1,.v (.int .i64 (m.getD i default).2))
/-- does the code do what the sketch says? -/
def chk (P:Program) (T:List (Nat × TI)) (nt:Nat) (rs:List ResultVar) (rm:Nat) (md:Nat) (pr:List Nat):Nat→{α:Type}→List Item→St→(α→Leaf)→Sk α→CT
  | 0,_,_,_,_,_=>.bad
  | n+1,_,todo,st,L,sk =>
    match sk with
    | .op κ k=>(match look st.lb κ with
      | some (.mx _)=>.pi fun m=>chk P T nt rs rm md pr n todo ⟨st.sl,(κ,.mp m.length (mxf m)) :: delKeys [κ] st.lb⟩ L (k m)
      | _=>.bad)
    | .oq κ q k=>(match look st.lb κ with
      | some (.mx q')=>.two (.qq q' q) (.pi fun m=>chk P T nt rs rm md pr n todo ⟨st.sl,(κ,.mp m.length (mxf m)) :: delKeys [κ] st.lb⟩ L (k m))
      | _=>.bad)
    | .cq κ m q' k=>(match look st.lb κ with
      | some (.mp q f)=>.two (.nn q m.length) (.two (.mm f (mxf m)) (chk P T nt rs rm md pr n todo ⟨st.sl,(κ,.mx q') :: delKeys [κ] st.lb⟩ L k))
      | _=>.bad)
    | .cl κ m k=>(match look st.lb κ with
      | some (.mp q f)=>.two (.nn q m.length) (.two (.mm f (mxf m)) (chk P T nt rs rm md pr n todo ⟨st.sl,(κ,.mx mxT) :: delKeys [κ] st.lb⟩ L k))
      | _=>.bad)
    | .ot κ Q ln en _ k=>(match look st.lb κ with
      | some (.tx q')=>.two (.tq q' (txQ Q ln en)) (.pi fun m=>chk P T nt rs rm md pr n todo ⟨st.sl,(κ,.mp (ln m) (en m)) :: delKeys [κ] st.lb⟩ L (k m))
      | _=>.bad)
    | .ct κ Q ln en y k=>(match look st.lb κ with
      | some (.mp q f)=>.two (.nn q (ln y)) (.two (.mm f (en y)) (chk P T nt rs rm md pr n todo ⟨st.sl,(κ,.tx (txQ Q ln en)) :: delKeys [κ] st.lb⟩ L k))
      | _=>.bad)
    | .orr κ Q en _ k=>(match look st.lb κ with
      | some (.rx e q m q')=>.two (.rq q' (rxQ Q en)) (.pi fun y=>chk P T nt rs rm md pr n todo ⟨st.sl,(κ,.row e q m (en y)) :: delKeys [κ] st.lb⟩ L (k y))
      | _=>.bad)
    | .cr κ m' Q en y k=>(match look st.lb κ with
      | some (.row e q m f)=>.two (.nn m m') (.two (.ff f (en y)) (chk P T nt rs rm md pr n todo ⟨st.sl,(κ,.rx e q m' (rxQ Q en)) :: delKeys [κ] st.lb⟩ L k))
      | _=>.bad)
    | .fm κ k=>(match look st.lb κ with
      | some (.mp q f)=>.two (gzSlC (mzC κ) st.sl) (.two (gzLbC κ (mzC κ) st.lb) (chk P T nt rs rm md pr n todo ⟨gzSl (mzA κ q f) st.sl,gzLb κ (mzA κ q f) st.lb⟩ L k))
      | _=>.bad)
    | .fb κ k=>(match look st.lb κ with
      | some (.box cs)=>(match pureL cs with
        | some ds=>.two (gzSlC (bzC κ) st.sl) (.two (gzLbC κ (bzC κ) st.lb) (chk P T nt rs rm md pr n todo ⟨gzSl (bzA κ ds) st.sl,gzLb κ (bzA κ ds) st.lb⟩ L k))
        | none=>.bad)
      | _=>.bad)
    | .up u k=>.two (leSt st (st.upd (Nat.lor rm (todoM todo)) u)) (chk P T nt rs rm md pr n todo (st.upd (Nat.lor rm (todoM todo)) u) L k)
    | .nr t κ e q f k=>(match St.get st.sl t with
      | .d (.v (.slice none 0 0))=>.two (.bb (freshB st κ) true) (chk P T nt rs rm md pr n todo ⟨(t,.own κ 0) :: delKeys [t] st.sl,(κ,.row e q 0 f) :: st.lb⟩ L k)
      | _=>.bad)
    | .clr id x c k=>(match todo with
      | .code (.region i ops false) :: K=>bif Nat.beq i id then (match isClr ops with
        | some (ts,ti,ty,d1,d2,d3)=>(match St.get st.sl ts,St.get st.sl ti,look T ty with
          | .own κ m,.d (.v (.int .i64 xx)),some { kind:=.slice e',.. }=>(match look st.lb κ,look T e' with
            | some (.row e q m2 f),some i=>.two (.bb (Nat.ble (d1+1) nt&&Nat.ble (d2+1) nt&&Nat.ble (d3+1) nt&&regR md pr ops&&Nat.beq e e'&&Nat.beq q i.size&&i.zero.all oneD&&!Nat.beq ts d1&&!Nat.beq ts d2&&!Nat.beq ts d3) true)
                (.two (.zz xx x) (.two (.nn m m2) (.two (.nn m c.n) (.two (.ff (clrF xx.toNat f i.zero) c.f)
                (chk P T nt rs rm md pr n K (St.keep (Nat.lor rm (todoM K)) ⟨(ts,.own κ c.n') :: delKeys [ts,d1,d2,d3] st.sl,(κ,.row e q c.n' c.f') :: delKeys [κ] st.lb⟩) L k)))))
            | _,_=>.bad)
          | _,_,_=>.bad)
        | none=>.bad)
        else (match stepD P T nt rm md pr (.code (.region i ops false) :: K) st with | some (k0,st1,c0)=>.two c0 (chk P T nt rs rm md pr n k0 st1 L (.clr id x c k)) | none=>.bad)
      | todo=>(match stepD P T nt rm md pr todo st with | some (k0,st1,c0)=>.two c0 (chk P T nt rs rm md pr n k0 st1 L (.clr id x c k)) | none=>.bad))
    | .wi t a b k=>.two (.vv (St.get st.sl t) (.d (.v (.int .i64 a)))) (chk P T nt rs rm md pr n todo ⟨(t,.d (.v (.int .i64 b))) :: delKeys [t] st.sl,st.lb⟩ L k)
    | .bnd t j m k=>(match lenAt st t j with
      | some q=>.two (.nn q m) (chk P T nt rs rm md pr n todo st L k)
      | none=>.bad)
    | .wn κ a b k=>.two (wnSlC κ a st.sl) (.two (wnLbC κ a b st.lb) (chk P T nt rs rm md pr n todo ⟨wnSl κ b st.sl,wnLb κ b st.lb⟩ L k))
    | .wr κ a b k=>.two (wnSlC κ a st.sl) (.two (wnLbC κ a a st.lb) (chk P T nt rs rm md pr n todo ⟨wnSl κ b st.sl,wnLb κ b st.lb⟩ L k))
    | .dead _=>.nil
    | .nsp t m k1 k2=>(match St.get st.sl t with
      | .d (.sl q f)=>.two (.nn q m) (.two (chk P T nt rs rm md pr n todo ⟨(t,.d (.v (.slice none 0 0))) :: delKeys [t] st.sl,st.lb⟩ L k1) (chk P T nt rs rm md pr n todo ⟨(t,.nns q f) :: delKeys [t] st.sl,st.lb⟩ L k2))
      | _=>.bad)
    | .fz κ k=>(match look st.lb κ with
      | some (.row _ _ q f)=>.two (fzSlC κ q st.sl) (.two (fzLbC κ q st.lb) (chk P T nt rs rm md pr n todo ⟨fzSl κ f st.sl,fzLb κ f st.lb⟩ L k))
      | _=>.bad)
    | .mr m V init u v b k=>(match todo with
      | .code (.loop c) :: K=>(match headR c with
        | some (ops,l)=>(match isNext ops with
          | some (it,d1,d2)=>bif Nat.ble (d1+1) nt&&Nat.ble (d2+1) nt&&regR md pr ops then
              .two (leSt st (st.upd (Nat.lor rm (todoM (.inLoop c :: K))) (u init [])))
              (.two (.pi fun g=>.pi fun s=>(match St.get (st.upd (Nat.lor rm (todoM (.inLoop c :: K))) (u g s)).sl it with
                | .ptr κi 0=>(match look (st.upd (Nat.lor rm (todoM (.inLoop c :: K))) (u g s)).lb κi with
                  | some (.it κ m1 s1)=>(match look (st.upd (Nat.lor rm (todoM (.inLoop c :: K))) (u g s)).lb κ with
                    | some (.mp m2 _)=>.two (.nn m1 m) (.two (.nn m2 m) (.two (.ss s1 s) (.two
                        (leSt (overSt (st.upd (Nat.lor rm (todoM (.inLoop c :: K))) (u g s)) d1 d2 it) ((overSt st d1 d2 it).upd (Nat.lor rm (todoM (l++.inLoop c :: K))) (v g)))
                        (.pi fun i=>chk P T nt rs rm md pr n (l++.inLoop c :: K) (nextSt (st.upd (Nat.lor rm (todoM (.inLoop c :: K))) (u g s)) d1 d2 κi κ m i s) (fun g'=>.go (.inLoop c :: K) (st.upd (Nat.lor rm (todoM (.inLoop c :: K))) (u g' (i :: s)))) (b g i)))))
                    | _=>.bad)
                  | _=>.bad)
                | _=>.bad))
              (.pi fun g=>chk P T nt rs rm md pr n (l++.inLoop c :: K) ((overSt st d1 d2 it).upd (Nat.lor rm (todoM (l++.inLoop c :: K))) (v g)) L (k g))) else .bad
          | none=>.bad)
        | none=>.bad)
      | todo=>(match stepD P T nt rm md pr todo st with | some (k0,st1,c)=>.two c (chk P T nt rs rm md pr n k0 st1 L (.mr m V init u v b k)) | none=>.bad))
    | .brt x=>(match todo with
      | .code (.cond (.tmp c) p _) :: k=>.two (.vv (St.get st.sl c) (.d (.v (.bool true)))) (chk P T nt rs rm md pr n (.code p :: k) st L x)
      | todo=>(match stepD P T nt rm md pr todo st with | some (k,st1,c)=>.two c (chk P T nt rs rm md pr n k st1 L (.brt x)) | none=>.bad))
    | .brf x=>(match todo with
      | .code (.cond (.tmp c) _ q) :: k=>.two (.vv (St.get st.sl c) (.d (.v (.bool false)))) (chk P T nt rs rm md pr n (.code q :: k) st L x)
      | todo=>(match stepD P T nt rm md pr todo st with | some (k,st1,c)=>.two c (chk P T nt rs rm md pr n k st1 L (.brf x)) | none=>.bad))
    | .cas t c x y k1 k2=>.two (.vv (St.get st.sl t) (casA c x y)) (.two (chk P T nt rs rm md pr n todo ⟨(t,x) :: delKeys [t] st.sl,st.lb⟩ L k1) (chk P T nt rs rm md pr n todo ⟨(t,y) :: delKeys [t] st.sl,st.lb⟩ L k2))
    | .fin a=>(match L a with
      | .go todo' st'=>bif Nat.beq todo.length todo'.length then .two (.td todo todo') (leSt st st') else
          (match stepD P T nt rm md pr todo st with | some (k,st1,c)=>.two c (chk P T nt rs rm md pr n k st1 L (.fin a)) | none=>.bad)
      | .brk id st'=>(match todo with
        | .code (.exit id') :: k=>bif Nat.beq id id'&&(exitTo id' k).isNone then leSt st st' else
          (match stepD P T nt rm md pr (.code (.exit id') :: k) st with | some (k,st1,c)=>.two c (chk P T nt rs rm md pr n k st1 L (.fin a)) | none=>.bad)
        | todo=>(match stepD P T nt rm md pr todo st with | some (k,st1,c)=>.two c (chk P T nt rs rm md pr n k st1 L (.fin a)) | none=>.bad))
      | .ret x lbs=>(match todo with
        | []=>retC T rs st x lbs
        | .code .ret :: _=>retC T rs st x lbs
        | todo=>(match stepD P T nt rm md pr todo st with | some (k,st1,c)=>.two c (chk P T nt rs rm md pr n k st1 L (.fin a)) | none=>.bad))
      | .retB x lbs anc=>(match todo with
        | []=>retCB T rs st x lbs anc
        | .code .ret :: _=>retCB T rs st x lbs anc
        | todo=>(match stepD P T nt rm md pr todo st with | some (k,st1,c)=>.two c (chk P T nt rs rm md pr n k st1 L (.fin a)) | none=>.bad))
      | .pan _ _=>.bad)
    | .br e x y=>(match todo with
      | .code (.cond (.tmp c) p q) :: k=>.two (.vv (St.get st.sl c) (.d (.v (.bool e)))) (.two (chk P T nt rs rm md pr n (.code p :: k) st L x) (chk P T nt rs rm md pr n (.code q :: k) st L y))
      | todo=>(match stepD P T nt rm md pr todo st with | some (k,st1,c)=>.two c (chk P T nt rs rm md pr n k st1 L (.br e x y)) | none=>.bad))
    | .r id cl kk=>(match todo with
      | .code (.region i ops draw) :: k=>bif Nat.beq i id then
          .pi fun x=>(match evRegion P T nt ops draw none st (cl.orc x) with
            | some (st',ob)=>.two (.bb (regR md pr ops) true) <| .two ob.eqs (.two (.po ob.prop (cl.claim x)) (chk P T nt rs rm md pr n k (st'.keep (Nat.lor rm (todoM k))) L (kk x)))
            | none=>.bad)
        else (match stepD P T nt rm md pr (.code (.region i ops draw) :: k) st with | some (k,st1,c)=>.two c (chk P T nt rs rm md pr n k st1 L (.r id cl kk)) | none=>.bad)
      | todo=>(match stepD P T nt rm md pr todo st with | some (k,st1,c)=>.two c (chk P T nt rs rm md pr n k st1 L (.r id cl kk)) | none=>.bad))
    | .bind true J s u kk=>(match todo with
      | .code (.block id c) :: k=>.two (chk P T nt rs rm md pr n (.code c :: .inBlock id :: k) st (fun q=>match q with | .inl a=>L a | .inr b=>.go k (st.upd (Nat.lor rm (todoM k)) (u b))) s) (.pi fun b=>chk P T nt rs rm md pr n k (st.upd (Nat.lor rm (todoM k)) (u b)) L (kk b))
      | todo=>(match stepD P T nt rm md pr todo st with | some (k,st1,c)=>.two c (chk P T nt rs rm md pr n k st1 L (.bind true J s u kk)) | none=>.bad))
    | .bind false J s u kk=>(match todo with
      | .code (.cond (.tmp c) p q) :: k=>.two (chk P T nt rs rm md pr n (.code (.cond (.tmp c) p q) :: k) st (fun q=>match q with | .inl a=>L a | .inr b=>.go k (st.upd (Nat.lor rm (todoM k)) (u b))) s) (.pi fun b=>chk P T nt rs rm md pr n k (st.upd (Nat.lor rm (todoM k)) (u b)) L (kk b))
      | todo=>(match stepD P T nt rm md pr todo st with | some (k,st1,c)=>.two c (chk P T nt rs rm md pr n k st1 L (.bind false J s u kk)) | none=>.bad))
    | .loop d I m i0 u b=>(match todo with
      | .code (.loop c) :: k=>.two (leSt st (st.upd (Nat.lor rm (todoM (.inLoop c :: k))) (u i0))) (.pi fun i=>chk P T nt rs rm md pr n (.code c :: .inLoop c :: k) (st.upd (Nat.lor rm (todoM (.inLoop c :: k))) (u i)) (fun q=>match q with | .inl a=>L a | .inr j=>.go (.inLoop c :: k) (st.upd (Nat.lor rm (todoM (.inLoop c :: k))) (u j))) (b i))
      | todo=>(match stepD P T nt rm md pr todo st with | some (k,st1,c)=>.two c (chk P T nt rs rm md pr n k st1 L (.loop d I m i0 u b)) | none=>.bad))
    | .rf it I B id s0 u v b kk=>(match todo with
      | .code (.rangeFunc (.tmp t) ps asg body) :: k =>
          .two (.bb (Nat.beq md 0) true) <|
          .two (.vv (St.get (keepM (rfM rm todo) (delKeys [] st.sl)) t) (.fn it.gf it.caps)) <|
          .two (.bb (noG.noGL it.caps) true) <|
          .two (.po (some (ItA P it.gf it.caps (it.ys.map it.enc))) (some (ItA it.P it.gf it.caps (it.ys.map it.enc)))) <|
          .two (.bb (psOK nt ((keepM (rfM rm todo) (delKeys [] st.sl)).map (·.1)) ps.toList) true) <|
          .two (leSt st (st.upd (rfM rm todo) ⟨[],u s0⟩)) <|
          .two (.pi fun y=>.nn ps.toList.length (it.enc y).length) <|
          .two (.pi fun s=>.pi fun y=>.two
            (asgC P T nt (rfM rm todo) 1 ((keepM (rfM rm todo) (delKeys [] st.sl)).map (·.1)) n [.code asg,.beginRound,.code body] ⟨zipSl ps.toList (it.enc y)++keepM (rfM rm todo) (delKeys [] st.sl),(st.upd (rfM rm todo) ⟨[],u s⟩).lb⟩ [.beginRound,.code body])
            (chk P T nt rs (rfM rm todo) 1 ((keepM (rfM rm todo) (delKeys [] st.sl)).map (·.1)) n [.code body] (asgSt P T nt (rfM rm todo) 1 ((keepM (rfM rm todo) (delKeys [] st.sl)).map (·.1)) n [.code asg,.beginRound,.code body] ⟨zipSl ps.toList (it.enc y)++keepM (rfM rm todo) (delKeys [] st.sl),(st.upd (rfM rm todo) ⟨[],u s⟩).lb⟩)
              (fun q=>match q with | .inl a=>.brk id (st.upd (rfM rm todo) ⟨[],v a⟩) | .inr j=>.go [] (st.upd (rfM rm todo) ⟨[],u j⟩)) (b s y))) <|
          .two (.pi fun s=>chk P T nt rs rm md pr n k (st.upd (rfM rm todo) ⟨[],u s⟩) L (kk (.inr s))) (.pi fun a=>chk P T nt rs rm md pr n (.code (.exit id) :: k) (st.upd (rfM rm todo) ⟨[],v a⟩) L (kk (.inl a)))
      | todo=>(match stepD P T nt rm md pr todo st with | some (k,st1,c)=>.two c (chk P T nt rs rm md pr n k st1 L (.rf it I B id s0 u v b kk)) | none=>.bad))
    | .rx id a c z err kk=>(match todo with
      | .code (.region i ops draw) :: k=>bif Nat.beq i id then
          .pi fun x=>.two
            (.pi fun y=>.pi fun d=>(match evRegion P T nt ops draw none st (a.orc x++(c x).orc y++(z x y).orc d) with
              | some (st',ob)=>.two (.bb (regR md pr ops) true) <| .two ob.eqs (.two (.po ob.prop (andO (a.claim x) (andO ((c x).claim y) ((z x y).claim d)))) (chk P T nt rs rm md pr n k (st'.keep (Nat.lor rm (todoM k))) L (kk x y d)))
              | none=>.bad))
            (match pIdx (c x).f ops.toList 0 with
            | some (j,o)=>(match evOps P T nt ops (ops.toList.take j) st [] (a.orc x) with
              | some (trs,st1,_,_,ob)=>.two ob.eqs <| .two (.po ob.prop (a.claim x)) <| .two (.bb (trs.all (fun τ=>τ.created.all (freshB st))&&o.guard.isNone&&!Nat.beq md 1&&regR md pr ops) true)
                (match panC st1 o,looks st1.lb (c x).hand with
                | some (f',args,need),some lbs=>.two (.bb (bif draw then panOK ops j (trs++[⟨need,o.dst,.any,[],lbs,[],[]⟩]) else ordOK trs) true) <| .pi fun e=>.two (.po (some (FnP P f' args lbs ((c x).pv e))) ((c x).claimX e)) (match L (err e) with | .pan pv s=>.two (.dd (.v pv) (.v ((c x).pv e))) (panLe s draw ⟨prSl (c x).hand st1.sl pr,delKeys (c x).hand st1.lb⟩) | _=>.bad)
                | _,_=>.bad)
              | none=>.bad)
            | none=>.bad)
        else (match stepD P T nt rm md pr (.code (.region i ops draw) :: k) st with | some (k,st1,c0)=>.two c0 (chk P T nt rs rm md pr n k st1 L (.rx id a c z err kk)) | none=>.bad)
      | todo=>(match stepD P T nt rm md pr todo st with | some (k,st1,c0)=>.two c0 (chk P T nt rs rm md pr n k st1 L (.rx id a c z err kk)) | none=>.bad))
    | .pn id c a=>(match todo with
      | .code (.region i ops draw) :: k=>bif Nat.beq i id then
          (match ops[ops.size - 1]? with
          | some o=>(match evOps P T nt ops (ops.toList.take (ops.size - 1)) st [] (c.orc ()) with
            | some (trs,st1,_,_,ob)=>.two ob.eqs <| .two (.po ob.prop (c.claim ())) <| .two (.bb (trs.all (fun τ=>τ.created.all (freshB st))&&o.guard.isNone&&!Nat.beq md 1) true)
              (match raiC st1 o,L a with
              | some (x,t,u),.pan pv none=>.two (.bb (bif draw then panOK ops (ops.size - 1) (trs++[⟨needOf st1.sl (slotsOf [x]),o.dst,.any,[],[],[],[]⟩]) else ordOK trs) true) (.dd (.v pv) (.v (.iface t u)))
              | _,_=>.bad)
            | none=>.bad)
          | none=>.bad)
        else (match stepD P T nt rm md pr (.code (.region i ops draw) :: k) st with | some (k,st1,c0)=>.two c0 (chk P T nt rs rm md pr n k st1 L (.pn id c a)) | none=>.bad)
      | todo=>(match stepD P T nt rm md pr todo st with | some (k,st1,c0)=>.two c0 (chk P T nt rs rm md pr n k st1 L (.pn id c a)) | none=>.bad))
    | .me m g u v b k=>(match todo with
      | .code (.loop c) :: K=>(match headR c with
        | some (ops,l)=>(match isNext ops with
          | some (it,d1,d2)=>bif Nat.ble (d1+1) nt&&Nat.ble (d2+1) nt&&regR md pr ops then
              .two (leSt st (st.upd (Nat.lor rm (todoM (.inLoop c :: K))) (u g [])))
              (.two (.pi fun s=>(match St.get (st.upd (Nat.lor rm (todoM (.inLoop c :: K))) (u g s)).sl it with
                | .ptr κi 0=>(match look (st.upd (Nat.lor rm (todoM (.inLoop c :: K))) (u g s)).lb κi with
                  | some (.it κ m1 s1)=>(match look (st.upd (Nat.lor rm (todoM (.inLoop c :: K))) (u g s)).lb κ with
                    | some (.mp m2 _)=>.two (.nn m1 m) (.two (.nn m2 m) (.two (.ss s1 s) (.two
                        (leSt (overSt (st.upd (Nat.lor rm (todoM (.inLoop c :: K))) (u g s)) d1 d2 it) ((overSt st d1 d2 it).upd (Nat.lor rm (todoM (l++.inLoop c :: K))) (v g)))
                        (.pi fun i=>chk P T nt rs rm md pr n (l++.inLoop c :: K) (nextSt (st.upd (Nat.lor rm (todoM (.inLoop c :: K))) (u g s)) d1 d2 κi κ m i s) (fun q=>match q with | .inl a=>L a | .inr g'=>.go (.inLoop c :: K) (st.upd (Nat.lor rm (todoM (.inLoop c :: K))) (u g' (i :: s)))) (b i)))))
                    | _=>.bad)
                  | _=>.bad)
                | _=>.bad))
              (chk P T nt rs rm md pr n (l++.inLoop c :: K) ((overSt st d1 d2 it).upd (Nat.lor rm (todoM (l++.inLoop c :: K))) (v g)) L k)) else .bad
          | none=>.bad)
        | none=>.bad)
      | todo=>(match stepD P T nt rm md pr todo st with | some (k0,st1,c)=>.two c (chk P T nt rs rm md pr n k0 st1 L (.me m g u v b k)) | none=>.bad))


section
variable {g : Goal}

theorem G.keep (m:Nat) {k:List Item} {st:St} (h:G g k (st.keep m)):G g k st:=.le (.keep m st) h

theorem retC_ok (hn:g.Nrm) (hT:TOk g.P g.T) (hf:g.P.funcs[g.f]? = some g.fn) {st:St} {x:AV} {lbs:List (Nat × Blk)} (h:(retC g.T g.fn.results.toList st x lbs).ok) (hx:g.res=x) (hl:g.lbs=lbs):G g [] st∧∀ k,G g (.code .ret :: k) st:=by
  subst hx
  subst hl
  unfold retC at h
  split at h
  · rename_i l ro ob hr
    split at h
    · rename_i hl
      split at h
      · rename_i l' ro' ob' hb
        obtain ⟨h1,h2,h3⟩:=h
        obtain ⟨p,q1,q2⟩:=avEq_le _ _ h3
        have hle:AvLe (packR l') g.res:=fun w S μ ν v hv=>by
          exact (avLe_rel (ρ:=[]) (packR l') g.res p q1 q2 v hv).mono (fun _ h=>h) (fun _ _=>rfl) (fun k y hk=>by simp [muOf,look] at hk)
        exact G.ret hn hT hf hl hr (noProp_den h1) hb (noProp_den h2) hle
      · exact h.elim
    · obtain ⟨h1,h2,h3,h4⟩:=h
      obtain ⟨p,q1,q2⟩:=avEq_le _ _ h3
      obtain ⟨p',q3,q4⟩:=lbEq_le h4
      exact G.retO hn hT hf _ hr (noProp_den h1) h2 q1 q2 q3 q4
  · exact h.elim

theorem retCB_ok {anc:List (Nat × Nat)} (hn:g.NrmB anc) (hT:TOk g.P g.T) (hf:g.P.funcs[g.f]? = some g.fn) {st:St} {x:AV} {lbs:List (Nat × Blk)} (h:(retCB g.T g.fn.results.toList st x lbs anc).ok) (hx:g.res=x) (hl:g.lbs=lbs):G g [] st∧∀ k,G g (.code .ret :: k) st:=by
  subst hx
  subst hl
  unfold retCB at h
  split at h
  · rename_i l ro ob hr
    obtain ⟨h1,h2,h3,h4,h5⟩:=h
    obtain ⟨p,q1,q2⟩:=avEq_le _ _ h3
    obtain ⟨p',q3,q4⟩:=lbEq_le h5
    obtain ⟨p'',q5,q6⟩:=slEq_le h4
    exact G.retB hn hT hf _ hr (noProp_den h1) h2 q1 q2 q3 q4 q5 q6
  · exact h.elim

theorem stepD_ok (hT:TOk g.P g.T) (hm:g.P.follows .mixedOrders=true) {rm:Nat} {todo k:List Item} {st st':St} {c:CT} (h:stepD g.P g.T g.nt rm g.md g.pr todo st=some (k,st',c)) (hc:c.ok) (hg:G g k st'):G g todo st:=by
  unfold stepD at h
  split at h
  · simp only [Option.some.injEq,Prod.mk.injEq] at h; obtain ⟨rfl,rfl,-⟩:=h; exact .seq hg
  · simp only [Option.some.injEq,Prod.mk.injEq] at h; obtain ⟨rfl,rfl,-⟩:=h; exact .skip hg
  · simp only [Option.some.injEq,Prod.mk.injEq] at h; obtain ⟨rfl,rfl,-⟩:=h; exact .label hg
  · simp only [Option.some.injEq,Prod.mk.injEq] at h; obtain ⟨rfl,rfl,-⟩:=h; exact .condC hg
  · simp only [Option.some.injEq,Prod.mk.injEq] at h; obtain ⟨rfl,rfl,-⟩:=h; exact .block hg
  · simp only [Option.some.injEq,Prod.mk.injEq] at h; obtain ⟨rfl,rfl,-⟩:=h; exact .inBlock hg
  · split at h
    · rename_i k' he
      simp only [Option.some.injEq,Prod.mk.injEq] at h; obtain ⟨rfl,rfl,-⟩:=h; exact .exit he hg
    · cases h
  · split at h
    · rename_i st1 ob hr
      simp only [Option.some.injEq,Prod.mk.injEq] at h
      obtain ⟨rfl,rfl,rfl⟩:=h
      exact .region hT hm hc.1 hr (noProp_den hc.2) (.keep _ hg)
    · cases h
  · simp only [Option.some.injEq,Prod.mk.injEq] at h; obtain ⟨rfl,rfl,-⟩:=h; exact .scope hg
  · simp only [Option.some.injEq,Prod.mk.injEq] at h; obtain ⟨rfl,rfl,-⟩:=h; exact .inScope hg
  · cases h

theorem LeS.put {st:St} (t:Nat) {x y:AV} (hx:St.get st.sl t=x) (h:AvLe x y):LeS st ⟨(t,y) :: delKeys [t] st.sl,st.lb⟩:=by
  rintro C a w ⟨S,μ,hs⟩
  refine ⟨S,μ,fun ν=>(hs ν).weaken (fun u v hv=>?_) (fun κ b hb=>⟨b,hb,fun _ h=>h⟩)⟩
  simp only [St.toM] at hv ⊢
  rw [get_del]
  split
  · rename_i e
    subst e
    rw [hx] at hv
    exact h _ _ _ _ _ hv
  · exact hv

theorem lenAV_le {C:Cx} {A:M} {a:Act} {w:World} {S:Nat→Prop} {μ:Mu} {ν:Nat→Bool} {lb:List (Nat × Blk)} (hs:Sim C A a w S μ ν) (hA:A.lb=look lb) {x:AV} {v:Value} {q:Nat} (h:lenAV lb x=some q) (hr:Rel w S μ ν x v):q≤maxLen:=by
  unfold lenAV at h
  split at h
  · simp only [Option.some.injEq] at h
    subst h
    cases rel_d.1 hr with
    | nil=>simp [maxLen]
    | sl _ _ _ _ _ _ hc hm=>omega
  · rename_i κ n
    split at h
    · rename_i e k q' f hl
      simp only [Option.some.injEq] at h
      subst h
      have hm:=hs.mem κ _ (by rw [hA]; exact hl)
      cases hμ:μ κ with
      | none=>rw [hμ] at hm; exact hm.elim
      | some y =>
        rw [hμ] at hm
        cases y with
        | none=>have:q'=0:=hm; simp [this]
        | some gc =>
          obtain ⟨g,c⟩:=gc
          obtain ⟨cur,_,_,_,q4,q5,_⟩:=hm.at
          omega
    · cases h
  · cases h

theorem Sim.weakenAt {C:Cx} {A B:M} {a:Act} {w:World} {S:Nat→Prop} {μ:Mu} {ν:Nat→Bool} (h:Sim C A a w S μ ν) (hsl:∀ t,B.sl t=A.sl t) (hlb:∀ κ b',B.lb κ=some b'→∃ b,A.lb κ=some b∧(BlkOK w S μ b (μ κ)→BlkOK w S μ b' (μ κ))):Sim C B a w S μ ν:=by
  refine ⟨h.tmps,h.defers,fun t=>by rw [hsl]; exact h.slots t,fun κ b hb=>?_,fun κ κ' b b' g c c' hb hb' hm hm'=>?_,fun κ b g c hb hm=>?_,h.stable,h.fresh,h.bound,h.kept⟩
  · obtain ⟨d,h1,h2⟩:=hlb κ b hb
    exact h2 (h.mem κ d h1)
  · obtain ⟨d,h1,_⟩:=hlb κ b hb
    obtain ⟨d',h1',_⟩:=hlb κ' b' hb'
    exact h.inj κ κ' d d' g c c' h1 h1' hm hm'
  · obtain ⟨d,h1,_⟩:=hlb κ b hb
    exact h.own κ d g c h1 hm
theorem lbPut (st:St) (κ:Nat) (b:Blk) (k:Nat):(St.toM ⟨st.sl,(κ,b) :: delKeys [κ] st.lb⟩).lb k=if κ=k then some b else st.toM.lb k:=by
  simp only [St.toM,look_cons,look_del]
  split
  · rfl
  · rename_i h
    rw [if_neg (by simp; exact fun e=>h e.symm)]
theorem G.cl {g:Goal} {k:List Item} {st:St} {κ n:Nat} {f:Nat→Value × D} {m:List (Int × Int)} {q:List (Int × Int)→Prop} (hl:look st.lb κ=some (.mp n f)) (hn:n=m.length) (hf:f=mxf m) (hq:q m) (h:G g k ⟨st.sl,(κ,.mx q) :: delKeys [κ] st.lb⟩):G g k st:=by
  subst hn
  subst hf
  refine .le (fun C a w hs=>?_) h
  obtain ⟨S,μ,hs⟩:=hs
  refine ⟨S,μ,fun ν=>(hs ν).weakenAt (fun _=>rfl) (fun κ' b' hb=>?_)⟩
  rw [lbPut] at hb
  split at hb
  · rename_i e
    subst e
    simp only [Option.some.injEq] at hb
    subst hb
    refine ⟨_,hl,fun hy=>?_⟩
    generalize μ κ=y at hy ⊢
    match y,hy with
    | some (some (g,c)),hy=>exact ⟨m,hq,hy⟩
  · exact ⟨b',hb,fun h=>h⟩
theorem G.op {g:Goal} {k:List Item} {st:St} {κ:Nat} {q:List (Int × Int)→Prop} (hl:look st.lb κ=some (.mx q)) (h:∀ m,q m→G g k ⟨st.sl,(κ,.mp m.length (mxf m)) :: delKeys [κ] st.lb⟩):G g k st:=by
  intro C h1 h2 a w hkp hs
  obtain ⟨S,μ,hs⟩:=hs
  have hm:=(hs fun _=>false).mem κ _ hl
  obtain ⟨m,hq,hm'⟩:∃ m:List (Int × Int),q m∧BlkOK w S μ (.mp m.length (mxf m)) (μ κ):=by
    generalize μ κ=y at hm ⊢
    match y,hm with
    | some (some (g,c)),hm=>obtain ⟨m,hq,hm⟩:=hm; exact ⟨m,hq,hm⟩
  refine h m hq C h1 h2 a w hkp ⟨S,μ,fun ν=>(hs ν).weakenAt (fun _=>rfl) (fun κ' b' hb=>?_)⟩
  rw [lbPut] at hb
  split at hb
  · rename_i e
    subst e
    simp only [Option.some.injEq] at hb
    subst hb
    exact ⟨_,hl,fun _=>hm'⟩
  · exact ⟨b',hb,fun h=>h⟩
/-- a nil slice as a row of the call's own -/
theorem G.nr {g:Goal} {k:List Item} {st:St} {t κ e q:Nat} {f:Nat→List D} (ht:St.get st.sl t=.d (.v (.slice none 0 0))) (hf:freshB st κ=true) (h:G g k ⟨(t,.own κ 0) :: delKeys [t] st.sl,(κ,.row e q 0 f) :: st.lb⟩):G g k st:=by
  refine .le (fun C a w hs=>?_) h
  obtain ⟨S,μ,hs⟩:=hs
  refine ⟨S,muSet μ κ (some none),fun ν=>((hs ν).adoptNil (freshB_spec hf) e q f).weaken (fun u v hv=>?_) (fun κ' b' hb=>?_)⟩
  · simp only [St.toM,St.get,look_cons,look_del,M.set] at hv ⊢
    by_cases hu:t=u
    · subst hu
      simp only [if_true]
      have hv:Rel w S (muSet μ κ (some none)) ν (St.get st.sl t) v:=hv
      rw [ht] at hv
      obtain rfl:=rel_scalar rfl hv
      exact .ownNil (by simp [muSet])
    · simp only [hu,if_false]
      rw [if_neg (by simp; exact fun e=>hu e.symm)]
      exact hv
  · simp only [St.toM,look_cons] at hb
    split at hb
    · rename_i e0
      subst e0
      simp only [Option.some.injEq] at hb
      subst hb
      exact ⟨_,by simp [M.set],fun _ h=>h⟩
    · rename_i hne
      exact ⟨b',by simp only [M.set]; rw [if_neg (fun e=>hne e.symm)]; exact hb,fun _ h=>h⟩
theorem G.rebl {g:Goal} {k:List Item} {st:St} {κ:Nat} {b b':Blk} (hl:look st.lb κ=some b) (hb:∀ (w:World) (S:Nat→Prop) (μ:Mu) y,BlkOK w S μ b y→BlkOK w S μ b' y) (h:G g k ⟨st.sl,(κ,b') :: delKeys [κ] st.lb⟩):G g k st:=by
  refine .le (fun C a w hs=>?_) h
  obtain ⟨S,μ,hs⟩:=hs
  refine ⟨S,μ,fun ν=>(hs ν).weakenAt (fun _=>rfl) (fun κ' c hc=>?_)⟩
  rw [lbPut] at hc
  split at hc
  · rename_i e
    subst e
    simp only [Option.some.injEq] at hc
    subst hc
    exact ⟨_,hl,fun hy=>hb _ _ _ _ hy⟩
  · exact ⟨c,hc,fun h=>h⟩
theorem G.opbl {g:Goal} {k:List Item} {st:St} {κ:Nat} {Y:Type} {Q:Y→Prop} {b:Blk} {b':Y→Blk} (hl:look st.lb κ=some b) (hb:∀ (w:World) (S:Nat→Prop) (μ:Mu) y,BlkOK w S μ b y→∃ m,Q m∧BlkOK w S μ (b' m) y) (h:∀ m,Q m→G g k ⟨st.sl,(κ,b' m) :: delKeys [κ] st.lb⟩):G g k st:=by
  intro C h1 h2 a w hkp hs
  obtain ⟨S,μ,hs⟩:=hs
  obtain ⟨m,hq,hm'⟩:=hb _ _ _ _ ((hs fun _=>false).mem κ _ hl)
  refine h m hq C h1 h2 a w hkp ⟨S,μ,fun ν=>(hs ν).weakenAt (fun _=>rfl) (fun κ' c hc=>?_)⟩
  rw [lbPut] at hc
  split at hc
  · rename_i e
    subst e
    simp only [Option.some.injEq] at hc
    subst hc
    exact ⟨_,hl,fun _=>hm'⟩
  · exact ⟨c,hc,fun h=>h⟩
theorem G.lenAt {k:List Item} {st:St} {t j q:Nat} (h:lenAt st t j=some q) (hg:q≤maxLen→G g k st):G g k st:=by
  intro C h1 h2 a w hkp hs
  have hs0:=hs
  obtain ⟨S,μ,hsim⟩:=hs
  refine hg ?_ C h1 h2 a w hkp hs0
  have hs:=hsim fun _=>false
  have hr:=hs.slots t
  simp only [St.toM] at hr
  unfold Go.Av.lenAt at h
  split at h
  · rename_i κ o hx
    split at h
    · rename_i cs hl
      rw [Bool.cond_eq_ite] at h
      split at h
      · rename_i hj
        have hj:=Nat.le_of_ble_eq_true hj
        rw [hx] at hr
        generalize a.tmps.getD t undef=v at hr
        cases hr with
        | ptr hμ =>
          have hm:=hs.mem κ _ hl
          rw [hμ] at hm
          obtain ⟨cur,e,_,_,hsz,hc⟩:=hm.at
          obtain ⟨x,_,hx⟩:=hc j hj
          exact lenAV_le hs rfl h (hx fun _=>false)
      · cases h
    · cases h
  · rename_i cs hx
    rw [Bool.cond_eq_ite] at h
    split at h
    · rename_i hj
      have hj:=Nat.le_of_ble_eq_true hj
      rw [hx] at hr
      generalize a.tmps.getD t undef=v at hr
      cases hr with
      | ref vals hcell hh=>exact lenAV_le hs rfl h (.d (hh j hj))
    · cases h
  · rename_i cs hx
    rw [Bool.cond_eq_ite] at h
    split at h
    · rename_i hj
      have hj:=Nat.le_of_ble_eq_true hj
      rw [hx] at hr
      generalize a.tmps.getD t undef=v at hr
      cases rel_d.1 hr with
      | agg _ vs hl hh=>exact lenAV_le hs rfl h (.d (hh j hj))
    · cases h
  · exact lenAV_le hs rfl h hr

theorem G.nsp {k:List Item} {st:St} {t n:Nat} {f:Nat→List D} (ht:St.get st.sl t=.d (.sl n f)) (h1:n=0→G g k ⟨(t,.d (.v (.slice none 0 0))) :: delKeys [t] st.sl,st.lb⟩) (h2:G g k ⟨(t,.nns n f) :: delKeys [t] st.sl,st.lb⟩):G g k st:=by
  intro C c1 c2 a w hkp hs
  obtain ⟨S,μ,hsim⟩:=hs
  have hr:=(hsim fun _=>false).slots t
  simp only [St.toM,ht] at hr
  have put:∀ y:AV,(∀ ν,Rel w S μ ν y (a.tmps.getD t undef))→SimB C ⟨(t,y) :: delKeys [t] st.sl,st.lb⟩ a w:=fun y hy=>by
    refine ⟨S,μ,fun ν=>?_⟩
    have h:=hsim ν
    refine ⟨h.tmps,h.defers,fun u=>?_,h.mem,h.inj,h.own,h.stable,h.fresh,h.bound,h.kept⟩
    simp only [St.toM]
    rw [get_del]
    split
    · rename_i e
      subst e
      exact hy ν
    · exact h.slots u
  cases hv:a.tmps.getD t undef with
  | slice ad m cap =>
    rw [hv] at hr
    cases ad with
    | none =>
      cases rel_d.1 hr with
      | nil=>exact h1 rfl C c1 c2 a w hkp (put _ (fun ν=>by rw [hv]; exact rel_v rfl))
    | some ad=>exact h2 C c1 c2 a w hkp (put _ (fun ν=>by rw [hv]; exact .nns (rel_d.1 hr)))
  | _=>rw [hv] at hr; cases rel_d.1 hr

theorem G.headR:∀ {c:Code} {ops:Array Oper} {l K:List Item} {st:St},Go.Av.headR c=some (ops,l)→(∀ id,G g (.code (.region id ops false) :: (l++K)) st)→G g (.code c :: K) st
  | .seq x y,ops,l,K,st,h,hg=>by
    simp only [Go.Av.headR] at h
    split at h
    · rename_i ops' l' hx
      simp only [Option.some.injEq,Prod.mk.injEq] at h
      obtain ⟨rfl,rfl⟩:=h
      exact .seq (G.headR hx (fun id=>by have:=hg id; rwa [List.append_assoc] at this))
    · cases h
  | .region id ops' false,ops,l,K,st,h,hg=>by
    simp only [Go.Av.headR,Option.some.injEq,Prod.mk.injEq] at h
    obtain ⟨rfl,rfl⟩:=h
    exact hg id
  | .region _ _ true,_,_,_,_,h,_=>by simp [Go.Av.headR] at h
  | .skip,_,_,_,_,h,_=>by simp [Go.Av.headR] at h
  | .cond ..,_,_,_,_,h,_=>by simp [Go.Av.headR] at h
  | .block ..,_,_,_,_,h,_=>by simp [Go.Av.headR] at h
  | .loop ..,_,_,_,_,h,_=>by simp [Go.Av.headR] at h
  | .rangeFunc ..,_,_,_,_,h,_=>by simp [Go.Av.headR] at h
  | .exit ..,_,_,_,_,h,_=>by simp [Go.Av.headR] at h
  | .scope ..,_,_,_,_,h,_=>by simp [Go.Av.headR] at h
  | .label ..,_,_,_,_,h,_=>by simp [Go.Av.headR] at h
  | .goto ..,_,_,_,_,h,_=>by simp [Go.Av.headR] at h
  | .ret,_,_,_,_,h,_=>by simp [Go.Av.headR] at h
  | .refuse ..,_,_,_,_,h,_=>by simp [Go.Av.headR] at h

theorem SimB.put2 {C:Cx} {st:St} {a:Act} {w:World} {S:Nat→Prop} {μ:Mu} (hsim:∀ ν,Sim C st.toM a w S μ ν) {d1 d2:Nat} (hd1:d1 < C.nt) (hd2:d2 < C.nt) (x:Value) (b:Bool) (ds:List Nat) (h1:d1∈ds) (h2:d2∈ds) :
    ∀ ν,Sim C (St.toM ⟨(d2,.d (.v (.bool b))) :: delKeys ds st.sl,st.lb⟩) ((a.put (some d1) x).put (some d2) (.bool b)) w S μ ν:=fun ν=>by
  have h:=hsim ν
  refine ⟨by simp [Act.put,h.tmps],h.defers,fun u=>?_,h.mem,h.inj,h.own,h.stable,h.fresh,h.bound,h.kept⟩
  simp only [St.toM,St.get,look_cons]
  by_cases c2:d2=u
  · subst c2
    simp only [if_true,Act.put]
    rw [getD_set_self _ _ _ (by simp [h.tmps]; exact hd2)]
    exact rel_v rfl
  · simp only [c2,if_false,look_del]
    split
    · rename_i x hx
      split at hx
      · cases hx
      · rename_i hn
        have n1:u≠d1:=fun e=>hn (e ▸ h1)
        have n2:u≠d2:=fun e=>hn (e ▸ h2)
        simp only [Act.put]
        rw [getD_set_other _ _ _ _ n2,getD_set_other _ _ _ _ n1]
        have:=h.slots u
        simp only [St.toM,St.get,hx] at this
        exact this
    · exact .any _

theorem G.next (hm:g.P.follows .mixedOrders=true) {K:List Item} {st:St} {id:Nat} {ops:Array Oper} {it d1 d2 κi κ n:Nat} {f:Nat→Value × D} {s:List Nat} (hreg:regR g.md g.pr ops=true) (hops:isNext ops=some (it,d1,d2)) (hd1:d1 < g.nt) (hd2:d2 < g.nt)
    (hit:St.get st.sl it=.ptr κi 0) (hli:look st.lb κi=some (.it κ n s)) (hl:look st.lb κ=some (.mp n f))
    (hstep:∀ i,i < n→i ∉ s→G g K (nextSt st d1 d2 κi κ n i s)) (hend:(∀ i,i < n→i∈s)→G g K (overSt st d1 d2 it)):G g (.code (.region id ops false) :: K) st:=by
  intro C c1 c2 a w hkp hs
  suffices hw:wpOps C.P ops (fun e a' w'=>e=.normal∧((∃ i,i < n∧i ∉ s∧SimB C (nextSt st d1 d2 κi κ n i s) a' w')∨((∀ i,i < n→i∈s)∧SimB C (overSt st d1 d2 it) a' w'))) (List.range ops.size) a w by
    rw [c1] at hw
    refine G.ops hm hreg hkp (.inl ⟨rfl,hw⟩) (fun a' w' hk' hs'=>?_)
    rcases hs' with ⟨i,hi,hn,hs'⟩ | ⟨he,hs'⟩
    · exact hstep i hi hn C c1 c2 a' w' hk' hs'
    · exact hend he C c1 c2 a' w' hk' hs'
  obtain ⟨S,μ,hsim⟩:=hs
  have h0:=hsim fun _=>false
  rw [← c2] at hd1 hd2
  unfold isNext at hops
  split at hops
  · rename_i o1 o2 hol
    split at hops
    · rename_i it' d1' e1 d2' q1 q2 q3 q4 q5 q6
      rw [Bool.cond_eq_ite] at hops
      split at hops
      · rename_i heq
        have heq:=Nat.eq_of_beq_eq_true heq
        subst heq
        simp only [Option.some.injEq,Prod.mk.injEq] at hops
        obtain ⟨rfl,rfl,rfl⟩:=hops
        have hops:ops = #[o1,o2]:=by cases ops; simpa using hol
        subst hops
        show wpOps C.P #[o1,o2] _ [0,1] a w
        have w1:∀ y,Region.wanted o1 y=true:=fun y=>by simp [Region.wanted,q3]
        have w2:∀ y,Region.wanted o2 y=true:=fun y=>by simp [Region.wanted,q6]
        have hr:=h0.slots it'
        simp only [St.toM,hit] at hr
        generalize hiv:a.tmps.getD it' undef=iv at hr
        cases hr with
        | @ptr _ _ gi ci hμi =>
          have hmi:=h0.mem κi _ hli
          rw [hμi] at hmi
          have hmi':=hmi.at
          obtain ⟨mg,c,hμ,hgi,hnsi⟩:=hmi'
          have hme:=h0.mem κ _ hl
          rw [hμ] at hme
          obtain ⟨cur,hg,hns,hsz,hcell⟩:=hme.at
          have hev:a.eval (.tmp it')=.pointer (some ⟨gi,0,none⟩):=hiv
          have hborn:∀ x,x∈cur.toList→x.born < n:=fun x hx=>by
            obtain ⟨q,hq,rfl⟩:=List.getElem_of_mem hx
            have hqn:q < n:=by simpa [hsz] using hq
            obtain ⟨e,y1,_,_,y4,_⟩:=hcell q hqn
            have:cur.toList[q]=e:=by simpa using (Array.getElem?_eq_some_iff.1 y1).2
            rw [this,y4]; exact hqn
          have ext:∀ (a':Act) (w':World) (b:Bool) (rest:List Value),a'.eval (.tmp d1')=.tuple (#[.bool b]++rest.toArray)→(execOp a'.eval o2).run C.P w'=.ok (.value (.bool b)) w':=fun a' w' b rest hh=>by
            simp [execOp,q4,hh,Instr.extract]
          have putd:∀ (x:Value),(a.put (some d1') x).eval (.tmp d1')=x:=fun x=>by
            show (a.tmps.setIfInBounds d1' x).getD d1' undef=x
            exact getD_set_self _ _ _ (by rw [h0.tmps]; exact hd1)
          rcases run_next_at (P:=C.P) w o1.type gi mg n n s.reverse.toArray cur n hgi hg hborn (Nat.le_refl _) with ⟨hz,hrun⟩ | ⟨e,he,wd,hwd,hrun⟩
          · simp only [wpOps,List.getElem?_toArray,List.getElem?_cons_zero,List.getElem?_cons_succ,w1,w2,if_true]
            left
            unfold Oper.wp
            have hx:(execOp a.eval o1).run C.P w=.ok (.value (.tuple #[.bool false])) w:=by
              simp only [execOp,q1,hev,Sem.run_bind,hrun,Result.andThen_ok,Sem.run_pure]
            rw [hx,Oper.upon_value,q2]
            left
            rw [ext (a.put (some d1') (.tuple #[.bool false])) w false [] (by rw [putd]; rfl),Oper.upon_value,q5]
            refine ⟨trivial,.inr ⟨fun i hi=>?_,⟨S,μ,SimB.put2 hsim hd1 hd2 _ false [d1',d2',it'] (by simp) (by simp)⟩⟩⟩
            have:∀ x,x∈cur.toList→x.born∈s:=fun x hx=>by
              have hz':leftOf cur s.reverse.toArray = #[]:=Array.eq_empty_of_size_eq_zero hz
              unfold leftOf at hz'
              rw [Array.filter_eq_empty_iff] at hz'
              have:=hz' x (by simpa using hx)
              simpa using this
            obtain ⟨e,y1,_,_,y4,_⟩:=hcell i hi
            have hm:e∈cur.toList:=by
              have:=(Array.getElem?_eq_some_iff.1 y1)
              obtain ⟨hlt,rfl⟩:=this
              simp
            have:=this e hm
            rwa [y4] at this
          · simp only [wpOps,List.getElem?_toArray,List.getElem?_cons_zero,List.getElem?_cons_succ,w1,w2,if_true]
            left
            unfold Oper.wp
            have hx:(execOp a.eval o1).run C.P w=.ok (.value (.tuple #[.bool true,e.key,e.val])) (ChangeMaps.setBlock wd gi (.mapIter (some mg) n (s.reverse.toArray.push e.born) n)):=by
              simp only [execOp,q1,hev,Sem.run_bind,hrun,Result.andThen_ok,Sem.run_pure]
            rw [hx,Oper.upon_value,q2]
            left
            rw [ext (a.put (some d1') (.tuple #[.bool true,e.key,e.val])) _ true [e.key,e.val] (by rw [putd]; rfl),Oper.upon_value,q5]
            have hmem:e∈cur.toList∧e.born ∉ s:=by
              unfold leftOf at he
              simpa using he
            refine ⟨trivial,.inl ⟨e.born,hborn e hmem.1,hmem.2,?_⟩⟩
            have hwd1:Kept w wd (fun _=>False):=by
              rcases hwd with rfl | rfl
              · exact Kept.refl _ _
              · exact ⟨rfl,rfl,rfl,Nat.le_refl _,fun _ _ _=>rfl⟩
            have hgi1:wd.heap[gi]? = some (.mapIter (some mg) n s.reverse.toArray n):=by rcases hwd with rfl | rfl <;> exact hgi
            have hsim1:∀ ν,Sim C st.toM a wd S μ ν:=fun ν=>(hsim ν).world (fun _ x=>x) (fun _ x=>.inl x) hwd1
            have hset:ChangeMaps.setBlock wd gi (.mapIter (some mg) n (s.reverse.toArray.push e.born) n)=World.setO wd gi (.mapIter (some mg) n (s.reverse.toArray.push e.born) n):=rfl
            rw [hset]
            have hsim2:∀ ν,Sim C (st.toM.set κi (some (.it κ n (e.born :: s)))) a (World.setO wd gi (.mapIter (some mg) n (s.reverse.toArray.push e.born) n)) S μ ν:=fun ν=>(hsim1 ν).writeW (b:=.it κ n s) hli hμi (setO_kept gi _) ⟨mg,c,hμ,by rw [setO_at _ hgi1]; simp,hnsi⟩
            have hst:(St.toM ⟨st.sl,(κi,.it κ n (e.born :: s)) :: delKeys [κi] st.lb⟩)=st.toM.set κi (some (.it κ n (e.born :: s))):=by
              unfold St.toM M.set
              congr 1
              funext q
              rw [look_cons,look_del]
              by_cases hq:κi=q
              · subst hq; simp
              · have:q ∉ [κi]:=by simp; exact fun e=>hq e.symm
                have hq':¬ q=κi:=fun e=>hq e.symm
                simp [hq,hq']
            exact ⟨S,μ,SimB.put2 (st:=⟨st.sl,(κi,.it κ n (e.born :: s)) :: delKeys [κi] st.lb⟩) (fun ν=>by rw [hst]; exact hsim2 ν) hd1 hd2 _ true [d1',d2'] (by simp) (by simp)⟩
      · cases hops
    · cases hops
  · cases hops

theorem asgD_ok (hT:TOk g.P g.T) (hm:g.P.follows .mixedOrders=true) {rm:Nat}:∀ (n:Nat) {todo k:List Item} {st st':St} {c:CT},asgD g.P g.T g.nt rm g.md g.pr n todo st=some (k,st',c)→c.ok→G g k st'→G g todo st
  | 0,_,_,_,_,_,h,_,_=>by cases h
  | n+1,todo,k,st,st',c,h,hc,hg=>by
    unfold asgD at h
    split at h
    · simp only [Option.some.injEq,Prod.mk.injEq] at h
      obtain ⟨rfl,rfl,rfl⟩:=h
      exact hg
    · split at h
      · rename_i k1 st1 c1 hs
        split at h
        · rename_i k2 st2 c2 hr
          simp only [Option.some.injEq,Prod.mk.injEq] at h
          obtain ⟨rfl,rfl,rfl⟩:=h
          exact stepD_ok hT hm hs hc.1 (asgD_ok hT hm n hr hc.2 hg)
        · cases h
      · cases h

theorem chk_sound:∀ (n:Nat) {g:Goal} (hT:TOk g.P g.T) (hm:g.P.follows .mixedOrders=true) (hf:g.P.funcs[g.f]? = some g.fn) (hz:g.md=0→g.Nrm∧∀ {C C' b cs m},Reb C C'→g.Z C' b cs m→g.Z C b cs m) (rm:Nat) {α:Type} (todo:List Item) (st:St) (L:α→Leaf) (sk:Sk α) (lp:α→Prop),
    (chk g.P g.T g.nt g.fn.results.toList rm g.md g.pr n todo st L sk).ok→sk.obs lp→(∀ a,a=sk.val→lp a→LeafOK g (L a))→G g todo st
  | 0,_,_,_,_,_,_,_,todo,st,L,sk,lp,h,_,_=>h.elim
  | n+1,g,hT,hm,hf,hz,rm,α,todo,st,L,sk,lp,h,ho,hL=>by
    have ih:=fun {α:Type}=>chk_sound n hT hm hf hz rm (α:=α)
    unfold chk at h
    split at h
    · -- op
      rename_i κ k
      split at h
      · rename_i hl
        exact G.op hl fun m _=>ih _ _ L (k m) lp (h m) (ho m).2 (fun a ha=>hL a (ha.trans (ho m).1))
      · exact h.elim
    · -- oq
      rename_i κ q k
      split at h
      · rename_i q' hl
        obtain ⟨h0,h⟩:=h
        have h0:q'=q:=h0
        subst h0
        exact G.op hl fun m hm=>ih _ _ L (k m) lp (h m) (ho m hm).2 (fun a ha=>hL a (ha.trans (ho m hm).1))
      · exact h.elim
    · -- cq
      rename_i κ m q' k
      split at h
      · rename_i q f hl
        obtain ⟨h1,h2,h3⟩:=h
        exact G.cl hl h1 h2 ho.1 (ih _ _ L k lp h3 ho.2 hL)
      · exact h.elim
    · -- cl
      rename_i κ m k
      split at h
      · rename_i q f hl
        obtain ⟨h1,h2,h3⟩:=h
        exact G.cl hl h1 h2 (q:=mxT) trivial (ih _ _ L k lp h3 ho hL)
      · exact h.elim
    · -- ot
      rename_i κ Q ln en d k
      split at h
      · rename_i q' hl
        obtain ⟨h0,h⟩:=h
        have h0:q'=_:=h0
        subst h0
        refine G.opbl hl (Q:=Q) (b':=fun m=>.mp (ln m) (en m)) (fun w S μ y hy=>?_) fun m hm=>ih _ _ L (k m) lp (h m) (ho m hm).2 (fun a ha=>hL a (ha.trans (ho m hm).1))
        match y,hy with
        | some (some (g,c)),hy =>
          obtain ⟨n0,f0,⟨m,hq,h1,h2⟩,hy⟩:=hy
          subst h1; subst h2
          exact ⟨m,hq,hy⟩
      · exact h.elim
    · -- ct
      rename_i κ Q ln en y k
      split at h
      · rename_i q f hl
        obtain ⟨h1,h2,h3⟩:=h
        have h1:q=_:=h1
        have h2:f=_:=h2
        subst h1; subst h2
        refine G.rebl hl (fun w S μ z hz=>?_) (ih _ _ L k lp h3 ho.2 hL)
        match z,hz with
        | some (some (g,c)),hz=>exact ⟨_,_,⟨y,ho.1,rfl,rfl⟩,hz⟩
      · exact h.elim
    · -- orr
      rename_i κ Q en d k
      split at h
      · rename_i e q m0 q' hl
        obtain ⟨h0,h⟩:=h
        have h0:q'=_:=h0
        subst h0
        refine G.opbl hl (Q:=Q) (b':=fun y=>.row e q m0 (en y)) (fun w S μ y hy=>?_) fun m hm=>ih _ _ L (k m) lp (h m) (ho m hm).2 (fun a ha=>hL a (ha.trans (ho m hm).1))
        match y,hy with
        | some none,hy =>
          obtain ⟨h1,f0,m,hq,h2⟩:=hy
          exact ⟨m,hq,h1⟩
        | some (some (g,c)),hy =>
          obtain ⟨f0,⟨m,hq,h2⟩,hy⟩:=hy
          subst h2
          exact ⟨m,hq,hy⟩
      · exact h.elim
    · -- cr
      rename_i κ m' Q en y k
      split at h
      · rename_i e q m f hl
        obtain ⟨h1,h2,h3⟩:=h
        have h1:m=m':=h1
        have h2:f=_:=h2
        subst h1; subst h2
        refine G.rebl hl (fun w S μ z hz=>?_) (ih _ _ L k lp h3 ho.2 hL)
        match z,hz with
        | some none,hz=>exact ⟨hz,_,y,ho.1,rfl⟩
        | some (some (g,c)),hz=>exact ⟨_,⟨y,ho.1,rfl⟩,hz⟩
      · exact h.elim
    · -- fm
      rename_i κ k
      split at h
      · rename_i q f hl
        obtain ⟨h1,h2,h3⟩:=h
        exact G.le (LeS.fm hl h1 h2) (ih _ _ L k lp h3 ho hL)
      · exact h.elim
    · -- fb
      rename_i κ k
      split at h
      · rename_i cs hl
        split at h
        · rename_i ds hp
          obtain ⟨h1,h2,h3⟩:=h
          exact G.le (LeS.fb hl hp h1 h2) (ih _ _ L k lp h3 ho hL)
        · exact h.elim
      · exact h.elim
    · -- up
      rename_i u k
      exact G.le (leSt_le h.1) (ih _ _ L k lp h.2 ho hL)
    · -- nr
      rename_i t κ e q f k
      split at h
      · rename_i hts
        obtain ⟨h0,h⟩:=h
        exact G.nr hts h0 (ih _ _ L k lp h ho hL)
      · exact h.elim
    · -- clr
      rename_i id x c k
      split at h
      · rename_i i ops K
        rw [Bool.cond_eq_ite] at h
        split at h
        · split at h
          · rename_i ts ti ty d1 d2 d3 hcl
            split at h
            · rename_i κ m xx e' _ _ _ _ hts hti hty
              split at h
              · rename_i e q m2 f ii hl he
                obtain ⟨h0,h1,h2,h3,h4,h5⟩:=h
                have h0:(Nat.ble (d1+1) g.nt&&Nat.ble (d2+1) g.nt&&Nat.ble (d3+1) g.nt&&regR g.md g.pr ops&&Nat.beq e e'&&Nat.beq q ii.size&&ii.zero.all oneD&&!Nat.beq ts d1&&!Nat.beq ts d2&&!Nat.beq ts d3)=true:=h0
                simp only [Bool.and_eq_true,Bool.not_eq_true'] at h0
                obtain ⟨⟨⟨⟨⟨⟨⟨⟨⟨b1,b2⟩,b3⟩,b4⟩,b5⟩,b6⟩,b7⟩,b8⟩,b9⟩,b10⟩:=h0
                have h1:xx=x:=h1
                have h2:m=m2:=h2
                have h3:m=c.n:=h3
                have h4:clrF xx.toNat f ii.zero=c.f:=h4
                have b5:=Nat.eq_of_beq_eq_true b5
                have b6:=Nat.eq_of_beq_eq_true b6
                subst h1; subst h2; subst b5
                obtain ⟨⟨o1,o2⟩,o3⟩:=ho
                have ne:∀ d,Nat.beq ts d=false→¬ ts=d:=fun d hd e=>by rw [e,Nat.beq_refl] at hd; cases hd
                refine G.clr hT hm b4 hcl (Nat.le_of_ble_eq_true b1) (Nat.le_of_ble_eq_true b2) (Nat.le_of_ble_eq_true b3) hts hti hl hty rfl he b6 b7 o1 (by rw [h3]; exact o2) (.le ?_ (.keep _ (ih _ _ L k lp h5 o3 hL)))
                have hcn:m=c.n':=h3.trans c.eq.1
                rintro C a w ⟨S,μ,hsim⟩
                refine ⟨S,μ,fun ν=>(hsim ν).weaken (fun t v hv=>?_) (fun κ' b' hb'=>?_)⟩
                · simp only [St.toM,St.get,look_cons,look_del] at hv ⊢
                  by_cases ht:ts=t
                  · subst ht
                    simp only [if_true]
                    rw [if_neg (by simp only [List.mem_cons,List.not_mem_nil,or_false,not_or]; exact ⟨ne _ b8,ne _ b9,ne _ b10⟩)] at hv
                    simp only [St.get] at hts
                    rw [hts,hcn] at hv
                    exact hv
                  · have e1:(t∈[ts,d1,d2,d3])↔(t∈[d1,d2,d3]):=by
                      rw [List.mem_cons]
                      exact ⟨fun h=>h.elim (fun e=>absurd e.symm ht) (fun h=>h),.inr⟩
                    simp only [ht,if_false,e1]
                    exact hv
                · simp only [St.toM,look_cons,look_del] at hb' ⊢
                  by_cases hk:κ=κ'
                  · simp only [hk,if_true,Option.some.injEq] at hb' ⊢
                    subst hb'
                    refine ⟨_,rfl,fun y hy=>?_⟩
                    rw [h4] at hy
                    exact row_ok hcn (fun i hi=>c.eq.2 i (by rw [← h3]; exact hi)) y hy
                  · simp only [hk,if_false] at hb' ⊢
                    exact ⟨b',hb',fun _ h=>h⟩
              · exact h.elim
            · exact h.elim
          · exact h.elim
        · split at h
          · rename_i k0 st1 c0 hs
            exact stepD_ok hT hm hs h.1 (ih _ _ L (.clr id x c k) lp h.2 ho hL)
          · exact h.elim
      · split at h
        · rename_i k0 st1 c0 hs
          exact stepD_ok hT hm hs h.1 (ih _ _ L (.clr id x c k) lp h.2 ho hL)
        · exact h.elim
    · -- wi
      rename_i t a b k
      obtain ⟨h1,h2⟩:=h
      obtain ⟨o1,o2⟩:=ho
      refine .le (LeS.put t h1 (y:=.d (.v (.int .i64 b))) ?_) (ih _ _ L k lp h2 o2 hL)
      subst o1
      exact AvLe.rfl'
    · -- bnd
      rename_i t j m k
      split at h
      · rename_i q hq
        obtain ⟨h1,h2⟩:=h
        have h1:q=m:=h1
        subst h1
        exact G.lenAt hq fun hb=>ih _ _ L k lp h2 (ho hb) hL
      · exact h.elim
    · -- wn
      rename_i κ a b k
      obtain ⟨h1,h2,h3⟩:=h
      obtain ⟨o1,o2⟩:=ho
      subst o1
      rw [wnSl_eq h1,wnLb_eq h2] at h3
      exact ih _ _ L k lp h3 o2 hL
    · -- wr
      rename_i κ a b k
      obtain ⟨h1,h2,h3⟩:=h
      obtain ⟨o1,o2⟩:=ho
      subst o1
      rw [wnSl_eq h1,wnLb_eq h2] at h3
      exact ih _ _ L k lp h3 o2 hL
    · exact (ho:False).elim
    · -- nsp
      rename_i t m k1 k2
      split at h
      · rename_i q f hq
        obtain ⟨h1,h2,h3⟩:=h
        have h1:q=m:=h1
        subst h1
        refine G.nsp hq (fun h0=>?_) (ih _ _ L k2 lp h3 ho.2 hL)
        exact ih _ _ L k1 lp h2 (ho.1 h0).1 (fun a ha=>hL a (by rw [ha,(ho.1 h0).2]; rfl))
      · exact h.elim
    · -- fz
      rename_i κ k
      split at h
      · rename_i e0 k0 q f hq
        exact .le (LeS.fz hq h.1 h.2.1) (ih _ _ L k lp h.2.2 ho hL)
      · exact h.elim
    · -- mr
      rename_i γ m V init u v b k
      split at h
      · rename_i c K
        split at h
        · rename_i ops l hh
          split at h
          · rename_i it d1 d2 hn
            rw [Bool.cond_eq_ite] at h
            split at h
            · rename_i hb
              simp only [Bool.and_eq_true] at hb
              have hd1:=Nat.le_of_ble_eq_true hb.1.1
              have hd2:=Nat.le_of_ble_eq_true hb.1.2
              obtain ⟨h1,h2,h3⟩:=h
              obtain ⟨oi,ob,oc,o3⟩:=ho
              have hV:∀ s g i,V s g→i < m→i ∉ s→V (i :: s) ((b g i).val):=fun s g i hg hi hn=>(b g i).pval (ob s g i hg hi hn).1
              have o1:∀ s:List Nat,s.Perm (List.range m)→s.foldr (fun i g=>(b g i).val) init=(List.range m).foldr (fun i g=>(b g i).val) init:=fun s hs=>foldr_comm (f:=fun g i=>(b g i).val) hV oc oi hs (hs.nodup_iff.2 List.nodup_range) (fun i hi=>List.mem_range.1 (hs.mem_iff.1 hi))
              have o2:∀ (s:List Nat) (i:Nat),s.Nodup→(∀ j,j∈s→j < m)→i < m→i ∉ s→(b (s.foldr (fun i g=>(b g i).val) init) i).obs fun _=>True:=fun s i hd hs hi hn=>(ob s _ i (foldr_inv (f:=fun g i=>(b g i).val) hV oi s hd hs) hi hn).2
              have key:∀ (q:Nat) (s:List Nat),s.Nodup→(∀ j,j∈s→j < m)→m - s.length < q→G g (.code c :: .inLoop c :: K) (st.upd (Nat.lor rm (todoM (.inLoop c :: K))) (u (s.foldr (fun i g=>(b g i).val) init) s)):=by
                intro q
                induction q with
                | zero=>intro s _ _ hlt; omega
                | succ q ihq =>
                  intro s hnd hlt hq
                  have h2:=h2 (s.foldr (fun i g=>(b g i).val) init) s
                  dsimp only at h2
                  split at h2
                  · rename_i κi hit
                    split at h2
                    · rename_i κ m1 s1 hli
                      split at h2
                      · rename_i m2 f hl
                        obtain ⟨e1,e2,e3,e4,e5⟩:=h2
                        have e1:m1=m:=e1
                        have e2:m2=m:=e2
                        have e3:s1=s:=e3
                        subst e1; subst e2; subst e3
                        refine G.headR hh (fun id=>G.next hm hb.2 hn hd1 hd2 hit hli hl (fun i hi hni=>?_) (fun hall=>?_))
                        · refine ih _ _ _ (b _ i) _ (e5 i) (o2 s1 i hnd hlt hi hni) (fun g' hg' _=>?_)
                          subst hg'
                          refine .inLoop (ihq (i :: s1) (List.nodup_cons.2 ⟨hni,hnd⟩) (fun j hj=>?_) ?_)
                          · rcases List.mem_cons.1 hj with rfl | hj
                            · exact hi
                            · exact hlt j hj
                          · have hle:(i :: s1).length≤m2:=by
                              have:=List.Nodup.length_le_of_subset (l₁:=i :: s1) (l₂:=List.range m2) (List.nodup_cons.2 ⟨hni,hnd⟩) (fun j hj=>by
                                rcases List.mem_cons.1 hj with rfl | hj
                                · exact List.mem_range.2 hi
                                · exact List.mem_range.2 (hlt j hj))
                              simpa using this
                            simp only [List.length_cons] at hle ⊢
                            omega
                        · have hp:s1.Perm (List.range m2):=(List.perm_ext_iff_of_nodup hnd List.nodup_range).2 (fun j=>⟨fun hj=>List.mem_range.2 (hlt j hj),fun hj=>hall j (List.mem_range.1 hj)⟩)
                          refine .le (leSt_le e4) ?_
                          rw [o1 s1 hp]
                          exact ih _ _ L (k _) lp (h3 _) (o3 _ rfl (foldr_inv (f:=fun g i=>(b g i).val) hV oi _ List.nodup_range (fun i hi=>List.mem_range.1 hi))) hL
                      · exact h2.elim
                    · exact h2.elim
                  · exact h2.elim
              intro C c1 c2 a w hkp hs
              exact (key (m+1) [] List.nodup_nil (fun j hj=>by cases hj) (by simp) C c1 c2 a w hkp (leSt_le h1 C a w hs)).step fun _ _=>.one stepR_loop
            · exact h.elim
          · exact h.elim
        · exact h.elim
      · split at h
        · rename_i k0 st1 c hs
          exact stepD_ok hT hm hs h.1 (ih _ _ L (.mr m V init u v b k) lp h.2 ho hL)
        · exact h.elim
    · -- brt
      rename_i x
      split at h
      · exact .cond h.1 (fun _=>ih _ _ L x lp h.2 ho hL) (fun he=>by cases he)
      · split at h
        · rename_i k st1 c hs
          exact stepD_ok hT hm hs h.1 (ih _ _ L (.brt x) lp h.2 ho hL)
        · exact h.elim
    · -- brf
      rename_i x
      split at h
      · exact .cond h.1 (fun he=>by cases he) (fun _=>ih _ _ L x lp h.2 ho hL)
      · split at h
        · rename_i k st1 c hs
          exact stepD_ok hT hm hs h.1 (ih _ _ L (.brf x) lp h.2 ho hL)
        · exact h.elim
    · -- cas
      rename_i t c x y k1 k2
      obtain ⟨h1,h2,h3⟩:=h
      have h1:St.get st.sl t=casA c x y:=h1
      rw [casA_eq] at h1
      cases c with
      | true=>exact .le (LeS.put t h1 AvLe.rfl') (ih _ _ L k1 lp h2 (ho.1 rfl) hL)
      | false=>exact .le (LeS.put t h1 AvLe.rfl') (ih _ _ L k2 lp h3 (ho.2 rfl) hL)
    · -- fin
      rename_i a
      have hla:=hL a rfl ho
      split at h
      · rename_i todo' st' hl
        rw [hl] at hla
        rw [Bool.cond_eq_ite] at h
        split at h
        · obtain ⟨h1,h2⟩:=h
          have h1:todo=todo':=h1
          subst h1
          exact .le (leSt_le h2) hla
        · split at h
          · rename_i k st1 c hs
            exact stepD_ok hT hm hs h.1 (ih _ _ L (.fin a) lp h.2 ho hL)
          · exact h.elim
      · rename_i id st' hl
        rw [hl] at hla
        split at h
        · rename_i id' k
          rw [Bool.cond_eq_ite] at h
          split at h
          · rename_i hb
            simp only [Bool.and_eq_true,Option.isNone_iff_eq_none] at hb
            obtain rfl:=Nat.eq_of_beq_eq_true hb.1
            exact .le (leSt_le h) (hla k hb.2)
          · split at h
            · rename_i k st1 c hs
              exact stepD_ok hT hm hs h.1 (ih _ _ L (.fin a) lp h.2 ho hL)
            · exact h.elim
        · split at h
          · rename_i k st1 c hs
            exact stepD_ok hT hm hs h.1 (ih _ _ L (.fin a) lp h.2 ho hL)
          · exact h.elim
      · rename_i x lbs hl
        rw [hl] at hla
        split at h
        · exact (retC_ok hla.1 hT hf h hla.2.1 hla.2.2).1
        · exact (retC_ok hla.1 hT hf h hla.2.1 hla.2.2).2 _
        · split at h
          · rename_i k st1 c hs
            exact stepD_ok hT hm hs h.1 (ih _ _ L (.fin a) lp h.2 ho hL)
          · exact h.elim
      · rename_i x lbs anc hl
        rw [hl] at hla
        split at h
        · exact (retCB_ok hla.1 hT hf h hla.2.1 hla.2.2).1
        · exact (retCB_ok hla.1 hT hf h hla.2.1 hla.2.2).2 _
        · split at h
          · rename_i k st1 c hs
            exact stepD_ok hT hm hs h.1 (ih _ _ L (.fin a) lp h.2 ho hL)
          · exact h.elim
      · exact h.elim
    · -- br
      rename_i e x y
      split at h
      · rename_i c p q k
        obtain ⟨h1,h2,h3⟩:=h
        refine .cond h1 (fun he=>?_) (fun he=>?_)
        · exact ih _ _ L x lp h2 (ho.1 he) (fun a ha=>hL a (by rw [ha]; simp [Sk.val,he]))
        · exact ih _ _ L y lp h3 (ho.2 he) (fun a ha=>hL a (by rw [ha]; simp [Sk.val,he]))
      · split at h
        · rename_i k st1 c hs
          exact stepD_ok hT hm hs h.1 (ih _ _ L (.br e x y) lp h.2 ho hL)
        · exact h.elim
    · -- r
      rename_i β id cl kk
      split at h
      · rename_i i ops draw k
        rw [Bool.cond_eq_ite] at h
        split at h
        · have h:=h cl.v
          dsimp only at h
          split at h
          · rename_i st' ob hr
            obtain ⟨h0,h1,h2,h3⟩:=h
            have h2:ob.prop=cl.claim cl.v:=h2
            exact .region hT hm h0 hr (Ob.den_of h1 (fun p hp=>cl.pf ho.1 p (h2 ▸ hp))) (.keep _ (ih _ _ L (kk cl.v) lp h3 (ho.2 _ rfl cl.hp) hL))
          · exact h.elim
        · split at h
          · rename_i k st1 c hs
            exact stepD_ok hT hm hs h.1 (ih _ _ L (.r id cl kk) lp h.2 ho hL)
          · exact h.elim
      · split at h
        · rename_i k st1 c hs
          exact stepD_ok hT hm hs h.1 (ih _ _ L (.r id cl kk) lp h.2 ho hL)
        · exact h.elim
    · -- bind at a block
      rename_i β J s u kk
      split at h
      · rename_i id c k
        obtain ⟨h1,h2⟩:=h
        refine .block (ih _ _ _ s _ h1 ho.1 (fun q hq hlq=>?_))
        cases q with
        | inl a=>exact hL a (by simp only [Sk.val,← hq,pickS]) hlq
        | inr b=>exact ih _ _ L (kk b) lp (h2 b) (ho.2 b hq.symm hlq) (fun a ha=>hL a (by rw [ha]; simp only [Sk.val,← hq,pickS]))
      · split at h
        · rename_i k st1 c hs
          exact stepD_ok hT hm hs h.1 (ih _ _ L (.bind true J s u kk) lp h.2 ho hL)
        · exact h.elim
    · -- bind at a choice
      rename_i β J s u kk
      split at h
      · rename_i c p q k
        obtain ⟨h1,h2⟩:=h
        refine ih _ _ _ s _ h1 ho.1 (fun q hq hlq=>?_)
        cases q with
        | inl a=>exact hL a (by simp only [Sk.val,← hq,pickS]) hlq
        | inr b=>exact ih _ _ L (kk b) lp (h2 b) (ho.2 b hq.symm hlq) (fun a ha=>hL a (by rw [ha]; simp only [Sk.val,← hq,pickS]))
      · split at h
        · rename_i k st1 c hs
          exact stepD_ok hT hm hs h.1 (ih _ _ L (.bind false J s u kk) lp h.2 ho hL)
        · exact h.elim
    · -- loop
      rename_i ι d I m i0 u b
      split at h
      · rename_i c k
        obtain ⟨h1,h2⟩:=h
        obtain ⟨o1,o2⟩:=ho
        have key:∀ (q:Nat) (i:ι),I i→m i < q→(∀ a,a=iter (fun i=>(b i).val) d q i→lp a→LeafOK g (L a))→G g (.code c :: .inLoop c :: k) (st.upd (Nat.lor rm (todoM (.inLoop c :: k))) (u i)):=by
          intro q
          induction q with
          | zero=>intro i _ hlt; omega
          | succ q ihq =>
            intro i hi hlt hla
            refine ih _ _ _ (b i) _ (h2 i) (o2 i hi) (fun r hr hlr=>?_)
            cases r with
            | inl a=>exact hla a (by simp only [iter,← hr]) hlr
            | inr j=>exact .inLoop (ihq j hlr.1 (by have:=hlr.2; omega) (fun a ha=>hla a (by rw [ha]; simp only [iter,← hr])))
        intro C c1 c2 a w hkp hs
        exact (key (m i0+1) i0 o1 (Nat.lt_succ_self _) hL C c1 c2 a w hkp (leSt_le h1 C a w hs)).step fun _ _=>.one stepR_loop
      · split at h
        · rename_i k st1 c hs
          exact stepD_ok hT hm hs h.1 (ih _ _ L (.loop d I m i0 u b) lp h.2 ho hL)
        · exact h.elim
    · -- rf
      rename_i σ β Y it I B id s0 u v b kk
      split at h
      · rename_i t ps asg body k
        obtain ⟨h1,h2,h3,h4,h5,h6,h7,h8,h9,h10⟩:=h
        obtain ⟨o1,o2,o3,o4⟩:=ho
        have hpr:g.md=0:=Nat.eq_of_beq_eq_true h1
        obtain ⟨hn,hreb⟩:=hz hpr
        have h4:some (ItA g.P it.gf it.caps (it.ys.map it.enc))=some (ItA it.P it.gf it.caps (it.ys.map it.enc)):=h4
        have hit:ItA g.P it.gf it.caps (it.ys.map it.enc):=by rw [Option.some.inj h4]; exact it.pf o1
        have hleaf:=fun i s y hs hy=>(b s y).pval (o3 i s y hs hy).1
        generalize hmm:rfM rm (Item.code (.rangeFunc (.tmp t) ps asg body) :: k)=mm at *
        refine G.rf hn hreb it.ys it.enc (fun s y=>(b s y).val) s0 I (keepM mm (delKeys [] st.sl)) (fun s=>st.upd mm ⟨[],u s⟩) (fun a=>st.upd mm ⟨[],v a⟩) id
          (fun s y=>asgSt g.P g.T g.nt mm 1 ((keepM mm (delKeys [] st.sl)).map (·.1)) n [.code asg,.beginRound,.code body] ⟨zipSl ps.toList (it.enc y)++keepM mm (delKeys [] st.sl),(st.upd mm ⟨[],u s⟩).lb⟩)
          (fun _=>rfl) (fun _=>rfl) (leSt_le h6) h2 h3 hit h5 (fun y _=>h7 y) o2 (fun i s y hs hy=>?_) (fun s y tm Z zs hy hg=>?_) (fun i s y tm Z zs hs hy hg=>?_) ?_
        · have:=hleaf i s y hs hy
          show match (b s y).val with | .inl _=>True | .inr s'=>I (i+1) s'
          cases e:(b s y).val with
          | inl a=>trivial
          | inr s'=>rw [e] at this; exact this
        · have h8:=(h8 s y).1
          unfold asgC at h8
          unfold asgSt at hg
          split at h8
          · rename_i k' st2 c ha
            rw [ha] at hg
            have hk:k'=[.beginRound,.code body]:=h8.2
            subst hk
            exact asgD_ok (g:=g.round _ tm Z zs) hT hm n ha h8.1 hg
          · exact h8.elim
        · have h8:=(h8 s y).2
          refine chk_sound n (g:=g.round _ tm Z zs) hT hm hf (fun e=>by cases e) mm _ _ _ (b s y) (leafJ B (I (i+1))) h8 (o3 i s y hs hy).2 (fun q hq hlq=>?_)
          have hg:(match (b s y).val with | .inr s'=>G (g.round _ tm Z zs) [] (st.upd mm ⟨[],u s'⟩) | .inl b=>∀ k',exitTo id k'=none→G (g.round _ tm Z zs) (.code (.exit id) :: k') (st.upd mm ⟨[],v b⟩)):=hg
          cases q with
          | inl a=>rw [← hq] at hg; exact hg
          | inr j=>rw [← hq] at hg; exact hg
        · have hr:=o4 _ rfl (leafJ_run it.ys hleaf s0 o2)
          cases e:runY (fun s y=>(b s y).val) it.ys s0 with
          | inr s =>
            rw [e] at hr
            exact ih _ _ L (kk (.inr s)) lp (h9 s) hr (fun a ha=>hL a (by rw [ha]; simp only [Sk.val,e]))
          | inl a =>
            rw [e] at hr
            exact ih _ _ L (kk (.inl a)) lp (h10 a) hr (fun a' ha=>hL a' (by rw [ha]; simp only [Sk.val,e]))
      · split at h
        · rename_i k st1 c hs
          exact stepD_ok hT hm hs h.1 (ih _ _ L (.rf it I B id s0 u v b kk) lp h.2 ho hL)
        · exact h.elim
    · -- rx
      rename_i γ E β δ id cl c z err kk
      split at h
      · rename_i i ops draw k
        rw [Bool.cond_eq_ite] at h
        split at h
        · obtain ⟨h1,h2⟩:=h cl.v
          obtain ⟨o1,o2⟩:=ho
          obtain ⟨o3,o4⟩:=o2 _ rfl cl.hp
          have o4:=o4 _ rfl (c cl.v).hp
          cases hv:(c cl.v).v with
          | ok b =>
            rw [hv] at o4
            obtain ⟨o5,o6⟩:=o4
            have h1:=h1 b (z cl.v b).v
            dsimp only at h1
            split at h1
            · rename_i st' ob hr
              obtain ⟨q0,q1,q2,q3⟩:=h1
              have q2:ob.prop=_:=q2
              refine .region hT hm q0 hr (Ob.den_of q1 (fun p hp=>?_)) (.keep _ (ih _ _ L _ lp q3 (o6 _ rfl (z cl.v b).hp) (fun a ha=>hL a (by rw [ha]; simp only [Sk.val,hv,okX]))))
              have mk:∀ {x y:Option Prop},(∀ p,x=some p→p)→(∀ p,y=some p→p)→∀ p,andO x y=some p→p:=fun {x y} m1 m2 p e=>by
                cases x with
                | none=>exact m2 p (by simpa [andO] using e)
                | some a =>
                  cases y with
                  | none=>exact m1 p (by simpa [andO] using e)
                  | some b =>
                    simp only [andO,Option.some.injEq] at e
                    exact e ▸ ⟨m1 a rfl,m2 b rfl⟩
              exact mk (cl.pf o1) (mk ((c cl.v).pf o3 b hv) ((z cl.v b).pf o5)) p (q2 ▸ hp)
            · exact h1.elim
          | error e =>
            rw [hv] at o4
            have hleaf:=hL (err e) (by simp only [Sk.val,hv,okX]) o4
            split at h2
            · rename_i j o hj
              split at h2
              · rename_i trs st1 gl orc' ob hev
                obtain ⟨q1,q2,q3,h2⟩:=h2
                have q2:ob.prop=_:=q2
                have q3:(trs.all (fun τ=>τ.created.all (freshB st))&&o.guard.isNone&&!Nat.beq g.md 1&&regR g.md g.pr ops)=true:=q3
                simp only [Bool.and_eq_true,Bool.not_eq_true',Option.isNone_iff_eq_none] at q3
                obtain ⟨⟨⟨r2,r3⟩,r4⟩,hreg⟩:=q3
                split at h2
                · rename_i f' args need lbs hpc hlk
                  obtain ⟨r1,h2⟩:=h2
                  have r1:(bif draw then panOK ops j (trs++[⟨need,o.dst,.any,[],lbs,[],[]⟩]) else ordOK trs)=true:=r1
                  obtain ⟨s1,s2⟩:=h2 e
                  have s1:some (FnP g.P f' args lbs ((c cl.v).pv e))=(c cl.v).claimX e:=s1
                  have hfn:FnP g.P f' args lbs ((c cl.v).pv e):=(c cl.v).pfX o3 e hv _ s1.symm
                  unfold panC at hpc
                  split at hpc
                  · rename_i cf xs ts hop
                    split at hpc
                    · rename_i f0 caps l hcf hargs
                      obtain ⟨t1,t2⟩:=cond_some hpc
                      simp only [Prod.mk.injEq] at t2
                      obtain ⟨rfl,rfl,rfl⟩:=t2
                      obtain ⟨-,hoj⟩:=pIdx_get hj
                      have hmd:g.md≠1:=fun e=>by rw [e] at r4; cases r4
                      split at s2
                      · rename_i pv sp hlv
                        rw [hlv] at hleaf
                        obtain ⟨s2,s3⟩:=s2
                        have s2:D.v pv=D.v ((c cl.v).pv e):=s2
                        have s2:pv=(c cl.v).pv e:=by injection s2
                        subst s2
                        have hden:=Ob.den_of q1 (fun p hp=>cl.pf o1 p (q2 ▸ hp))
                        have hget:ops[j]? = some o:=by rw [← Array.getElem?_toList]; simpa using hoj
                        cases draw with
                        | false =>
                          cases sp with
                          | none=>exact G.panic hmd hT hev hden r1 r2 hget r3 hop hcf hargs t1 hlk hfn hreg (hleaf _).k
                          | some s'=>exact G.panic hmd hT hev hden r1 r2 hget r3 hop hcf hargs t1 hlk hfn hreg (.le (leSt_le s3.2) hleaf)
                        | true =>
                          cases sp with
                          | none=>exact G.panicD hm hmd hT hev hden r2 hget r3 hop hcf hargs t1 hlk r1 hfn (hleaf _)
                          | some s'=>exact absurd s3.1 (by simp [CT.ok])
                      · exact s2.elim
                    · cases hpc
                  · cases hpc
                · exact h2.elim
              · exact h2.elim
            · exact h2.elim
        · split at h
          · rename_i k st1 c0 hs
            exact stepD_ok hT hm hs h.1 (ih _ _ L (.rx id cl c z err kk) lp h.2 ho hL)
          · exact h.elim
      · split at h
        · rename_i k st1 c0 hs
          exact stepD_ok hT hm hs h.1 (ih _ _ L (.rx id cl c z err kk) lp h.2 ho hL)
        · exact h.elim
    · -- pn
      rename_i id cl a
      obtain ⟨o1,o2⟩:=ho
      have hleaf:=hL a rfl o2
      split at h
      · rename_i i ops draw k
        rw [Bool.cond_eq_ite] at h
        split at h
        · split at h
          · rename_i o hget
            split at h
            · rename_i trs st1 gl orc' ob hev
              obtain ⟨q1,q2,q3,h⟩:=h
              have q2:ob.prop=_:=q2
              have q3:(trs.all (fun τ=>τ.created.all (freshB st))&&o.guard.isNone&&!Nat.beq g.md 1)=true:=q3
              simp only [Bool.and_eq_true,Bool.not_eq_true',Option.isNone_iff_eq_none] at q3
              obtain ⟨⟨r2,r3⟩,r4⟩:=q3
              have hmd:g.md≠1:=fun e=>by rw [e] at r4; cases r4
              split at h
              · rename_i x t v pv hrc hlv
                obtain ⟨s1,s2⟩:=h
                have s2:D.v pv=D.v (.iface t v):=s2
                have s2:pv=.iface t v:=by injection s2
                subst s2
                rw [hlv] at hleaf
                unfold raiC at hrc
                split at hrc
                · rename_i x' hop
                  split at hrc
                  · rename_i t' u' hx
                    simp only [Option.some.injEq,Prod.mk.injEq] at hrc
                    obtain ⟨rfl,rfl,rfl⟩:=hrc
                    exact G.raise hm hmd hT hev (Ob.den_of q1 (fun p hp=>cl.pf o1 p (q2 ▸ hp))) r2 hget r3 hop hx s1 (hleaf _)
                  · cases hrc
                · cases hrc
              · exact h.elim
            · exact h.elim
          · exact h.elim
        · split at h
          · rename_i k st1 c0 hs
            exact stepD_ok hT hm hs h.1 (ih _ _ L (.pn id cl a) lp h.2 ⟨o1,o2⟩ hL)
          · exact h.elim
      · split at h
        · rename_i k st1 c0 hs
          exact stepD_ok hT hm hs h.1 (ih _ _ L (.pn id cl a) lp h.2 ⟨o1,o2⟩ hL)
        · exact h.elim
    · -- me
      rename_i γ m gg u v b k
      split at h
      · rename_i c K
        split at h
        · rename_i ops l hh
          split at h
          · rename_i it d1 d2 hn
            rw [Bool.cond_eq_ite] at h
            split at h
            · rename_i hb
              simp only [Bool.and_eq_true] at hb
              have hd1:=Nat.le_of_ble_eq_true hb.1.1
              have hd2:=Nat.le_of_ble_eq_true hb.1.2
              obtain ⟨h1,h2,h3⟩:=h
              obtain ⟨o1,o2,o3⟩:=ho
              have key:∀ (q:Nat) (s:List Nat),s.Nodup→(∀ j,j∈s→j < m∧exitOf (b j).val=none)→m - s.length < q→G g (.code c :: .inLoop c :: K) (st.upd (Nat.lor rm (todoM (.inLoop c :: K))) (u gg s)):=by
                intro q
                induction q with
                | zero=>intro s _ _ hlt; omega
                | succ q ihq =>
                  intro s hnd hlt hq
                  have h2:=h2 s
                  dsimp only at h2
                  split at h2
                  · rename_i κi hit
                    split at h2
                    · rename_i κ m1 s1 hli
                      split at h2
                      · rename_i m2 f hl
                        obtain ⟨e1,e2,e3,e4,e5⟩:=h2
                        have e1:m1=m:=e1
                        have e2:m2=m:=e2
                        have e3:s1=s:=e3
                        subst e1; subst e2; subst e3
                        refine G.headR hh (fun id=>G.next hm hb.2 hn hd1 hd2 hit hli hl (fun i hi hni=>?_) (fun hall=>?_))
                        · refine ih _ _ _ (b i) (leafE lp gg) (e5 i) (o1 i hi) (fun q' hq' hlq=>?_)
                          cases q' with
                          | inl a =>
                            refine hL a ?_ hlq
                            have hi':exitOf (b i).val=some a:=by rw [← hq']; rfl
                            simp only [Sk.val]
                            rw [find_one hi hi' (fun j hj hji=>((o2 i j hi hj (fun e=>hji e.symm)).resolve_left (by rw [hi']; simp)))]
                            rfl
                          | inr g' =>
                            have hlq:g'=gg:=hlq
                            subst hlq
                            refine .inLoop (ihq (i :: s1) (List.nodup_cons.2 ⟨hni,hnd⟩) (fun j hj=>?_) ?_)
                            · rcases List.mem_cons.1 hj with rfl | hj
                              · exact ⟨hi,by rw [← hq']; rfl⟩
                              · exact hlt j hj
                            · have hle:(i :: s1).length≤m2:=by
                                have:=List.Nodup.length_le_of_subset (l₁:=i :: s1) (l₂:=List.range m2) (List.nodup_cons.2 ⟨hni,hnd⟩) (fun j hj=>by
                                  rcases List.mem_cons.1 hj with rfl | hj
                                  · exact List.mem_range.2 hi
                                  · exact List.mem_range.2 (hlt j hj).1)
                                simpa using this
                              simp only [List.length_cons] at hle ⊢
                              omega
                        · have hno:∀ i,i < m2→exitOf (b i).val=none:=fun i hi=>(hlt i (hall i hi)).2
                          refine .le (leSt_le e4) ?_
                          refine ih _ _ L k lp h3 (o3 hno) (fun a ha=>hL a ?_)
                          rw [ha]
                          simp only [Sk.val]
                          rw [find_no hno]
                          rfl
                      · exact h2.elim
                    · exact h2.elim
                  · exact h2.elim
              intro C c1 c2 a w hkp hs
              exact (key (m+1) [] List.nodup_nil (fun j hj=>by cases hj) (by simp) C c1 c2 a w hkp (leSt_le h1 C a w hs)).step fun _ _=>.one stepR_loop
            · exact h.elim
          · exact h.elim
        · exact h.elim
      · split at h
        · rename_i k0 st1 c hs
          exact stepD_ok hT hm hs h.1 (ih _ _ L (.me m gg u v b k) lp h.2 ho hL)
        · exact h.elim

end

/-- a contract out of a sketch -/
theorem FnA.sk {P:Program} {T:List (Nat × TI)} (hT:TOk P T) (hm:P.follows .mixedOrders=true) {f:FuncId} {fn:Func} {body:Code} {args:List AV} {lbs:List (Nat × Blk)} {α:Type} (enc:α→AV) (encB:α→List (Nat × Blk)) (hf:P.funcs[f]? = some fn) (hb:fn.body=some body)
    (hc:(callable P f&&Nat.ble args.length fn.ntmps)=true) (n:Nat) (sk:Sk α) (h:chk P T fn.ntmps fn.results.toList (resM fn.results.toList) 0 [] n [.code body] ⟨argSlots 0 args,lbs⟩ (fun a=>.ret (enc a) (encB a)) sk=(chk P T fn.ntmps fn.results.toList (resM fn.results.toList) 0 [] n [.code body] ⟨argSlots 0 args,lbs⟩ (fun a=>.ret (enc a) (encB a)) sk).diag)
    (ho:sk.obs fun _=>True):FnA P f args lbs (enc sk.val) (encB sk.val):=by
  simp only [Bool.and_eq_true] at hc
  refine FnA.intro (T:=T) hf hb hc.1 (Nat.le_of_ble_eq_true hc.2) ?_
  exact chk_sound n (g:=.of P T fn.ntmps f fn (enc sk.val) (encB sk.val)) hT hm hf (fun _=>⟨Goal.of_nrm,fun {_ _ b _ _} hr hz=>ZN.reb (b:=b) hr hz⟩) _ _ _ _ sk _ (CT.ok_of h) ho (fun a ha _=>by subst ha; exact ⟨Goal.of_nrm,rfl,rfl⟩)

def ancM:List (Nat × Nat)→Nat→Nat
  | [],m=>m
  | (t,_) :: r,m=>Nat.lor (bitM t) (ancM r m)
/-- the contract of a function that writes its caller's variables,out of a sketch -/
theorem FnB.sk {P:Program} {T:List (Nat × TI)} (hT:TOk P T) (hm:P.follows .mixedOrders=true) {f:FuncId} {fn:Func} {body:Code} {args:List AV} {lbs:List (Nat × Blk)} {α:Type} (enc:α→AV) (encB:α→List (Nat × Blk)) (anc:List (Nat × Nat)) (hf:P.funcs[f]? = some fn) (hb:fn.body=some body)
    (hc:(callable P f&&Nat.ble args.length fn.ntmps&&anc.all fun p=>Nat.ble (p.1+1) args.length)=true) (n:Nat) (sk:Sk α) (h:chk P T fn.ntmps fn.results.toList (ancM anc (resM fn.results.toList)) 3 (anc.map (·.1)) n [.code body] ⟨argSlots 0 args,lbs⟩ (fun a=>.retB (enc a) (encB a) anc) sk=(chk P T fn.ntmps fn.results.toList (ancM anc (resM fn.results.toList)) 3 (anc.map (·.1)) n [.code body] ⟨argSlots 0 args,lbs⟩ (fun a=>.retB (enc a) (encB a) anc) sk).diag)
    (ho:sk.obs fun _=>True):FnB P f args lbs (enc sk.val) (encB sk.val) anc:=by
  simp only [Bool.and_eq_true,List.all_eq_true] at hc
  refine FnB.intro (T:=T) hf hb hc.1.1 (Nat.le_of_ble_eq_true hc.1.2) (fun p hp=>Nat.le_of_ble_eq_true (hc.2 p hp)) (fun tm=>?_)
  exact chk_sound n (g:=.ofB P T fn.ntmps f fn (enc sk.val) (encB sk.val) anc tm) hT hm hf (fun h=>by cases h) _ _ _ _ sk _ (CT.ok_of h) ho (fun a ha _=>by subst ha; exact ⟨Goal.ofB_nrm,rfl,rfl⟩)

/-- the contract of a function that writes its caller's variables and may panic -/
def FnX {E β:Type} (P:Program) (f:FuncId) (args:List AV) (lbs:List (Nat × Blk)) (anc:List (Nat × Nat)) (enc:β→AV) (encB:β→List (Nat × Blk)) (pv:E→Value) (v:Except E β):Prop :=
  leafX v (fun b=>FnB P f args lbs (enc b) (encB b) anc) fun e=>FnP P f args lbs (pv e)
def leafR {E β:Type} (enc:β→AV) (encB:β→List (Nat × Blk)) (anc:List (Nat × Nat)) (pv:E→Value):Except E β→Leaf
  | .ok b=>.retB (enc b) (encB b) anc
  | .error e=>.pan (pv e) none
theorem FnX.sk {P:Program} {T:List (Nat × TI)} (hT:TOk P T) (hm:P.follows .mixedOrders=true) {f:FuncId} {fn:Func} {body:Code} {args:List AV} {lbs:List (Nat × Blk)} {E β:Type} (enc:β→AV) (encB:β→List (Nat × Blk)) (pv:E→Value) (anc:List (Nat × Nat)) (hf:P.funcs[f]? = some fn) (hb:fn.body=some body)
    (hc:(callable P f&&Nat.ble args.length fn.ntmps&&anc.all fun p=>Nat.ble (p.1+1) args.length)=true) (n:Nat) (sk:Sk (Except E β)) (h:chk P T fn.ntmps fn.results.toList (ancM anc (resM fn.results.toList)) 3 (anc.map (·.1)) n [.code body] ⟨argSlots 0 args,lbs⟩ (leafR enc encB anc pv) sk=(chk P T fn.ntmps fn.results.toList (ancM anc (resM fn.results.toList)) 3 (anc.map (·.1)) n [.code body] ⟨argSlots 0 args,lbs⟩ (leafR enc encB anc pv) sk).diag)
    (ho:sk.obs fun _=>True):FnX P f args lbs anc enc encB pv sk.val:=by
  simp only [Bool.and_eq_true,List.all_eq_true] at hc
  cases hv:sk.val with
  | ok b =>
    refine FnB.intro (T:=T) hf hb hc.1.1 (Nat.le_of_ble_eq_true hc.1.2) (fun p hp=>Nat.le_of_ble_eq_true (hc.2 p hp)) (fun tm=>?_)
    exact chk_sound n (g:=.ofB P T fn.ntmps f fn (enc b) (encB b) anc tm) hT hm hf (fun h=>by cases h) _ _ _ _ sk _ (CT.ok_of h) ho (fun a ha _=>by rw [ha,hv]; exact ⟨Goal.ofB_nrm,rfl,rfl⟩)
  | error e =>
    refine FnP.intro (T:=T) (anc:=anc) hf hb hc.1.1 (Nat.le_of_ble_eq_true hc.1.2) (fun tm=>?_)
    exact chk_sound n (g:=.ofX P T fn.ntmps f fn badA [] anc tm (pv e)) hT hm hf (fun h=>by cases h) _ _ _ _ sk _ (CT.ok_of h) ho (fun a ha _=>by rw [ha,hv]; exact Goal.ofX_pan hf)

end Go.Av
