/- Sketches: what a piece of code computes, told once; the check that the code does so, by computation. -/
import Derived.Test.YtgmnlkccjlnnbaaGreatDoorLc
import Derived.Maps.RangeRun
import Derived.Sort.OwnSortedInts
set_option linter.unusedSimpArgs false
set_option linter.unusedVariables false
set_option linter.unusedSectionVars false
namespace Go.Av
open Go
variable [yp]
inductive CT:Type 1 where
 | nil
 | bad
 | bb (a b:Bool)
 | nn (a b:Nat)
 | zz (a b:Int)
 | dd (a b:D)
 | ll (a b:List D)
 | vv (a b:AV)
 | ff (f g:Nat→List D)
 | mm (f g:Nat→Value × D)
 | ss (a b:List Nat)
 | po (a b:Option Prop)
 | td (a b:List Item)
 | qq (a b:List (Int × Int)→Prop)
 | two (a b:CT)
 | pi {β:Type} (f:β→CT)
def CT.ok:CT→Prop
 | .nil=>True
 | .bad=>False
 | .bb a b=>a=b
 | .nn a b=>a=b
 | .zz a b=>a=b
 | .dd a b=>a=b
 | .ll a b=>a=b
 | .vv a b=>a=b
 | .ff f g=>f=g
 | .mm f g=>f=g
 | .ss a b=>a=b
 | .po a b=>a=b
 | .td a b=>a=b
 | .qq a b=>a=b
 | .two a b=>a.ok∧b.ok
 | .pi f=>∀ b,(f b).ok
def CT.diag:CT→CT
 | .nil=>.nil
 | .bad=>.nil
 | .bb _ b=>.bb b b
 | .nn _ b=>.nn b b
 | .zz _ b=>.zz b b
 | .dd _ b=>.dd b b
 | .ll _ b=>.ll b b
 | .vv _ b=>.vv b b
 | .ff _ g=>.ff g g
 | .mm _ g=>.mm g g
 | .ss _ b=>.ss b b
 | .po _ b=>.po b b
 | .td _ b=>.td b b
 | .qq _ b=>.qq b b
 | .two a b=>.two a.diag b.diag
 | .pi f=>.pi fun b=>(f b).diag
theorem CT.Cr:∀ {t:CT},t=t.diag→t.ok
 | .nil,_=>trivial
 | .bad,h=>by cases h
 | .bb a b,h=>by simpa [CT.diag,CT.ok] using h
 | .nn a b,h=>by simpa [CT.diag,CT.ok] using h
 | .zz a b,h=>by simpa [CT.diag,CT.ok] using h
 | .dd a b,h=>by simpa [CT.diag,CT.ok] using h
 | .ll a b,h=>by simpa [CT.diag,CT.ok] using h
 | .vv a b,h=>by simpa [CT.diag,CT.ok] using h
 | .ff a b,h=>by simpa [CT.diag,CT.ok] using h
 | .mm a b,h=>by simpa [CT.diag,CT.ok] using h
 | .ss a b,h=>by simpa [CT.diag,CT.ok] using h
 | .po a b,h=>by simp only [CT.diag,CT.po.injEq] at h; exact h.1
 | .td a b,h=>by simpa [CT.diag,CT.ok] using h
 | .qq a b,h=>by simpa [CT.diag,CT.ok] using h
 | .two a b,h=>by
  simp only [CT.diag,CT.two.injEq] at h
  exact ⟨CT.Cr h.1,CT.Cr h.2⟩
 | .pi f,h=>by
  simp only [CT.diag] at h
  have h1:f=fun b=>(f b).diag:=by injection h
  exact fun b=>CT.Cr (congrFun h1 b)
def Ob.eqs:Ob→CT
 | .tt=>.nil
 | .pr _=>.nil
 | .be a b=>.bb a b
 | .ne a b=>.nn a b
 | .ze a b=>.zz a b
 | .fe f g=>.ff f g
 | .me f g=>.mm f g
 | .ve a b=>.vv a b
 | .two a b=>.two a.eqs b.eqs
 | .wh _ _ a=>a.eqs
def DW:Option Prop→Option Prop→Option Prop
 | none,x=>x
 | x,none=>x
 | some p,some q=>some (p∧q)
def Ob.prop:Ob→Option Prop
 | .pr p=>some p
 | .two a b=>DW a.prop b.prop
 | .wh e w a=>(match a.prop with | none=>none | some p=>some (e=w→p))
 | _=>none
theorem Tl {x y:Option Prop} (h:∀ p,DW x y=some p→p):(∀ p,x=some p→p)∧∀ p,y=some p→p:=by
 cases x with
 | none=>exact ⟨fun p hp=>(by cases hp),fun p hp=>h p (by simpa [DW] using hp)⟩
 | some a =>
  cases y with
  | none=>exact ⟨fun p hp=>h p (by simpa [DW] using hp),fun p hp=>(by cases hp)⟩
  | some b =>
   have:=h (a∧b) rfl
   exact ⟨fun p hp=>(by cases hp; exact this.1),fun p hp=>(by cases hp; exact this.2)⟩
theorem Ob.DX:∀ {ob:Ob},ob.eqs.ok→(∀ p,ob.prop=some p→p)→ob.den
 | .tt,_,_=>trivial
 | .pr p,_,h=>h p rfl
 | .be _ _,h,_=>h
 | .ne _ _,h,_=>h
 | .ze _ _,h,_=>h
 | .fe _ _,h,_=>h
 | .me _ _,h,_=>h
 | .ve _ _,h,_=>h
 | .two a b,h,hp=>⟨Ob.DX h.1 (Tl hp).1,Ob.DX h.2 (Tl hp).2⟩
 | .wh e w a,h,hp=>fun he=>Ob.DX h (fun p hq=>hp (e=w→p) (by simp [Ob.prop,hq]) he)
def Br (ob:Ob):CT:=match ob.prop with | none=>ob.eqs | some _=>.bad
theorem tJ {ob:Ob} (h:(Br ob).ok):ob.den:=by
 unfold Br at h
 split at h
 ·rename_i hn
  exact Ob.DX h (fun p hp=>by rw [hn] at hp; cases hp)
 ·exact h.elim
def cEq:D→D→CT
 | .v (.slice none 0 0),.sl n _=>.nn n 0
 | x,y=>.dd x y
def Ww:List D→List D→CT
 | [],[]=>.nil
 | c :: cs,d :: ds=>.two (cEq c d) (Ww cs ds)
 | _,_=>.bad
def dEq:D→D→CT
 | .agg cs,.agg ds=>Ww cs ds
 | x,y=>cEq x y
theorem Wx {x y:D} (h:(cEq x y).ok):rV x y:=by
 unfold cEq at h
 split at h
 ·have h:_=0:=h
  subst h
  exact rV.nil _
 ·exact rV.of_eq h
theorem GJ:∀ {cs ds:List D},(Ww cs ds).ok→cs.length=ds.length∧∀ i,i < cs.length→rV (cs.getD i default) (ds.getD i default)
 | [],[],_=>⟨rfl,fun i hi=>absurd hi (by simp)⟩
 | c :: cs,d :: ds,h=>by
  obtain ⟨h1,h2⟩:=GJ h.2
  refine ⟨by simp [h1],fun i hi=>?_⟩
  cases i with
  | zero=>simpa using Wx h.1
  | succ i=>simpa using h2 i (by simpa using hi)
 | [],_ :: _,h=>h.elim
 | _ :: _,[],h=>h.elim
theorem aaD {x y:D} (h:(dEq x y).ok):rV x y:=by
 unfold dEq at h
 split at h
 ·exact rV.agg (GJ h).1 (GJ h).2
 ·exact Wx h
mutual
def RL (ρ:Ren):AV→AV→CT
 | _,.any=>.nil
 | .d x,.d y=>dEq x y
 | .own κ n,.own κ' n'=>.two (.bb (rC ρ κ' κ) true) (.nn n n')
 | .d (.v (.slice none 0 0)),.own κ' n'=>.two (.bb (Pa ρ κ') true) (.nn n' 0)
 | .ptr κ o,.ptr κ' o'=>.bb (rC ρ κ' κ&&Nat.beq o o') true
 | .ref cs,.ref zX=>.ll cs zX
 | .fn f l,.fn f' l'=>.two (.bb (Nat.beq f f') true) (Cs ρ l l')
 | .fL l,.fL l'=>Cs ρ l l'
 | .ag l,.ag l'=>Cs ρ l l'
 | .vE κ,.vE κ'=>.bb (rC ρ κ' κ) true
 | .zN n f,.zN n' f'=>.two (.nn n n') (.mm f f')
 | .yj n f,.yj n' f'=>.two (.nn n n') (.ff f f')
 | .yj n f,.d (.sl n' f')=>.two (.nn n n') (.ff f f')
 | .wM κ k i o,.wM κ' k' i' o'=>.two (.bb (rC ρ κ' κ&&Nat.beq k k'&&Nat.beq o o') true) (.nn i i')
 | _,_=>.bad
def Cs (ρ:Ren):List AV→List AV→CT
 | [],[]=>.nil
 | x :: r,y :: s=>.two (RL ρ x y) (Cs ρ r s)
 | _,_=>.bad
end
def aaE (ρ:Ren):bA→bA→CT
 | .box cs,.box zX=>Cs ρ cs zX
 | .row e k n f,.row e' k' n' f'=>.two (.bb (Nat.beq e e'&&Nat.beq k k') true) (.two (.nn n n') (.ff f f'))
 | .mp n f,.mp n' f'=>.two (.nn n n') (.mm f f')
 | .it mk n s,.it mk' n' s'=>.two (.bb (rC ρ mk' mk) true) (.two (.nn n n') (.ss s s'))
 | .mx q,.mx q'=>.qq q q'
 | _,_=>.bad
def YH (ρ:Ren) (sl:List (Nat × AV)):List (Nat × AV)→CT
 | []=>.nil
 | (t,x) :: r=>.two (RL ρ (St.get sl t) x) (YH ρ sl r)
def RM (ρ:Ren) (lb:List (Nat × bA)):List (Nat × bA)→CT
 | []=>.nil
 | (κ,b) :: r=>(match look ρ κ with
  | some (some o)=>(match look lb o with | some c=>.two (aaE ρ c b) (RM ρ lb r) | none=>.bad)
  | some none=>(match b with | .row _ _ n _=>.two (.nn n 0) (RM ρ lb r) | _=>.bad)
  | none=>.bad)
mutual
theorem Ct {ρ:Ren}:∀ (x y:AV),(RL ρ x y).ok→∃ p,rD ρ x y=some p∧p
 | x,y,h=>by
  unfold RL at h
  split at h
  ·exact ⟨True,by unfold rD; rfl,trivial⟩
  ·exact ⟨_,by unfold rD; rfl,aaD h⟩
  ·obtain ⟨h1,h2⟩:=h
   have h1:rC ρ _ _=true:=h1
   exact ⟨_,by unfold rD; rw [h1]; rfl,h2⟩
  ·obtain ⟨h1,h2⟩:=h
   have h1:Pa ρ _=true:=h1
   exact ⟨_=0,by simp [rD,h1],h2⟩
  ·have h:(rC ρ _ _&&Nat.beq _ _)=true:=h
   exact ⟨True,by unfold rD; rw [h]; rfl,trivial⟩
  ·exact ⟨_,by unfold rD; rfl,h⟩
  ·rename_i f l f' l'
   obtain ⟨h1,h2⟩:=h
   have h1:Nat.beq f f'=true:=h1
   obtain ⟨p,hp,hq⟩:=yN l l' h2
   exact ⟨p,by unfold rD; rw [h1]; exact hp,hq⟩
  ·rename_i l l'
   obtain ⟨p,hp,hq⟩:=yN l l' h
   exact ⟨p,by unfold rD; exact hp,hq⟩
  ·rename_i l l'
   obtain ⟨p,hp,hq⟩:=yN l l' h
   exact ⟨p,by unfold rD; exact hp,hq⟩
  ·have h:rC ρ _ _=true:=h
   exact ⟨True,by unfold rD; rw [h]; rfl,trivial⟩
  ·rename_i n f n' f'
   exact ⟨n=n'∧f=f',by unfold rD; rfl,h.1,h.2⟩
  ·rename_i n f n' f'
   exact ⟨n=n'∧f=f',by unfold rD; rfl,h.1,h.2⟩
  ·rename_i n f n' f'
   exact ⟨n=n'∧f=f',by unfold rD; rfl,h.1,h.2⟩
  ·rename_i κ k i o κ' k' i' o'
   obtain ⟨h1,h2⟩:=h
   have h1:(rC ρ κ' κ&&Nat.beq k k'&&Nat.beq o o')=true:=h1
   exact ⟨i=i',by unfold rD; rw [h1]; rfl,h2⟩
  ·exact h.elim
theorem yN {ρ:Ren}:∀ (x y:List AV),(Cs ρ x y).ok→∃ p,vQ ρ x y=some p∧p
 | [],[],_=>⟨True,by unfold vQ; rfl,trivial⟩
 | x :: r,y :: s,h=>by
  unfold Cs at h
  obtain ⟨p,h1,h2⟩:=Ct x y h.1
  obtain ⟨q,h3,h4⟩:=yN r s h.2
  exact ⟨p∧q,by unfold vQ; rw [h1,h3],h2,h4⟩
 | [],_ :: _,h=>by unfold Cs at h; exact h.elim
 | _ :: _,[],h=>by unfold Cs at h; exact h.elim
end
theorem YI {ρ:Ren} {b c:bA} (h:(aaE ρ b c).ok):∃ p,ml ρ b c=some p∧p:=by
 unfold aaE at h
 split at h
 ·rename_i cs zX
  obtain ⟨p,h1,h2⟩:=yN cs zX h
  exact ⟨p,h1,h2⟩
 ·rename_i e k n f e' k' n' f'
  obtain ⟨h1,h2,h3⟩:=h
  have h1:(Nat.beq e e'&&Nat.beq k k')=true:=h1
  have h3:f=f':=h3
  exact ⟨n=n'∧∀ i,i < n→f i=f' i,by unfold ml; dsimp only; rw [h1]; rfl,h2,fun i _=>by rw [h3]⟩
 ·rename_i n f n' f'
  exact ⟨n=n'∧f=f',rfl,h.1,h.2⟩
 ·rename_i mk n s mk' n' s'
  obtain ⟨h1,h2,h3⟩:=h
  have h1:rC ρ mk' mk=true:=h1
  exact ⟨n=n'∧s=s',by unfold ml; dsimp only; rw [h1]; rfl,h2,h3⟩
 ·rename_i q q'
  exact ⟨q=q',rfl,h⟩
 ·exact h.elim
theorem Mr {ρ:Ren} {sl:List (Nat × AV)}:∀ {l:List (Nat × AV)},(YH ρ sl l).ok→∃ p,Hz ρ sl l=some p∧p
 | [],_=>⟨True,rfl,trivial⟩
 | (t,x) :: r,h=>by
  obtain ⟨p,h1,h2⟩:=Ct _ _ h.1
  obtain ⟨q,h3,h4⟩:=Mr h.2
  exact ⟨p∧q,by unfold Hz; rw [h1,h3],h2,h4⟩
theorem Cu {ρ:Ren} {lb:List (Nat × bA)}:∀ {l:List (Nat × bA)},(RM ρ lb l).ok→∃ p,FA ρ lb l=some p∧p
 | [],_=>⟨True,rfl,trivial⟩
 | (κ,b) :: r,h=>by
  unfold RM at h
  split at h
  ·rename_i o ho
   split at h
   ·rename_i c hc
    obtain ⟨p,h1,h2⟩:=YI h.1
    obtain ⟨q,h3,h4⟩:=Cu h.2
    exact ⟨p∧q,by unfold FA; rw [ho,h3]; simp only [hc,h1],h2,h4⟩
   ·exact h.elim
  ·rename_i ho
   split at h
   ·obtain ⟨q,h3,h4⟩:=Cu h.2
    exact ⟨_∧q,by unfold FA; rw [ho,h3]; rfl,h.1,h4⟩
   ·exact h.elim
  ·exact h.elim
def DY (κ:Nat) (o:Option Nat) (ρ:Ren):Ren:=match look ρ κ with | some _=>ρ | none=>(κ,o) :: ρ
mutual
def Ll:AV→AV→Ren→Ren
 | .own κ _,.own κ' _,ρ=>DY κ' (some κ) ρ
 | .d _,.own κ' _,ρ=>DY κ' none ρ
 | .ptr κ _,.ptr κ' _,ρ=>DY κ' (some κ) ρ
 | .vE κ,.vE κ',ρ=>DY κ' (some κ) ρ
 | .wM κ _ _ _,.wM κ' _ _ _,ρ=>DY κ' (some κ) ρ
 | .fn _ l,.fn _ l',ρ=>HG l l' ρ
 | .fL l,.fL l',ρ=>HG l l' ρ
 | .ag l,.ag l',ρ=>HG l l' ρ
 | _,_,ρ=>ρ
def HG:List AV→List AV→Ren→Ren
 | x :: r,y :: s,ρ=>HG r s (Ll x y ρ)
 | _,_,ρ=>ρ
end
def Wy (sl:List (Nat × AV)):List (Nat × AV)→Ren→Ren
 | [],ρ=>ρ
 | (t,x) :: r,ρ=>Wy sl r (Ll (St.get sl t) x ρ)
def HH (lb:List (Nat × bA)):List (Nat × bA)→Ren→Ren
 | [],ρ=>ρ
 | (κ,b) :: r,ρ=>HH lb r (match look ρ κ with
  | some (some o)=>(match look lb o,b with | some (.box cs),.box zX=>HG cs zX ρ | some (.it m _ _),.it m' _ _=>DY m' (some m) ρ | _,_=>ρ)
  | _=>ρ)
def Wz (st st':St):Ren:=HH st.lb st'.lb (HH st.lb st'.lb (Wy st.sl st'.sl []))
def J8 (st st':St):CT:=.two (.bb (Co (Wz st st')) true) (.two (YH (Wz st st') st.sl st'.sl) (RM (Wz st st') st.lb st'.lb))
theorem uI {st st':St} (h:(J8 st st').ok):JR st st':=by
 obtain ⟨h1,h2,h3⟩:=h
 obtain ⟨p,q1,q2⟩:=Mr h2
 obtain ⟨p',q3,q4⟩:=Cu h3
 exact JR.of _ h1 q1 q2 q3 q4
def aaF (t:Nat):Nat:=Nat.shiftLeft 1 t
def HJ:Operand→Nat
 | .tmp t=>aaF t
 | _=>0
def Lm:List Operand→Nat
 | []=>0
 | x :: r=>Nat.lor (HJ x) (Lm r)
def WA:List Oper→Nat
 | []=>0
 | o :: r=>Nat.lor (Lm o.op.operands.toList) (WA r)
def A1:Code→Nat
 | .region _ ops _=>WA ops.toList
 | .seq a b=>Nat.lor (A1 a) (A1 b)
 | .cond c a b=>Nat.lor (HJ c) (Nat.lor (A1 a) (A1 b))
 | .block _ c=>A1 c
 | .loop c=>A1 c
 | .rangeFunc f _ a b=>Nat.lor (HJ f) (Nat.lor (A1 a) (A1 b))
 | _=>0
def kP:List Item→Nat
 | []=>0
 | .code c :: r=>Nat.lor (A1 c) (kP r)
 | .inLoop c :: r=>Nat.lor (A1 c) (kP r)
 | _ :: r=>kP r
def Cv:List ResultVar→Nat
 | []=>0
 | .tmp t :: r=>Nat.lor (aaF t) (Cv r)
 | .cell t _ :: r=>Nat.lor (aaF t) (Cv r)
def HK (m t:Nat):Bool:=Nat.beq (Nat.land (Nat.shiftRight m t) 1) 1
def sy (m:Nat):List (Nat × AV)→List (Nat × AV)
 | []=>[]
 | (t,x) :: r=>bif HK m t then (t,x) :: sy m r else sy m r
theorem HL (m:Nat):∀ (l:List (Nat × AV)) (t:Nat),look (sy m l) t=bif HK m t then look l t else none
 | [],t=>by cases HK m t <;> rfl
 | (k,x) :: r,t=>by
  have ih:=HL m r t
  simp only [sy]
  cases hk:HK m k with
  | true =>
   simp only [cond_true,bH]
   by_cases e:k=t
   ·subst e; simp [hk]
   ·simp only [e,if_false]; exact ih
  | false =>
   simp only [cond_false,bH]
   by_cases e:k=t
   ·subst e; rw [ih,hk]; rfl
   ·simp only [e,if_false]; exact ih
def St.keep (m:Nat) (st:St):St:=⟨sy m st.sl,st.lb⟩
theorem JR.keep (m:Nat) (st:St):JR st (st.keep m):=by
 rintro C a w ⟨S,μ,hs⟩
 refine ⟨S,μ,fun ν=>(hs ν).weaken (fun t v hv=>?_) (fun κ b hb=>⟨b,hb,fun _ h=>h⟩)⟩
 simp only [St.fN,St.get,St.keep,HL] at hv ⊢
 cases HK m t with
 | true=>exact hv
 | false=>exact .any _
def Ms (lb:List (Nat × bA)):List Nat→List Nat
 | []=>[]
 | k :: r=>(match look lb k with | some b=>b.keys++Ms lb r | none=>Ms lb r)
def WB:List (Nat × AV)→List Nat
 | []=>[]
 | (_,x) :: r=>x.keys++WB r
def HM (ks:List Nat):List (Nat × bA)→List (Nat × bA)
 | []=>[]
 | (k,b) :: r=>bif ks.any (fun q=>Nat.beq q k) then (k,b) :: HM ks r else HM ks r
structure VA where
 sl:List (Nat × AV):=[]
 lb:List (Nat × bA):=[]
def St.B4 (st:St) (m:Nat) (u:VA):St :=
 let sl:=u.sl++sy m (aP (u.sl.map (·.1)) st.sl)
 let lb:=u.lb++aP (u.lb.map (·.1)) st.lb
 let k0:=WB sl
 let k1:=Ms lb k0
 let k2:=Ms lb k1
 ⟨sl,HM (k0++k1++k2) lb⟩
structure bg (β:Type) where
 v:β
 jL:β→List zU
 lx:β→Option Prop
 pre:Prop
 pf:pre→∀ p,lx v=some p→p
 post:β→Prop
 hp:post v
def iter {α ι:Type} (f:ι→α ⊕ ι) (d:α):Nat→ι→α
 | 0,_=>d
 | n+1,i=>match f i with | .inl a=>a | .inr j=>iter f d n j
def gI {α β:Type}:α ⊕ β→(β→α)→α
 | .inl a,_=>a
 | .inr b,f=>f b
def qg {α β:Type} (L:α→Prop) (J:β→Prop):α ⊕ β→Prop
 | .inl a=>L a
 | .inr b=>J b
def gJ {α ι:Type} (L:α→Prop) (J:ι→Prop):α ⊕ ι→Prop
 | .inl a=>L a
 | .inr j=>J j
structure ItC (Y:Type) where
 P:Program
 gf:FuncId
 cE:List AV
 ys:List Y
 enc:Y→List AV
 pre:Prop
 pf:pre→UD P gf cE (ys.map enc)
inductive Sk:Type→Type 1 where
 | fin {α:Type} (a:α):Sk α
 | br {α:Type} (e:Bool) (x y:Sk α):Sk α
 | r {α β:Type} (id:Nat) (c:bg β) (k:β→Sk α):Sk α
 | wi {α:Type} (t:Nat) (m n:Int) (k:Sk α):Sk α
 | wn {α:Type} (κ n n':Nat) (k:Sk α):Sk α
 | JU {α:Type} (k:Sk α):Sk α
 | JV {α:Type} (k:Sk α):Sk α
 | dead {α:Type} (a:α):Sk α
 | Be {α:Type} (t j n:Nat) (k:Sk α):Sk α
 | Tm {α:Type} (t:Nat) (c:Bool) (x y:AV) (k1 k2:Sk α):Sk α
 | Ra {α:Type} (t n:Nat) (k1 k2:Sk α):Sk α
 | fz {α:Type} (κ:Nat) (k:Sk α):Sk α
 | op {α:Type} (κ:Nat) (k:List (Int × Int)→Sk α):Sk α
 | cl {α:Type} (κ:Nat) (m:List (Int × Int)) (k:Sk α):Sk α
 | oq {α:Type} (κ:Nat) (q:List (Int × Int)→Prop) (k:List (Int × Int)→Sk α):Sk α
 | cq {α:Type} (κ:Nat) (m:List (Int × Int)) (q:List (Int × Int)→Prop) (k:Sk α):Sk α
 | Mn {α:Type} (id:Nat) (x:Int) (c:sw) (k:Sk α):Sk α
 | mr {α γ:Type} (n:Nat) (V:γ→Prop) (init:γ) (u:γ→List Nat→VA) (v:γ→VA) (b:γ→Nat→Sk γ) (k:γ→Sk α):Sk α
 | bind {α β:Type} (blk:Bool) (J:β→Prop) (s:Sk (α ⊕ β)) (u:β→VA) (k:β→Sk α):Sk α
 | loop {α ι:Type} (d:α) (I:ι→Prop) (m:ι→Nat) (i0:ι) (u:ι→VA) (b:ι→Sk (α ⊕ ι)):Sk α
 | rf {α σ β Y:Type} (it:ItC Y) (I:Nat→σ→Prop) (B:β→Prop) (id:Nat) (s0:σ) (u:σ→List (Nat × bA)) (v:β→List (Nat × bA)) (b:σ→Y→Sk (β ⊕ σ)) (k:β ⊕ σ→Sk α):Sk α
abbrev Sk.bt {α β:Type} (s:Sk (α ⊕ β)) (u:β→VA) (k:β→Sk α):Sk α:=.bind true (fun _=>True) s u k
abbrev Sk.lt {α:Type} (t j i n:Nat) (x y:Sk α):Sk α:=.Be t j n (.br (decide ((i:Int) < (n:Int))) x y)
noncomputable def canon (q:List (Int × Int)→Prop):List (Int × Int):=open Classical in if h:∃ m,q m then h.choose else []
theorem RN {q:List (Int × Int)→Prop} (h:∃ m,q m):q (canon q):=by
 unfold canon
 rw [dif_pos h]
 exact h.choose_spec
abbrev mxT:List (Int × Int)→Prop:=fun _=>True
noncomputable def Sk.val:{α:Type}→Sk α→α
 | _,.fin a=>a
 | _,.br e x y=>bif e then x.val else y.val
 | _,.r _ c k=>(k c.v).val
 | _,.wi _ _ _ k=>k.val
 | _,.wn _ _ _ k=>k.val
 | _,.JU k=>k.val
 | _,.JV k=>k.val
 | _,.dead a=>a
 | _,.Be _ _ _ k=>k.val
 | _,.Tm _ c _ _ x y=>bif c then x.val else y.val
 | _,.Ra _ _ _ k=>k.val
 | _,.fz _ k=>k.val
 | _,.op _ k=>(k []).val
 | _,.cl _ _ k=>k.val
 | _,.oq _ q k=>(k (canon q)).val
 | _,.cq _ _ _ k=>k.val
 | _,.Mn _ _ _ k=>k.val
 | _,.mr n _ init _ _ b k=>(k ((List.range n).foldr (fun i g=>(b g i).val) init)).val
 | _,.bind _ _ s _ k=>gI s.val fun b=>(k b).val
 | _,.loop d _ m i0 _ b=>iter (fun i=>(b i).val) d (m i0+1) i0
 | _,.rf it _ _ _ s0 _ _ b k=>(k (pj (fun s y=>(b s y).val) it.ys s0)).val
def Sk.cZ:{α:Type}→Sk α→(α→Prop)→Prop
 | _,.fin a,L=>L a
 | _,.br e x y,L=>(e=true→x.cZ L)∧(e=false→y.cZ L)
 | _,.r _ c k,L=>∀ x,x=c.v→c.post x→(k x).cZ L
 | _,.wi _ _ _ k,L=>k.cZ L
 | _,.wn _ _ _ k,L=>k.cZ L
 | _,.JU k,L=>k.cZ L
 | _,.JV k,L=>k.cZ L
 | _,.dead a,L=>L a
 | _,.Be _ _ _ k,L=>k.cZ L
 | _,.Tm _ c _ _ x y,L=>(c=true→x.cZ L)∧(c=false→y.cZ L)
 | _,.Ra _ _ _ k,L=>k.cZ L
 | _,.fz _ k,L=>k.cZ L
 | _,.op _ k,L=>(k []).cZ L
 | _,.cl _ _ k,L=>k.cZ L
 | _,.oq _ q k,L=>(∃ m,q m)∧∀ m,q m→(k m).cZ L
 | _,.cq _ _ _ k,L=>k.cZ L
 | _,.Mn _ _ _ k,L=>k.cZ L
 | _,.mr n V init _ _ b k,L=>V init∧(∀ g i,V g→i < n→(b g i).cZ V)∧∀ g,g=(List.range n).foldr (fun i g=>(b g i).val) init→V g→(k g).cZ L
 | _,.bind _ J s _ k,L=>s.cZ (qg L J)∧∀ b,s.val=.inr b→J b→(k b).cZ L
 | _,.loop _ I m i0 _ b,L=>I i0∧∀ i,I i→(b i).cZ (gJ L fun j=>I j∧m j < m i)
 | _,.rf it I B _ s0 _ _ b k,L=>I 0 s0∧(∀ i s y,I i s→it.ys[i]? = some y→(b s y).cZ (gJ B (I (i+1))))∧∀ r,r=pj (fun s y=>(b s y).val) it.ys s0→gJ B (I it.ys.length) r→(k r).cZ L
def Sk.bz:{α:Type}→Sk α→(α→Prop)→Prop
 | _,.fin a,L=>L a
 | _,.br e x y,L=>(e=true→x.bz L)∧(e=false→y.bz L)
 | _,.r _ c k,L=>c.pre∧∀ x,x=c.v→c.post x→(k x).bz L
 | _,.wi _ m n k,L=>m=n∧k.bz L
 | _,.wn _ n n' k,L=>n=n'∧k.bz L
 | _,.JU k,L=>k.bz L
 | _,.JV k,L=>k.bz L
 | _,.dead _,_=>False
 | _,.Be _ _ n k,L=>n≤maxLen→k.bz L
 | _,.Tm _ c _ _ x y,L=>(c=true→x.bz L)∧(c=false→y.bz L)
 | _,.Ra _ n k1 k2,L=>(n=0→k1.bz L∧k1.val=k2.val)∧k2.bz L
 | _,.fz _ k,L=>k.bz L
 | _,.op _ k,L=>∀ m,(k m).val=(k []).val∧(k m).bz L
 | _,.cl _ _ k,L=>k.bz L
 | _,.oq _ q k,L=>∀ m,q m→(k m).val=(k (canon q)).val∧(k m).bz L
 | _,.cq _ m q k,L=>q m∧k.bz L
 | _,.Mn _ x c k,L=>(0≤x∧x≤(c.n:Int))∧k.bz L
 | _,.mr n V init _ _ b k,L=>V init∧(∀ g i,V g→i < n→(b g i).cZ V∧(b g i).bz fun _=>True)∧(∀ g i j,V g→i < n→j < n→i≠j→(b (b g j).val i).val=(b (b g i).val j).val)∧∀ g,g=(List.range n).foldr (fun i g=>(b g i).val) init→V g→(k g).bz L
 | _,.bind _ J s _ k,L=>s.bz (qg L J)∧∀ b,s.val=.inr b→J b→(k b).bz L
 | _,.loop _ I m i0 _ b,L=>I i0∧∀ i,I i→(b i).bz (gJ L fun j=>I j∧m j < m i)
 | _,.rf it I B _ s0 _ _ b k,L=>it.pre∧I 0 s0∧(∀ i s y,I i s→it.ys[i]? = some y→(b s y).cZ (gJ B (I (i+1)))∧(b s y).bz (gJ B (I (i+1))))∧∀ r,r=pj (fun s y=>(b s y).val) it.ys s0→gJ B (I it.ys.length) r→(k r).bz L
theorem Ln {σ β Y:Type} {f:σ→Y→β ⊕ σ} {I:Nat→σ→Prop} {B:β→Prop} (l:List Y) (h:∀ i s y,I i s→l[i]? = some y→gJ B (I (i+1)) (f s y)) (s:σ) (hs:I 0 s):gJ B (I l.length) (pj f l s):=by
 have:=HA (f:=f) (I:=I) (B:=B) l 0 (fun i s y hs hy=>by
  rw [Nat.zero_add] at hs ⊢
  have:=h i s y hs hy
  cases e:f s y <;> rw [e] at this <;> exact this) s hs
 rw [Nat.zero_add] at this
 cases e:pj f l s <;> rw [e] at this <;> exact this
theorem vS {γ:Type} {V:γ→Prop} {f:γ→Nat→γ} {n:Nat} (hf:∀ g i,V g→i < n→V (f g i)) {init:γ} (h0:V init):∀ (s:List Nat),(∀ i,i∈s→i < n)→V (s.foldr (fun i g=>f g i) init)
 | [],_=>h0
 | i :: s,h=>hf _ i (vS hf h0 s (fun j hj=>h j (List.mem_cons_of_mem _ hj))) (h i List.mem_cons_self)
theorem RO {γ:Type} {V:γ→Prop} {f:γ→Nat→γ} {n:Nat} (hf:∀ g i,V g→i < n→V (f g i)) (hc:∀ g i j,V g→i < n→j < n→i≠j→f (f g j) i=f (f g i) j) {init:γ} (h0:V init) {s t:List Nat} (h:s.Perm t) :
  (∀ i,i∈s→i < n)→s.foldr (fun i g=>f g i) init=t.foldr (fun i g=>f g i) init:=by
 induction h with
 | nil=>intro _; rfl
 | cons x _ ih=>intro hs; simp only [List.foldr_cons]; rw [ih (fun i hi=>hs i (List.mem_cons_of_mem _ hi))]
 | swap x y l =>
  intro hs
  simp only [List.foldr_cons]
  by_cases e:x=y
  ·rw [e]
  ·exact hc _ y x (vS hf h0 l (fun i hi=>hs i (by simp [hi]))) (hs y (by simp)) (hs x (by simp)) (fun e'=>e e'.symm)
 | trans h1 _ ih1 ih2=>intro hs; rw [ih1 hs,ih2 (fun i hi=>hs i (h1.mem_iff.2 hi))]
theorem Lo {α ι:Type} {f:ι→α ⊕ ι} {d:α} {L:α→Prop} {I:ι→Prop} {m:ι→Nat} (h:∀ i,I i→gJ L (fun j=>I j∧m j < m i) (f i)):∀ (n:Nat) (i:ι),I i→m i < n→L (iter f d n i)
 | 0,i,_,hn=>absurd hn (by omega)
 | n+1,i,hi,hn=>by
  have:=h i hi
  simp only [iter]
  cases hf:f i with
  | inl a=>rw [hf] at this; exact this
  | inr j=>rw [hf] at this; exact Lo h n j this.1 (by have:=this.2; omega)
theorem Sk.de:{α:Type}→(s:Sk α)→{L:α→Prop}→s.cZ L→L s.val
 | _,.fin a,_,h=>h
 | _,.br e x y,L,h=>by
  cases e with
  | true=>exact x.de (h.1 rfl)
  | false=>exact y.de (h.2 rfl)
 | _,.r _ c k,L,h=>(k c.v).de (h _ rfl c.hp)
 | _,.wi _ _ _ k,L,h=>k.de (L:=L) h
 | _,.wn _ _ _ k,L,h=>k.de (L:=L) h
 | _,.JU k,L,h=>k.de (L:=L) h
 | _,.JV k,L,h=>k.de (L:=L) h
 | _,.dead _,_,h=>h
 | _,.Be _ _ n k,L,h=>k.de (L:=L) h
 | _,.Tm _ c _ _ x y,L,h=>by
  cases c with
  | true=>exact x.de (h.1 rfl)
  | false=>exact y.de (h.2 rfl)
 | _,.Ra _ _ _ k,L,h=>k.de (L:=L) h
 | _,.fz _ k,L,h=>k.de (L:=L) h
 | _,.op _ k,L,h=>(k []).de (L:=L) h
 | _,.cl _ _ k,L,h=>k.de (L:=L) h
 | _,.oq _ q k,L,h=>(k (canon q)).de (L:=L) (h.2 _ (RN h.1))
 | _,.cq _ _ _ k,L,h=>k.de (L:=L) h
 | _,.Mn _ _ _ k,L,h=>k.de (L:=L) h
 | _,.mr n V init _ _ b k,L,h=>(k _).de (h.2.2 _ rfl (vS (fun g i hg hi=>(b g i).de (h.2.1 g i hg hi)) h.1 _ (fun i hi=>List.mem_range.1 hi)))
 | _,.bind _ J s _ k,L,h=>by
  have h1:=s.de h.1
  show L (gI s.val fun b=>(k b).val)
  cases hs:s.val with
  | inl a=>rw [hs] at h1; exact h1
  | inr b=>rw [hs] at h1; exact (k b).de (h.2 b hs h1)
 | _,.loop d I m i0 _ b,L,h=>Lo (f:=fun i=>(b i).val) (fun i hi=>(b i).de (h.2 i hi)) (m i0+1) i0 h.1 (Nat.lt_succ_self _)
 | _,.rf it I B _ s0 _ _ b k,L,h=>(k _).de (h.2.2 _ rfl (Ln it.ys (fun i s y hs hy=>(b s y).de (h.2.1 i s y hs hy)) s0 h.1))
def wnA (κ n':Nat):AV→AV
 | .own k m=>bif Nat.beq k κ then .own k n' else .own k m
 | x=>x
def wnC (κ n:Nat):AV→CT
 | .own k m=>bif Nat.beq k κ then .nn m n else .nil
 | _=>.nil
def YJ (κ n':Nat):List AV→List AV
 | []=>[]
 | x :: r=>wnA κ n' x :: YJ κ n' r
def aaG (κ n:Nat):List AV→CT
 | []=>.nil
 | x :: r=>.two (wnC κ n x) (aaG κ n r)
def YK (κ n':Nat):List (Nat × AV)→List (Nat × AV)
 | []=>[]
 | (t,x) :: r=>(t,wnA κ n' x) :: YK κ n' r
def WC (κ n:Nat):List (Nat × AV)→CT
 | []=>.nil
 | (_,x) :: r=>.two (wnC κ n x) (WC κ n r)
def J9 (κ n':Nat):List (Nat × bA)→List (Nat × bA)
 | []=>[]
 | (k,.box cs) :: r=>(k,.box (YJ κ n' cs)) :: J9 κ n' r
 | (k,.row e q n f) :: r=>(k,.row e q (bif Nat.beq k κ then n' else n) f) :: J9 κ n' r
 | (k,b) :: r=>(k,b) :: J9 κ n' r
def E6 (κ n:Nat) (n':Nat):List (Nat × bA)→CT
 | []=>.nil
 | (_,.box cs) :: r=>.two (aaG κ n cs) (E6 κ n n' r)
 | (k,.row _ _ m _) :: r=>.two (bif Nat.beq k κ then .nn m n' else .nil) (E6 κ n n' r)
 | (_,_) :: r=>E6 κ n n' r
theorem WD {κ n:Nat} {x:AV} (h:(wnC κ n x).ok):wnA κ n x=x:=by
 unfold wnC at h
 split at h
 ·rename_i k m
  show (bif Nat.beq k κ then AV.own k n else AV.own k m)=AV.own k m
  cases hb:Nat.beq k κ with
  | true =>
   rw [hb] at h
   have h:m=n:=h
   subst h
   rfl
  | false=>rfl
 ·rename_i Uk
  cases x <;> first | rfl | exact absurd rfl (Uk _ _)
theorem Tn {κ n:Nat}:∀ {l:List AV},(aaG κ n l).ok→YJ κ n l=l
 | [],_=>rfl
 | x :: r,h=>by simp only [YJ,WD h.1,Tn h.2]
theorem Tp {κ n:Nat}:∀ {l:List (Nat × AV)},(WC κ n l).ok→YK κ n l=l
 | [],_=>rfl
 | (t,x) :: r,h=>by simp only [YK,WD h.1,Tp h.2]
theorem zZ {κ n:Nat}:∀ {l:List (Nat × bA)},(E6 κ n n l).ok→J9 κ n l=l
 | [],_=>rfl
 | (k,.box cs) :: r,h=>by simp only [J9,Tn h.1,zZ h.2]
 | (k,.row e q m f) :: r,h=>by
  simp only [J9,zZ h.2]
  have h1:=h.1
  cases hb:Nat.beq k κ with
  | false=>rfl
  | true =>
   rw [hb] at h1
   have h1:m=n:=h1
   subst h1
   rfl
 | (k,.mp _ _) :: r,h=>by have h:(E6 κ n n r).ok:=h; simp only [J9,zZ h]
 | (k,.it _ _ _) :: r,h=>by have h:(E6 κ n n r).ok:=h; simp only [J9,zZ h]
 | (k,.mx _) :: r,h=>by have h:(E6 κ n n r).ok:=h; simp only [J9,zZ h]
def Lp (lb:List (Nat × bA)):AV→Option Nat
 | .d (.sl q _)=>some q
 | .own κ _=>(match look lb κ with | some (.row _ _ q _)=>some q | _=>none)
 | _=>none
def Pj (st:St) (t j:Nat):Option Nat :=
 match St.get st.sl t with
 | .ptr κ _=>(match look st.lb κ with | some (.box cs)=>bif Nat.ble (j+1) cs.length then Lp st.lb (cs.getD j default) else none | _=>none)
 | .ref cs=>bif Nat.ble (j+1) cs.length then Lp st.lb (.d (cs.getD j default)) else none
 | .d (.agg cs)=>bif Nat.ble (j+1) cs.length then Lp st.lb (.d (cs.getD j default)) else none
 | x=>Lp st.lb x
def YL (κ:Nat) (f:Nat→List D):AV→AV
 | .own k m=>bif Nat.beq k κ then .d (.sl m f) else .own k m
 | x=>x
def fzC (κ n:Nat):AV→CT
 | .own k m=>bif Nat.beq k κ then .nn m n else .nil
 | x=>.bb (x.keys.any fun k=>Nat.beq k κ) false
def RP (κ:Nat) (f:Nat→List D):List AV→List AV
 | []=>[]
 | x :: r=>YL κ f x :: RP κ f r
def aaH (κ n:Nat):List AV→CT
 | []=>.nil
 | x :: r=>.two (fzC κ n x) (aaH κ n r)
def WE (κ:Nat) (f:Nat→List D):List (Nat × AV)→List (Nat × AV)
 | []=>[]
 | (t,x) :: r=>(t,YL κ f x) :: WE κ f r
def Tq (κ n:Nat):List (Nat × AV)→CT
 | []=>.nil
 | (_,x) :: r=>.two (fzC κ n x) (Tq κ n r)
def fzB (κ:Nat) (f:Nat→List D):bA→bA
 | .box cs=>.box (RP κ f cs)
 | b=>b
def ab5 (κ n:Nat):bA→CT
 | .box cs=>aaH κ n cs
 | .it m _ _=>.bb (Nat.beq m κ) false
 | _=>.nil
def RQ (κ:Nat) (f:Nat→List D):List (Nat × bA)→List (Nat × bA)
 | []=>[]
 | (k,b) :: r=>bif Nat.beq k κ then RQ κ f r else (k,fzB κ f b) :: RQ κ f r
def Ts (κ n:Nat):List (Nat × bA)→CT
 | []=>.nil
 | (k,b) :: r=>.two (bif Nat.beq k κ then .nil else ab5 κ n b) (Ts κ n r)
theorem Pk (κ n:Nat) (f:Nat→List D):∀ (l:List (Nat × AV)) (t:Nat),(Tq κ n l).ok→St.get (WE κ f l) t=YL κ f (St.get l t)∧(fzC κ n (St.get l t)).ok
 | [],t,_=>⟨rfl,rfl⟩
 | (k,x) :: r,t,h=>by
  obtain ⟨i1,i2⟩:=Pk κ n f r t h.2
  simp only [St.get,WE,bH] at i1 i2 ⊢
  by_cases e:k=t
  ·simp only [e,if_true]
   exact ⟨trivial,h.1⟩
  ·simp only [e,if_false]
   exact ⟨i1,i2⟩
theorem tp (κ n:Nat) (f:Nat→List D):∀ (l:List (Nat × bA)) (κ':Nat) (b:bA),(Ts κ n l).ok→look (RQ κ f l) κ'=some b→κ'≠κ∧∃ c,look l κ'=some c∧b=fzB κ f c∧(ab5 κ n c).ok
 | [],κ',b,_,h=>by simp [RQ,look] at h
 | (k,c) :: r,κ',b,h,hl=>by
  have h1:=h.1
  simp only [RQ] at hl
  cases hb:Nat.beq k κ with
  | true =>
   rw [hb] at hl
   simp only [cond_true] at hl
   obtain ⟨q1,d,q2,q3⟩:=tp κ n f r κ' b h.2 hl
   have hk:=Nat.eq_of_beq_eq_true hb
   refine ⟨q1,d,?_,q3⟩
   rw [bH,if_neg (fun e=>q1 (by omega))]
   exact q2
  | false =>
   rw [hb] at hl h1
   simp only [cond_false,bH] at hl h1
   split at hl
   ·rename_i e
    subst e
    simp only [Option.some.injEq] at hl
    subst hl
    refine ⟨fun e=>(by rw [e,Nat.beq_refl] at hb; cases hb),c,(by rw [bH,if_pos rfl]),rfl,h1⟩
   ·rename_i e
    obtain ⟨q1,d,q2,q3⟩:=tp κ n f r κ' b h.2 hl
    exact ⟨q1,d,by rw [bH,if_neg e]; exact q2,q3⟩
theorem JR.fz {st:St} {κ e k n:Nat} {f:Nat→List D} (hl:look st.lb κ=some (.row e k n f)) (h1:(Tq κ n st.sl).ok) (h2:(Ts κ n st.lb).ok):JR st ⟨WE κ f st.sl,RQ κ f st.lb⟩:=by
 rintro C a w ⟨S,μ,hs⟩
 have DV:=hs fun _=>false
 have hm:=DV.mem κ _ hl
 let S':Nat→Prop:=fun q=>S q∨∃ c,μ κ=some (some (q,c))
 have hS:∀ q,S q→S' q:=fun _ h=>.inl h
 have main:∀ {ν:Nat→Bool} {x:AV} {v:Value},(fzC κ n x).ok→Rel w S μ ν x v→Rel w S' μ ν (YL κ f x) v:=by
  intro ν x v hc hr
  have other:YL κ f x=x→Rel w S' μ ν (YL κ f x) v:=fun e=>by rw [e]; exact hr.mono hS (fun _ _=>rfl) (fun _ _ e=>e)
  cases x with
  | own q m =>
   cases hb:Nat.beq q κ with
   | false=>exact other (by simp [YL,hb])
   | true =>
    have e:=Nat.eq_of_beq_eq_true hb
    subst e
    simp only [fzC,hb,cond_true] at hc
    have hc:m=n:=hc
    subst hc
    simp only [YL,hb,cond_true]
    cases hr with
    | @cS _ ad hμ =>
     cases ad with
     | none=>exact .d (.nil f)
     | some ad=>exact .d (.sl 0 f ad 0 0 (fun _ _=>undef) (Nat.le_refl _) (by simp [maxLen]) (.inl rfl) (fun i hi=>absurd hi (by omega)) (fun i j hi=>absurd hi (by omega)) (fun i j hi=>absurd hi (by omega)))
    | @own _ _ g cap hμ =>
     rw [hμ] at hm
     obtain ⟨cur,hg,_,jy,hn,hcp,pd⟩:=hm.at
     refine .d (.sl m f ⟨g,0,none⟩ cap k (fun i j=>(cur[i * k+j]?).getD undef) hn hcp (.inr rfl) (fun i hi=>(pd i hi).1) (fun i j hi hj=>⟨.inr ⟨cap,hμ⟩,?_⟩) (fun i j hi hj=>?_))
     ·obtain ⟨u,hu,_⟩:=(pd i hi).2 j hj
      rw [Nat.zero_add,gA w g _ cur e _ hg,hu]
      rfl
     ·obtain ⟨u,hu,Rl⟩:=(pd i hi).2 j hj
      rw [hu]
      exact Rl.mono hS (fun _ _=>rfl)
  | any=>exact other rfl
  | d=>exact other rfl
  | ptr=>exact other rfl
  | wM=>exact other rfl
  | ref=>exact other rfl
  | yj=>exact other rfl
  | vE=>exact other rfl
  | zN=>exact other rfl
  | fn=>exact other rfl
  | fL=>exact other rfl
  | ag=>exact other rfl
  | g=>exact other rfl
 refine ⟨S',μ,fun ν=>?_⟩
 have VB:=hs ν
 refine ⟨VB.tmps,VB.defers,fun t=>?_,fun κ' b hb=>?_,fun κ1 κ2 b1 b2 g c c' q1 q2 q3 q4=>?_,fun κ' b g c q1 q2=>?_,fun b hb=>.inl (VB.eP b hb),fun b hb=>?_,fun b hb=>?_,VB.kept⟩
 ·obtain ⟨e1,e2⟩:=Pk κ n f st.sl t h1
  simp only [St.fN]
  rw [e1]
  exact main e2 (VB.dV t)
 ·obtain ⟨xN,c,hc,rfl,Oi⟩:=tp κ n f st.lb κ' b h2 hb
  have AZ:=VB.mem κ' c hc
  have hnS:∀ g cc,μ κ'=some (some (g,cc))→¬ S' g:=fun g cc V2 hS'=>by
   rcases hS' with h | ⟨c2,DN⟩
   ·rw [V2] at AZ; exact AZ.at.not h
   ·exact xN (VB.inj κ' κ c _ g cc c2 hc hl V2 DN)
  have Tt:=AZ.mono (S':=S') hS (fun _ _=>rfl) (fun _ _ e=>e) (fun g cc e=>⟨rfl,hnS g cc e⟩)
  cases c with
  | box cs =>
   cases V2:μ κ' with
   | none=>rw [V2] at AZ; exact AZ.elim
   | some y =>
    cases y with
    | none=>rw [V2] at AZ; exact AZ.elim
    | some gc =>
     obtain ⟨g,cc⟩:=gc
     rw [V2] at AZ
     obtain ⟨cur,e0,x1,x2,x3,x4⟩:=AZ.at
     have hlen:∀ (l:List AV),(RP κ f l).length=l.length:=fun l=>by induction l with | nil=>rfl | cons _ _ ih=>simp [RP,ih]
     have Rp:∀ (l:List AV) (j:Nat),j < l.length→(aaH κ n l).ok→(RP κ f l).getD j default=YL κ f (l.getD j default)∧(fzC κ n (l.getD j default)).ok:=fun l=>by
      induction l with
      | nil=>intro j hj; exact absurd hj (by simp)
      | cons x r ih =>
       intro j hj hk
       cases j with
       | zero=>exact ⟨rfl,hk.1⟩
       | succ j=>simpa [RP] using ih j (by simpa using hj) hk.2
     refine dK.ok (b:=.box (RP κ f cs)) ⟨cur,e0,x1,hnS g cc V2,by rw [hlen]; exact x3,fun j hj=>?_⟩
     rw [hlen] at hj
     obtain ⟨x,y1,y2⟩:=x4 j hj
     obtain ⟨z1,z2⟩:=Rp cs j hj Oi
     exact ⟨x,y1,fun ν'=>by rw [z1]; exact main z2 (y2 ν')⟩
  | row=>exact Tt
  | mp=>exact Tt
  | it=>exact Tt
  | mx=>exact Tt
 ·obtain ⟨_,d1,e1,_⟩:=tp κ n f st.lb κ1 b1 h2 q1
  obtain ⟨_,d2,e2,_⟩:=tp κ n f st.lb κ2 b2 h2 q2
  exact VB.inj κ1 κ2 d1 d2 g c c' e1 e2 q3 q4
 ·obtain ⟨_,d1,e1,_⟩:=tp κ n f st.lb κ' b h2 q1
  exact VB.own κ' d1 g c e1 q2
 ·rcases hb with h | ⟨c,hc⟩
  ·exact VB.fresh b h
  ·rcases VB.own κ _ b c hl hc with h | h
   ·exact .inr (.inl h)
   ·exact .inr (.inr h)
 ·rcases hb with h | ⟨c,hc⟩
  ·exact VB.bound b h
  ·rw [hc] at hm
   exact hm.at.lt
def RR (ops:Array Oper):Option (Nat × Nat × Nat) :=
 match ops.toList with
 | [o1,o2]=>(match o1.op,o1.dst,o1.guard,o2.op,o2.dst,o2.guard with
  | .next (.tmp it) false,some d1,none,.extract (.tmp Vz) 0,some d2,none=>bif Nat.beq d1 Vz then some (it,d1,d2) else none
  | _,_,_,_,_,_=>none)
 | _=>none
def oE:Code→Option (Array Oper × List Item)
 | .seq x y=>(match oE x with | some (ops,l)=>some (ops,l++[.code y]) | none=>none)
 | .region _ ops false=>some (ops,[])
 | _=>none
def RS (st:St) (d1 d2 κi κ n i:Nat) (s:List Nat):St:=⟨(d2,.d (.v (.bool true))) :: aP [d1,d2] st.sl,(κi,.it κ n (i :: s)) :: aP [κi] st.lb⟩
def HN (st:St) (d1 d2 it:Nat):St:=⟨(d2,.d (.v (.bool false))) :: aP [d1,d2,it] st.sl,st.lb⟩
inductive WG where
 | ret (x:AV) (cU:List (Nat × bA))
 | Yw (x:AV) (cU:List (Nat × bA)) (mj:List (Nat × Nat))
 | go (todo:List Item) (st:St)
 | brk (id:Nat) (st:St)
def RT (g:Goal):WG→Prop
 | .ret x cU=>g.X3∧g.res=x∧g.cU=cU
 | .Yw x cU mj=>g.RE mj∧g.res=x∧g.cU=cU
 | .go todo st=>G g todo st
 | .brk id st=>∀ k,exitTo id k=none→G g (.code (.exit id) :: k) st
def YM (T:List (Nat × TI)) (rs:List ResultVar) (st:St) (x:AV) (cU:List (Nat × bA)):CT :=
 match uG T st rs with
 | some (l,_,ob)=>(match cU with
  | []=>(match vN st.lb l with | some (l',_,B3)=>.two (Br ob) (.two (Br B3) (RL [] (rA l') x)) | none=>.bad)
  | cU=>.two (Br ob) (.two (.bb (Co (HH st.lb cU (Ll (rA l) x []))) true) (.two (RL (HH st.lb cU (Ll (rA l) x [])) (rA l) x) (RM (HH st.lb cU (Ll (rA l) x [])) st.lb cU))))
 | none=>.bad
def ab6 (mj:List (Nat × Nat)):List (Nat × AV):=mj.map fun p=>(p.1,.ptr p.2 0)
def YN (st:St) (x:AV) (cU:List (Nat × bA)) (mj:List (Nat × Nat)) (l:List AV):Ren:=HH st.lb cU (Wy st.sl (ab6 mj) (Ll (rA l) x []))
def Tu (T:List (Nat × TI)) (rs:List ResultVar) (st:St) (x:AV) (cU:List (Nat × bA)) (mj:List (Nat × Nat)):CT :=
 match uG T st rs with
 | some (l,_,ob)=>.two (Br ob) (.two (.bb (Co (YN st x cU mj l)) true) (.two (RL (YN st x cU mj l) (rA l) x) (.two (YH (YN st x cU mj l) st.sl (ab6 mj)) (RM (YN st x cU mj l) st.lb cU))))
 | none=>.bad
def oG (P:Program) (T:List (Nat × TI)) (nt:Nat) (rm:Nat) (md:Nat) (pr:List Nat) (todo:List Item) (st:St):Option (List Item × St × CT) :=
 match todo with
 | .code (.seq x y) :: k=>some (.code x :: .code y :: k,st,.nil)
 | .code .skip :: k=>some (k,st,.nil)
 | .code (.label _) :: k=>some (k,st,.nil)
 | .code (.cond (.const (.bool e)) x y) :: k=>some (.code (bif e then x else y) :: k,st,.nil)
 | .code (.block id c) :: k=>some (.code c :: .inBlock id :: k,st,.nil)
 | .inBlock _ :: k=>some (k,st,.nil)
 | .code (.exit id) :: k=>(match exitTo id k with | some k'=>some (k',st,.nil) | none=>none)
 | .code (.region _ ops draw) :: k=>(match ph P T nt ops draw none st [] with
  | some (st',ob)=>some (k,st'.keep (Nat.lor rm (kP k)),.two (.bb (Fz md pr ops) true) (Br ob))
  | none=>none)
 | _=>none
def YO (c:Bool):AV→AV→AV
 | .d x,.d y=>.d (bif c then x else y)
 | x,y=>bif c then x else y
theorem YP (c:Bool) (x y:AV):YO c x y=bif c then x else y:=by
 unfold YO
 split
 ·cases c <;> rfl
 ·rfl
def N9 (rm:Nat) (todo:List Item):Nat:=Nat.lor rm (kP todo)
def WH (P:Program) (T:List (Nat × TI)) (nt:Nat) (rm:Nat) (md:Nat) (pr:List Nat):Nat→List Item→St→Option (List Item × St × CT)
 | 0,_,_=>none
 | n+1,todo,st=>(match todo with
  | .beginRound :: k=>some (.beginRound :: k,st,.nil)
  | todo=>(match oG P T nt rm md pr todo st with
   | some (k,st1,c)=>(match WH P T nt rm md pr n k st1 with
    | some (k',st2,c')=>some (k',st2,.two c c')
    | none=>none)
   | none=>none))
def WI (P:Program) (T:List (Nat × TI)) (nt:Nat) (rm:Nat) (md:Nat) (pr:List Nat) (n:Nat) (todo:List Item) (st:St):St:=match WH P T nt rm md pr n todo st with | some (_,st2,_)=>st2 | none=>⟨[],[]⟩
def ab7 (P:Program) (T:List (Nat × TI)) (nt:Nat) (rm:Nat) (md:Nat) (pr:List Nat) (n:Nat) (todo:List Item) (st:St) (k:List Item):CT:=match WH P T nt rm md pr n todo st with | some (k',_,c)=>.two c (.td k' k) | none=>.bad
def mxf (m:List (Int × Int)):Nat→Value × D:=fun i=>(.int .i64 (m.getD i default).1,.v (.int .i64 (m.getD i default).2))
def o8 (P:Program) (T:List (Nat × TI)) (nt:Nat) (rs:List ResultVar) (rm:Nat) (md:Nat) (pr:List Nat):Nat→{α:Type}→List Item→St→(α→WG)→Sk α→CT
 | 0,_,_,_,_,_=>.bad
 | n+1,_,todo,st,L,sk =>
  match sk with
  | .op κ k=>(match look st.lb κ with
   | some (.mx _)=>.pi fun m=>o8 P T nt rs rm md pr n todo ⟨st.sl,(κ,.mp m.length (mxf m)) :: aP [κ] st.lb⟩ L (k m)
   | _=>.bad)
  | .oq κ q k=>(match look st.lb κ with
   | some (.mx q')=>.two (.qq q' q) (.pi fun m=>o8 P T nt rs rm md pr n todo ⟨st.sl,(κ,.mp m.length (mxf m)) :: aP [κ] st.lb⟩ L (k m))
   | _=>.bad)
  | .cq κ m q' k=>(match look st.lb κ with
   | some (.mp q f)=>.two (.nn q m.length) (.two (.mm f (mxf m)) (o8 P T nt rs rm md pr n todo ⟨st.sl,(κ,.mx q') :: aP [κ] st.lb⟩ L k))
   | _=>.bad)
  | .cl κ m k=>(match look st.lb κ with
   | some (.mp q f)=>.two (.nn q m.length) (.two (.mm f (mxf m)) (o8 P T nt rs rm md pr n todo ⟨st.sl,(κ,.mx mxT) :: aP [κ] st.lb⟩ L k))
   | _=>.bad)
  | .Mn id x c k=>(match todo with
   | .code (.region i ops false) :: K=>bif Nat.beq i id then (match Ws ops with
    | some (ts,ti,ty,d1,d2,d3)=>(match St.get st.sl ts,St.get st.sl ti,look T ty with
     | .own κ m,.d (.v (.int .i64 xx)),some { kind:=.slice e',.. }=>(match look st.lb κ,look T e' with
      | some (.row e q m2 f),some i=>.two (.bb (Nat.ble (d1+1) nt&&Nat.ble (d2+1) nt&&Nat.ble (d3+1) nt&&Fz md pr ops&&Nat.beq e e'&&Nat.beq q i.size&&i.zero.all yb&&!Nat.beq ts d1&&!Nat.beq ts d2&&!Nat.beq ts d3) true)
        (.two (.zz xx x) (.two (.nn m m2) (.two (.nn m c.n) (.two (.ff (wZ xx.toNat f i.zero) c.f)
        (o8 P T nt rs rm md pr n K (St.keep (Nat.lor rm (kP K)) ⟨(ts,.own κ c.n') :: aP [ts,d1,d2,d3] st.sl,(κ,.row e q c.n' c.f') :: aP [κ] st.lb⟩) L k)))))
      | _,_=>.bad)
     | _,_,_=>.bad)
    | none=>.bad)
    else (match oG P T nt rm md pr (.code (.region i ops false) :: K) st with | some (k0,st1,c0)=>.two c0 (o8 P T nt rs rm md pr n k0 st1 L (.Mn id x c k)) | none=>.bad)
   | todo=>(match oG P T nt rm md pr todo st with | some (k0,st1,c0)=>.two c0 (o8 P T nt rs rm md pr n k0 st1 L (.Mn id x c k)) | none=>.bad))
  | .wi t a b k=>.two (.vv (St.get st.sl t) (.d (.v (.int .i64 a)))) (o8 P T nt rs rm md pr n todo ⟨(t,.d (.v (.int .i64 b))) :: aP [t] st.sl,st.lb⟩ L k)
  | .Be t j m k=>(match Pj st t j with
   | some q=>.two (.nn q m) (o8 P T nt rs rm md pr n todo st L k)
   | none=>.bad)
  | .wn κ a b k=>.two (WC κ a st.sl) (.two (E6 κ a b st.lb) (o8 P T nt rs rm md pr n todo ⟨YK κ b st.sl,J9 κ b st.lb⟩ L k))
  | .dead _=>.nil
  | .Ra t m k1 k2=>(match St.get st.sl t with
   | .d (.sl q f)=>.two (.nn q m) (.two (o8 P T nt rs rm md pr n todo ⟨(t,.d (.v (.slice none 0 0))) :: aP [t] st.sl,st.lb⟩ L k1) (o8 P T nt rs rm md pr n todo ⟨(t,.yj q f) :: aP [t] st.sl,st.lb⟩ L k2))
   | _=>.bad)
  | .fz κ k=>(match look st.lb κ with
   | some (.row _ _ q f)=>.two (Tq κ q st.sl) (.two (Ts κ q st.lb) (o8 P T nt rs rm md pr n todo ⟨WE κ f st.sl,RQ κ f st.lb⟩ L k))
   | _=>.bad)
  | .mr m V init u v b k=>(match todo with
   | .code (.loop c) :: K=>(match oE c with
    | some (ops,l)=>(match RR ops with
     | some (it,d1,d2)=>bif Nat.ble (d1+1) nt&&Nat.ble (d2+1) nt&&Fz md pr ops then
       .two (J8 st (st.B4 (Nat.lor rm (kP (.inLoop c :: K))) (u init [])))
       (.two (.pi fun g=>.pi fun s=>(match St.get (st.B4 (Nat.lor rm (kP (.inLoop c :: K))) (u g s)).sl it with
        | .ptr κi 0=>(match look (st.B4 (Nat.lor rm (kP (.inLoop c :: K))) (u g s)).lb κi with
         | some (.it κ m1 s1)=>(match look (st.B4 (Nat.lor rm (kP (.inLoop c :: K))) (u g s)).lb κ with
          | some (.mp m2 _)=>.two (.nn m1 m) (.two (.nn m2 m) (.two (.ss s1 s) (.two
            (J8 (HN (st.B4 (Nat.lor rm (kP (.inLoop c :: K))) (u g s)) d1 d2 it) ((HN st d1 d2 it).B4 (Nat.lor rm (kP (l++.inLoop c :: K))) (v g)))
            (.pi fun i=>o8 P T nt rs rm md pr n (l++.inLoop c :: K) (RS (st.B4 (Nat.lor rm (kP (.inLoop c :: K))) (u g s)) d1 d2 κi κ m i s) (fun g'=>.go (.inLoop c :: K) (st.B4 (Nat.lor rm (kP (.inLoop c :: K))) (u g' (i :: s)))) (b g i)))))
          | _=>.bad)
         | _=>.bad)
        | _=>.bad))
       (.pi fun g=>o8 P T nt rs rm md pr n (l++.inLoop c :: K) ((HN st d1 d2 it).B4 (Nat.lor rm (kP (l++.inLoop c :: K))) (v g)) L (k g))) else .bad
     | none=>.bad)
    | none=>.bad)
   | todo=>(match oG P T nt rm md pr todo st with | some (k0,st1,c)=>.two c (o8 P T nt rs rm md pr n k0 st1 L (.mr m V init u v b k)) | none=>.bad))
  | .JU x=>(match todo with
   | .code (.cond (.tmp c) p _) :: k=>.two (.vv (St.get st.sl c) (.d (.v (.bool true)))) (o8 P T nt rs rm md pr n (.code p :: k) st L x)
   | todo=>(match oG P T nt rm md pr todo st with | some (k,st1,c)=>.two c (o8 P T nt rs rm md pr n k st1 L (.JU x)) | none=>.bad))
  | .JV x=>(match todo with
   | .code (.cond (.tmp c) _ q) :: k=>.two (.vv (St.get st.sl c) (.d (.v (.bool false)))) (o8 P T nt rs rm md pr n (.code q :: k) st L x)
   | todo=>(match oG P T nt rm md pr todo st with | some (k,st1,c)=>.two c (o8 P T nt rs rm md pr n k st1 L (.JV x)) | none=>.bad))
  | .Tm t c x y k1 k2=>.two (.vv (St.get st.sl t) (YO c x y)) (.two (o8 P T nt rs rm md pr n todo ⟨(t,x) :: aP [t] st.sl,st.lb⟩ L k1) (o8 P T nt rs rm md pr n todo ⟨(t,y) :: aP [t] st.sl,st.lb⟩ L k2))
  | .fin a=>(match L a with
   | .go Hy st'=>bif Nat.beq todo.length Hy.length then .two (.td todo Hy) (J8 st st') else
     (match oG P T nt rm md pr todo st with | some (k,st1,c)=>.two c (o8 P T nt rs rm md pr n k st1 L (.fin a)) | none=>.bad)
   | .brk id st'=>(match todo with
    | .code (.exit id') :: k=>bif Nat.beq id id'&&(exitTo id' k).isNone then J8 st st' else
     (match oG P T nt rm md pr (.code (.exit id') :: k) st with | some (k,st1,c)=>.two c (o8 P T nt rs rm md pr n k st1 L (.fin a)) | none=>.bad)
    | todo=>(match oG P T nt rm md pr todo st with | some (k,st1,c)=>.two c (o8 P T nt rs rm md pr n k st1 L (.fin a)) | none=>.bad))
   | .ret x cU=>(match todo with
    | []=>YM T rs st x cU
    | .code .ret :: _=>YM T rs st x cU
    | todo=>(match oG P T nt rm md pr todo st with | some (k,st1,c)=>.two c (o8 P T nt rs rm md pr n k st1 L (.fin a)) | none=>.bad))
   | .Yw x cU mj=>(match todo with
    | []=>Tu T rs st x cU mj
    | .code .ret :: _=>Tu T rs st x cU mj
    | todo=>(match oG P T nt rm md pr todo st with | some (k,st1,c)=>.two c (o8 P T nt rs rm md pr n k st1 L (.fin a)) | none=>.bad)))
  | .br e x y=>(match todo with
   | .code (.cond (.tmp c) p q) :: k=>.two (.vv (St.get st.sl c) (.d (.v (.bool e)))) (.two (o8 P T nt rs rm md pr n (.code p :: k) st L x) (o8 P T nt rs rm md pr n (.code q :: k) st L y))
   | todo=>(match oG P T nt rm md pr todo st with | some (k,st1,c)=>.two c (o8 P T nt rs rm md pr n k st1 L (.br e x y)) | none=>.bad))
  | .r id cl kk=>(match todo with
   | .code (.region i ops draw) :: k=>bif Nat.beq i id then
     .pi fun x=>(match ph P T nt ops draw none st (cl.jL x) with
      | some (st',ob)=>.two (.bb (Fz md pr ops) true) <| .two ob.eqs (.two (.po ob.prop (cl.lx x)) (o8 P T nt rs rm md pr n k (st'.keep (Nat.lor rm (kP k))) L (kk x)))
      | none=>.bad)
    else (match oG P T nt rm md pr (.code (.region i ops draw) :: k) st with | some (k,st1,c)=>.two c (o8 P T nt rs rm md pr n k st1 L (.r id cl kk)) | none=>.bad)
   | todo=>(match oG P T nt rm md pr todo st with | some (k,st1,c)=>.two c (o8 P T nt rs rm md pr n k st1 L (.r id cl kk)) | none=>.bad))
  | .bind true J s u kk=>(match todo with
   | .code (.block id c) :: k=>.two (o8 P T nt rs rm md pr n (.code c :: .inBlock id :: k) st (fun q=>match q with | .inl a=>L a | .inr b=>.go k (st.B4 (Nat.lor rm (kP k)) (u b))) s) (.pi fun b=>o8 P T nt rs rm md pr n k (st.B4 (Nat.lor rm (kP k)) (u b)) L (kk b))
   | todo=>(match oG P T nt rm md pr todo st with | some (k,st1,c)=>.two c (o8 P T nt rs rm md pr n k st1 L (.bind true J s u kk)) | none=>.bad))
  | .bind false J s u kk=>(match todo with
   | .code (.cond (.tmp c) p q) :: k=>.two (o8 P T nt rs rm md pr n (.code (.cond (.tmp c) p q) :: k) st (fun q=>match q with | .inl a=>L a | .inr b=>.go k (st.B4 (Nat.lor rm (kP k)) (u b))) s) (.pi fun b=>o8 P T nt rs rm md pr n k (st.B4 (Nat.lor rm (kP k)) (u b)) L (kk b))
   | todo=>(match oG P T nt rm md pr todo st with | some (k,st1,c)=>.two c (o8 P T nt rs rm md pr n k st1 L (.bind false J s u kk)) | none=>.bad))
  | .loop d I m i0 u b=>(match todo with
   | .code (.loop c) :: k=>.two (J8 st (st.B4 (Nat.lor rm (kP (.inLoop c :: k))) (u i0))) (.pi fun i=>o8 P T nt rs rm md pr n (.code c :: .inLoop c :: k) (st.B4 (Nat.lor rm (kP (.inLoop c :: k))) (u i)) (fun q=>match q with | .inl a=>L a | .inr j=>.go (.inLoop c :: k) (st.B4 (Nat.lor rm (kP (.inLoop c :: k))) (u j))) (b i))
   | todo=>(match oG P T nt rm md pr todo st with | some (k,st1,c)=>.two c (o8 P T nt rs rm md pr n k st1 L (.loop d I m i0 u b)) | none=>.bad))
  | .rf it I B id s0 u v b kk=>(match todo with
   | .code (.rangeFunc (.tmp t) ps Mk body) :: k =>
     .two (.bb (Nat.beq md 0) true) <|
     .two (.vv (St.get (sy (N9 rm todo) (aP [] st.sl)) t) (.fn it.gf it.cE)) <|
     .two (.bb (uu.ni it.cE) true) <|
     .two (.po (some (UD P it.gf it.cE (it.ys.map it.enc))) (some (UD it.P it.gf it.cE (it.ys.map it.enc)))) <|
     .two (.bb (RG nt ((sy (N9 rm todo) (aP [] st.sl)).map (·.1)) ps.toList) true) <|
     .two (J8 st (st.B4 (N9 rm todo) ⟨[],u s0⟩)) <|
     .two (.pi fun y=>.nn ps.toList.length (it.enc y).length) <|
     .two (.pi fun s=>.pi fun y=>.two
      (ab7 P T nt (N9 rm todo) 1 ((sy (N9 rm todo) (aP [] st.sl)).map (·.1)) n [.code Mk,.beginRound,.code body] ⟨xQ ps.toList (it.enc y)++sy (N9 rm todo) (aP [] st.sl),(st.B4 (N9 rm todo) ⟨[],u s⟩).lb⟩ [.beginRound,.code body])
      (o8 P T nt rs (N9 rm todo) 1 ((sy (N9 rm todo) (aP [] st.sl)).map (·.1)) n [.code body] (WI P T nt (N9 rm todo) 1 ((sy (N9 rm todo) (aP [] st.sl)).map (·.1)) n [.code Mk,.beginRound,.code body] ⟨xQ ps.toList (it.enc y)++sy (N9 rm todo) (aP [] st.sl),(st.B4 (N9 rm todo) ⟨[],u s⟩).lb⟩)
       (fun q=>match q with | .inl a=>.brk id (st.B4 (N9 rm todo) ⟨[],v a⟩) | .inr j=>.go [] (st.B4 (N9 rm todo) ⟨[],u j⟩)) (b s y))) <|
     .two (.pi fun s=>o8 P T nt rs rm md pr n k (st.B4 (N9 rm todo) ⟨[],u s⟩) L (kk (.inr s))) (.pi fun a=>o8 P T nt rs rm md pr n (.code (.exit id) :: k) (st.B4 (N9 rm todo) ⟨[],v a⟩) L (kk (.inl a)))
   | todo=>(match oG P T nt rm md pr todo st with | some (k,st1,c)=>.two c (o8 P T nt rs rm md pr n k st1 L (.rf it I B id s0 u v b kk)) | none=>.bad))
section
variable {g : Goal}
theorem G.keep (m:Nat) {k:List Item} {st:St} (h:G g k (st.keep m)):G g k st:=.le (.keep m st) h
theorem Tv (hn:g.X3) (hT:mX g.P g.T) (hf:g.P.funcs[g.f]? = some g.fn) {st:St} {x:AV} {cU:List (Nat × bA)} (h:(YM g.T g.fn.results.toList st x cU).ok) (hx:g.res=x) (hl:g.cU=cU):G g [] st∧∀ k,G g (.code .ret :: k) st:=by
 subst hx
 subst hl
 unfold YM at h
 split at h
 ·rename_i l ro ob hr
  split at h
  ·rename_i hl
   split at h
   ·rename_i l' Lb B3 hb
    obtain ⟨h1,h2,h3⟩:=h
    obtain ⟨p,q1,q2⟩:=Ct _ _ h3
    have hle:tG (rA l') g.res:=fun w S μ ν v hv=>by
     exact (vR (ρ:=[]) (rA l') g.res p q1 q2 v hv).mono (fun _ h=>h) (fun _ _=>rfl) (fun k y hk=>by simp [vP,look] at hk)
    exact G.ret hn hT hf hl hr (tJ h1) hb (tJ h2) hle
   ·exact h.elim
  ·obtain ⟨h1,h2,h3,h4⟩:=h
   obtain ⟨p,q1,q2⟩:=Ct _ _ h3
   obtain ⟨p',q3,q4⟩:=Cu h4
   exact G.adC hn hT hf _ hr (tJ h1) h2 q1 q2 q3 q4
 ·exact h.elim
theorem Pl {mj:List (Nat × Nat)} (hn:g.RE mj) (hT:mX g.P g.T) (hf:g.P.funcs[g.f]? = some g.fn) {st:St} {x:AV} {cU:List (Nat × bA)} (h:(Tu g.T g.fn.results.toList st x cU mj).ok) (hx:g.res=x) (hl:g.cU=cU):G g [] st∧∀ k,G g (.code .ret :: k) st:=by
 subst hx
 subst hl
 unfold Tu at h
 split at h
 ·rename_i l ro ob hr
  obtain ⟨h1,h2,h3,h4,h5⟩:=h
  obtain ⟨p,q1,q2⟩:=Ct _ _ h3
  obtain ⟨p',q3,q4⟩:=Cu h5
  obtain ⟨p'',q5,q6⟩:=Mr h4
  exact G.Yw hn hT hf _ hr (tJ h1) h2 q1 q2 q3 q4 q5 q6
 ·exact h.elim
theorem fI (hT:mX g.P g.T) (hm:g.P.follows .mixedOrders=true) {rm:Nat} {todo k:List Item} {st st':St} {c:CT} (h:oG g.P g.T g.nt rm g.md g.pr todo st=some (k,st',c)) (hc:c.ok) (hg:G g k st'):G g todo st:=by
 unfold oG at h
 split at h
 ·simp only [Option.some.injEq,Prod.mk.injEq] at h; obtain ⟨rfl,rfl,-⟩:=h; exact .seq hg
 ·simp only [Option.some.injEq,Prod.mk.injEq] at h; obtain ⟨rfl,rfl,-⟩:=h; exact .skip hg
 ·simp only [Option.some.injEq,Prod.mk.injEq] at h; obtain ⟨rfl,rfl,-⟩:=h; exact .label hg
 ·simp only [Option.some.injEq,Prod.mk.injEq] at h; obtain ⟨rfl,rfl,-⟩:=h; exact .abN hg
 ·simp only [Option.some.injEq,Prod.mk.injEq] at h; obtain ⟨rfl,rfl,-⟩:=h; exact .block hg
 ·simp only [Option.some.injEq,Prod.mk.injEq] at h; obtain ⟨rfl,rfl,-⟩:=h; exact .inBlock hg
 ·split at h
  ·rename_i k' he
   simp only [Option.some.injEq,Prod.mk.injEq] at h; obtain ⟨rfl,rfl,-⟩:=h; exact .exit he hg
  ·cases h
 ·split at h
  ·rename_i st1 ob hr
   simp only [Option.some.injEq,Prod.mk.injEq] at h
   obtain ⟨rfl,rfl,rfl⟩:=h
   exact .region hT hm hc.1 hr (tJ hc.2) (.keep _ hg)
  ·cases h
 ·cases h
theorem JR.put {st:St} (t:Nat) {x y:AV} (hx:St.get st.sl t=x) (h:tG x y):JR st ⟨(t,y) :: aP [t] st.sl,st.lb⟩:=by
 rintro C a w ⟨S,μ,hs⟩
 refine ⟨S,μ,fun ν=>(hs ν).weaken (fun u v hv=>?_) (fun κ b hb=>⟨b,hb,fun _ h=>h⟩)⟩
 simp only [St.fN] at hv ⊢
 rw [GG]
 split
 ·rename_i e
  subst e
  rw [hx] at hv
  exact h _ _ _ _ _ hv
 ·exact hv
theorem Cw {C:Cx} {A:M} {a:Act} {w:World} {S:Nat→Prop} {μ:Mu} {ν:Nat→Bool} {lb:List (Nat × bA)} (hs:c6 C A a w S μ ν) (hA:A.lb=look lb) {x:AV} {v:Value} {q:Nat} (h:Lp lb x=some q) (hr:Rel w S μ ν x v):q≤maxLen:=by
 unfold Lp at h
 split at h
 ·simp only [Option.some.injEq] at h
  subst h
  cases iE.1 hr with
  | nil=>simp [maxLen]
  | sl _ _ _ _ _ _ hc hm=>omega
 ·rename_i κ n
  split at h
  ·rename_i e k q' f hl
   simp only [Option.some.injEq] at h
   subst h
   have hm:=hs.mem κ _ (by rw [hA]; exact hl)
   cases hμ:μ κ with
   | none=>rw [hμ] at hm; exact hm.elim
   | some y =>
    rw [hμ] at hm
    cases y with
    | none=>have:q'=0:=hm; simp [this]
    | some gc =>
     obtain ⟨g,c⟩:=gc
     obtain ⟨cur,_,_,_,q4,q5,_⟩:=hm.at
     omega
  ·cases h
 ·cases h
theorem c6.Pm {C:Cx} {A B:M} {a:Act} {w:World} {S:Nat→Prop} {μ:Mu} {ν:Nat→Bool} (h:c6 C A a w S μ ν) (Q6:∀ t,B.sl t=A.sl t) (Q7:∀ κ b',B.lb κ=some b'→∃ b,A.lb κ=some b∧(gW w S μ b (μ κ)→gW w S μ b' (μ κ))):c6 C B a w S μ ν:=by
 refine ⟨h.tmps,h.defers,fun t=>by rw [Q6]; exact h.dV t,fun κ b hb=>?_,fun κ κ' b b' g c c' hb mV hm AZ=>?_,fun κ b g c hb hm=>?_,h.eP,h.fresh,h.bound,h.kept⟩
 ·obtain ⟨d,h1,h2⟩:=Q7 κ b hb
  exact h2 (h.mem κ d h1)
 ·obtain ⟨d,h1,_⟩:=Q7 κ b hb
  obtain ⟨d',h1',_⟩:=Q7 κ' b' mV
  exact h.inj κ κ' d d' g c c' h1 h1' hm AZ
 ·obtain ⟨d,h1,_⟩:=Q7 κ b hb
  exact h.own κ d g c h1 hm
theorem ZJ (st:St) (κ:Nat) (b:bA) (k:Nat):(St.fN ⟨st.sl,(κ,b) :: aP [κ] st.lb⟩).lb k=if κ=k then some b else st.fN.lb k:=by
 simp only [St.fN,bH,lT]
 split
 ·rfl
 ·rename_i h
  rw [if_neg (by simp; exact fun e=>h e.symm)]
theorem G.cl {g:Goal} {k:List Item} {st:St} {κ n:Nat} {f:Nat→Value × D} {m:List (Int × Int)} {q:List (Int × Int)→Prop} (hl:look st.lb κ=some (.mp n f)) (hn:n=m.length) (hf:f=mxf m) (hq:q m) (h:G g k ⟨st.sl,(κ,.mx q) :: aP [κ] st.lb⟩):G g k st:=by
 subst hn
 subst hf
 refine .le (fun C a w hs=>?_) h
 obtain ⟨S,μ,hs⟩:=hs
 refine ⟨S,μ,fun ν=>(hs ν).Pm (fun _=>rfl) (fun κ' b' hb=>?_)⟩
 rw [ZJ] at hb
 split at hb
 ·rename_i e
  subst e
  simp only [Option.some.injEq] at hb
  subst hb
  refine ⟨_,hl,fun hy=>?_⟩
  generalize μ κ=y at hy ⊢
  match y,hy with
  | some (some (g,c)),hy=>exact ⟨m,hq,hy⟩
 ·exact ⟨b',hb,fun h=>h⟩
theorem G.op {g:Goal} {k:List Item} {st:St} {κ:Nat} {q:List (Int × Int)→Prop} (hl:look st.lb κ=some (.mx q)) (h:∀ m,q m→G g k ⟨st.sl,(κ,.mp m.length (mxf m)) :: aP [κ] st.lb⟩):G g k st:=by
 intro C h1 h2 a w Q8 hs
 obtain ⟨S,μ,hs⟩:=hs
 have hm:=(hs fun _=>false).mem κ _ hl
 obtain ⟨m,hq,AZ⟩:∃ m:List (Int × Int),q m∧gW w S μ (.mp m.length (mxf m)) (μ κ):=by
  generalize μ κ=y at hm ⊢
  match y,hm with
  | some (some (g,c)),hm=>obtain ⟨m,hq,hm⟩:=hm; exact ⟨m,hq,hm⟩
 refine h m hq C h1 h2 a w Q8 ⟨S,μ,fun ν=>(hs ν).Pm (fun _=>rfl) (fun κ' b' hb=>?_)⟩
 rw [ZJ] at hb
 split at hb
 ·rename_i e
  subst e
  simp only [Option.some.injEq] at hb
  subst hb
  exact ⟨_,hl,fun _=>AZ⟩
 ·exact ⟨b',hb,fun h=>h⟩
theorem G.Pj {k:List Item} {st:St} {t j q:Nat} (h:Pj st t j=some q) (hg:q≤maxLen→G g k st):G g k st:=by
 intro C h1 h2 a w Q8 hs
 have DV:=hs
 obtain ⟨S,μ,da⟩:=hs
 refine hg ?_ C h1 h2 a w Q8 DV
 have hs:=da fun _=>false
 have hr:=hs.dV t
 simp only [St.fN] at hr
 unfold Go.Av.Pj at h
 split at h
 ·rename_i κ o hx
  split at h
  ·rename_i cs hl
   rw [Bool.cond_eq_ite] at h
   split at h
   ·rename_i hj
    have hj:=Nat.le_of_ble_eq_true hj
    rw [hx] at hr
    generalize a.tmps.getD t undef=v at hr
    cases hr with
    | ptr hμ =>
     have hm:=hs.mem κ _ hl
     rw [hμ] at hm
     obtain ⟨cur,e,_,_,jy,hc⟩:=hm.at
     obtain ⟨x,_,hx⟩:=hc j hj
     exact Cw hs rfl h (hx fun _=>false)
   ·cases h
  ·cases h
 ·rename_i cs hx
  rw [Bool.cond_eq_ite] at h
  split at h
  ·rename_i hj
   have hj:=Nat.le_of_ble_eq_true hj
   rw [hx] at hr
   generalize a.tmps.getD t undef=v at hr
   cases hr with
   | ref fV bW hh=>exact Cw hs rfl h (.d (hh j hj))
  ·cases h
 ·rename_i cs hx
  rw [Bool.cond_eq_ite] at h
  split at h
  ·rename_i hj
   have hj:=Nat.le_of_ble_eq_true hj
   rw [hx] at hr
   generalize a.tmps.getD t undef=v at hr
   cases iE.1 hr with
   | agg _ vs hl hh=>exact Cw hs rfl h (.d (hh j hj))
  ·cases h
 ·exact Cw hs rfl h hr
theorem G.Ra {k:List Item} {st:St} {t n:Nat} {f:Nat→List D} (ht:St.get st.sl t=.d (.sl n f)) (h1:n=0→G g k ⟨(t,.d (.v (.slice none 0 0))) :: aP [t] st.sl,st.lb⟩) (h2:G g k ⟨(t,.yj n f) :: aP [t] st.sl,st.lb⟩):G g k st:=by
 intro C c1 c2 a w Q8 hs
 obtain ⟨S,μ,da⟩:=hs
 have hr:=(da fun _=>false).dV t
 simp only [St.fN,ht] at hr
 have put:∀ y:AV,(∀ ν,Rel w S μ ν y (a.tmps.getD t undef))→j0 C ⟨(t,y) :: aP [t] st.sl,st.lb⟩ a w:=fun y hy=>by
  refine ⟨S,μ,fun ν=>?_⟩
  have h:=da ν
  refine ⟨h.tmps,h.defers,fun u=>?_,h.mem,h.inj,h.own,h.eP,h.fresh,h.bound,h.kept⟩
  simp only [St.fN]
  rw [GG]
  split
  ·rename_i e
   subst e
   exact hy ν
  ·exact h.dV u
 cases hv:a.tmps.getD t undef with
 | slice ad m cap =>
  rw [hv] at hr
  cases ad with
  | none =>
   cases iE.1 hr with
   | nil=>exact h1 rfl C c1 c2 a w Q8 (put _ (fun ν=>by rw [hv]; exact gz rfl))
  | some ad=>exact h2 C c1 c2 a w Q8 (put _ (fun ν=>by rw [hv]; exact .yj (iE.1 hr)))
 | _=>rw [hv] at hr; cases iE.1 hr
theorem G.oE:∀ {c:Code} {ops:Array Oper} {l K:List Item} {st:St},Go.Av.oE c=some (ops,l)→(∀ id,G g (.code (.region id ops false) :: (l++K)) st)→G g (.code c :: K) st
 | .seq x y,ops,l,K,st,h,hg=>by
  simp only [Go.Av.oE] at h
  split at h
  ·rename_i adT l' hx
   simp only [Option.some.injEq,Prod.mk.injEq] at h
   obtain ⟨rfl,rfl⟩:=h
   exact .seq (G.oE hx (fun id=>by have:=hg id; rwa [List.append_assoc] at this))
  ·cases h
 | .region id adT false,ops,l,K,st,h,hg=>by
  simp only [Go.Av.oE,Option.some.injEq,Prod.mk.injEq] at h
  obtain ⟨rfl,rfl⟩:=h
  exact hg id
 | .region _ _ true,_,_,_,_,h,_=>by simp [Go.Av.oE] at h
 | .skip,_,_,_,_,h,_=>by simp [Go.Av.oE] at h
 | .cond ..,_,_,_,_,h,_=>by simp [Go.Av.oE] at h
 | .block ..,_,_,_,_,h,_=>by simp [Go.Av.oE] at h
 | .loop ..,_,_,_,_,h,_=>by simp [Go.Av.oE] at h
 | .rangeFunc ..,_,_,_,_,h,_=>by simp [Go.Av.oE] at h
 | .exit ..,_,_,_,_,h,_=>by simp [Go.Av.oE] at h
 | .scope ..,_,_,_,_,h,_=>by simp [Go.Av.oE] at h
 | .label ..,_,_,_,_,h,_=>by simp [Go.Av.oE] at h
 | .goto ..,_,_,_,_,h,_=>by simp [Go.Av.oE] at h
 | .ret,_,_,_,_,h,_=>by simp [Go.Av.oE] at h
 | .refuse ..,_,_,_,_,h,_=>by simp [Go.Av.oE] at h
theorem j0.ab8 {C:Cx} {st:St} {a:Act} {w:World} {S:Nat→Prop} {μ:Mu} (da:∀ ν,c6 C st.fN a w S μ ν) {d1 d2:Nat} (Vy:d1 < C.nt) (X4:d2 < C.nt) (x:Value) (b:Bool) (ds:List Nat) (h1:d1∈ds) (h2:d2∈ds) :
  ∀ ν,c6 C (St.fN ⟨(d2,.d (.v (.bool b))) :: aP ds st.sl,st.lb⟩) ((a.put (some d1) x).put (some d2) (.bool b)) w S μ ν:=fun ν=>by
 have h:=da ν
 refine ⟨by simp [Act.put,h.tmps],h.defers,fun u=>?_,h.mem,h.inj,h.own,h.eP,h.fresh,h.bound,h.kept⟩
 simp only [St.fN,St.get,bH]
 by_cases c2:d2=u
 ·subst c2
  simp only [if_true,Act.put]
  rw [gH _ _ _ (by simp [h.tmps]; exact X4)]
  exact gz rfl
 ·simp only [c2,if_false,lT]
  split
  ·rename_i x hx
   split at hx
   ·cases hx
   ·rename_i hn
    have n1:u≠d1:=fun e=>hn (e ▸ h1)
    have n2:u≠d2:=fun e=>hn (e ▸ h2)
    simp only [Act.put]
    rw [cT _ _ _ _ n2,cT _ _ _ _ n1]
    have:=h.dV u
    simp only [St.fN,St.get,hx] at this
    exact this
  ·exact .any _
theorem G.next (hm:g.P.follows .mixedOrders=true) {K:List Item} {st:St} {id:Nat} {ops:Array Oper} {it d1 d2 κi κ n:Nat} {f:Nat→Value × D} {s:List Nat} (RC:Fz g.md g.pr ops=true) (pk:RR ops=some (it,d1,d2)) (Vy:d1 < g.nt) (X4:d2 < g.nt)
  (X1:St.get st.sl it=.ptr κi 0) (JQ:look st.lb κi=some (.it κ n s)) (hl:look st.lb κ=some (.mp n f))
  (vL:∀ i,i < n→i ∉ s→G g K (RS st d1 d2 κi κ n i s)) (Yz:(∀ i,i < n→i∈s)→G g K (HN st d1 d2 it)):G g (.code (.region id ops false) :: K) st:=by
 intro C c1 c2 a w Q8 hs
 suffices hw:wpOps C.P ops (fun e a' w'=>e=.normal∧((∃ i,i < n∧i ∉ s∧j0 C (RS st d1 d2 κi κ n i s) a' w')∨((∀ i,i < n→i∈s)∧j0 C (HN st d1 d2 it) a' w'))) (List.range ops.size) a w by
  rw [c1] at hw
  refine G.ops hm RC Q8 (.inl ⟨rfl,hw⟩) (fun a' w' fW vK=>?_)
  rcases vK with ⟨i,hi,hn,vK⟩ | ⟨he,vK⟩
  ·exact vL i hi hn C c1 c2 a' w' fW vK
  ·exact Yz he C c1 c2 a' w' fW vK
 obtain ⟨S,μ,da⟩:=hs
 have h0:=da fun _=>false
 rw [← c2] at Vy X4
 unfold RR at pk
 split at pk
 ·rename_i o1 o2 hol
  split at pk
  ·rename_i it' Vz e1 d2' q1 q2 q3 q4 q5 q6
   rw [Bool.cond_eq_ite] at pk
   split at pk
   ·rename_i heq
    have heq:=Nat.eq_of_beq_eq_true heq
    subst heq
    simp only [Option.some.injEq,Prod.mk.injEq] at pk
    obtain ⟨rfl,rfl,rfl⟩:=pk
    have pk:ops = #[o1,o2]:=by cases ops; simpa using hol
    subst pk
    show wpOps C.P #[o1,o2] _ [0,1] a w
    have w1:∀ y,Region.wanted o1 y=true:=fun y=>by simp [Region.wanted,q3]
    have w2:∀ y,Region.wanted o2 y=true:=fun y=>by simp [Region.wanted,q6]
    have hr:=h0.dV it'
    simp only [St.fN,X1] at hr
    generalize Vv:a.tmps.getD it' undef=iv at hr
    cases hr with
    | @ptr _ _ gi ci hμi =>
     have Zu:=h0.mem κi _ JQ
     rw [hμi] at Zu
     have adU:=Zu.at
     obtain ⟨mg,c,hμ,hgi,abG⟩:=adU
     have J4:=h0.mem κ _ hl
     rw [hμ] at J4
     obtain ⟨cur,hg,su,jy,bW⟩:=J4.at
     have hev:a.eval (.tmp it')=.pointer (some ⟨gi,0,none⟩):=Vv
     have ZK:∀ x,x∈cur.toList→x.born < n:=fun x hx=>by
      obtain ⟨q,hq,rfl⟩:=List.getElem_of_mem hx
      have hqn:q < n:=by simpa [jy] using hq
      obtain ⟨e,y1,_,_,y4,_⟩:=bW q hqn
      have:cur.toList[q]=e:=by simpa using (Array.getElem?_eq_some_iff.1 y1).2
      rw [this,y4]; exact hqn
     have ext:∀ (a':Act) (w':World) (b:Bool) (rest:List Value),a'.eval (.tmp Vz)=.tuple (#[.bool b]++rest.toArray)→(execOp a'.eval o2).run C.P w'=.ok (.value (.bool b)) w':=fun a' w' b rest hh=>by
      simp [execOp,q4,hh,Instr.extract]
     have UF:∀ (x:Value),(a.put (some Vz) x).eval (.tmp Vz)=x:=fun x=>by
      show (a.tmps.setIfInBounds Vz x).getD Vz undef=x
      exact gH _ _ _ (by rw [h0.tmps]; exact Vy)
     rcases run_next_at (P:=C.P) w o1.type gi mg n n s.reverse.toArray cur n hgi hg ZK (Nat.le_refl _) with ⟨hz,gy⟩ | ⟨e,he,wd,hwd,gy⟩
     ·simp only [wpOps,List.getElem?_toArray,List.getElem?_cons_zero,List.getElem?_cons_succ,w1,w2,if_true]
      left
      unfold Oper.wp
      have hx:(execOp a.eval o1).run C.P w=.ok (.value (.tuple #[.bool false])) w:=by
       simp only [execOp,q1,hev,Sem.run_bind,gy,Result.andThen_ok,Sem.run_pure]
      rw [hx,Oper.upon_value,q2]
      left
      rw [ext (a.put (some Vz) (.tuple #[.bool false])) w false [] (by rw [UF]; rfl),Oper.upon_value,q5]
      refine ⟨trivial,.inr ⟨fun i hi=>?_,⟨S,μ,j0.ab8 da Vy X4 _ false [Vz,d2',it'] (by simp) (by simp)⟩⟩⟩
      have:∀ x,x∈cur.toList→x.born∈s:=fun x hx=>by
       have hz':leftOf cur s.reverse.toArray = #[]:=Array.eq_empty_of_size_eq_zero hz
       unfold leftOf at hz'
       rw [Array.filter_eq_empty_iff] at hz'
       have:=hz' x (by simpa using hx)
       simpa using this
      obtain ⟨e,y1,_,_,y4,_⟩:=bW i hi
      have hm:e∈cur.toList:=by
       have:=(Array.getElem?_eq_some_iff.1 y1)
       obtain ⟨eC,rfl⟩:=this
       simp
      have:=this e hm
      rwa [y4] at this
     ·simp only [wpOps,List.getElem?_toArray,List.getElem?_cons_zero,List.getElem?_cons_succ,w1,w2,if_true]
      left
      unfold Oper.wp
      have hx:(execOp a.eval o1).run C.P w=.ok (.value (.tuple #[.bool true,e.key,e.val])) (ChangeMaps.setBlock wd gi (.mapIter (some mg) n (s.reverse.toArray.push e.born) n)):=by
       simp only [execOp,q1,hev,Sem.run_bind,gy,Result.andThen_ok,Sem.run_pure]
      rw [hx,Oper.upon_value,q2]
      left
      rw [ext (a.put (some Vz) (.tuple #[.bool true,e.key,e.val])) _ true [e.key,e.val] (by rw [UF]; rfl),Oper.upon_value,q5]
      have jZ:e∈cur.toList∧e.born ∉ s:=by
       unfold leftOf at he
       simpa using he
      refine ⟨trivial,.inl ⟨e.born,ZK e jZ.1,jZ.2,?_⟩⟩
      have adV:Kept w wd (fun _=>False):=by
       rcases hwd with rfl | rfl
       ·exact Kept.refl _ _
       ·exact ⟨rfl,rfl,rfl,Nat.le_refl _,fun _ _ _=>rfl⟩
      have adW:wd.heap[gi]? = some (.mapIter (some mg) n s.reverse.toArray n):=by rcases hwd with rfl | rfl <;> exact hgi
      have Wq:∀ ν,c6 C st.fN a wd S μ ν:=fun ν=>(da ν).world (fun _ x=>x) (fun _ x=>.inl x) adV
      have adX:ChangeMaps.setBlock wd gi (.mapIter (some mg) n (s.reverse.toArray.push e.born) n)=World.Bi wd gi (.mapIter (some mg) n (s.reverse.toArray.push e.born) n):=rfl
      rw [adX]
      have Pd:∀ ν,c6 C (st.fN.set κi (some (.it κ n (e.born :: s)))) a (World.Bi wd gi (.mapIter (some mg) n (s.reverse.toArray.push e.born) n)) S μ ν:=fun ν=>(Wq ν).Ma (b:=.it κ n s) JQ hμi (tf gi _) ⟨mg,c,hμ,by rw [GC _ adW]; simp,abG⟩
      have kj:(St.fN ⟨st.sl,(κi,.it κ n (e.born :: s)) :: aP [κi] st.lb⟩)=st.fN.set κi (some (.it κ n (e.born :: s))):=by
       unfold St.fN M.set
       congr 1
       funext q
       rw [bH,lT]
       by_cases hq:κi=q
       ·subst hq; simp
       ·have:q ∉ [κi]:=by simp; exact fun e=>hq e.symm
        have OH:¬ q=κi:=fun e=>hq e.symm
        simp [hq,OH]
      exact ⟨S,μ,j0.ab8 (st:=⟨st.sl,(κi,.it κ n (e.born :: s)) :: aP [κi] st.lb⟩) (fun ν=>by rw [kj]; exact Pd ν) Vy X4 _ true [Vz,d2'] (by simp) (by simp)⟩
   ·cases pk
  ·cases pk
 ·cases pk
theorem Tw (hT:mX g.P g.T) (hm:g.P.follows .mixedOrders=true) {rm:Nat}:∀ (n:Nat) {todo k:List Item} {st st':St} {c:CT},WH g.P g.T g.nt rm g.md g.pr n todo st=some (k,st',c)→c.ok→G g k st'→G g todo st
 | 0,_,_,_,_,_,h,_,_=>by cases h
 | n+1,todo,k,st,st',c,h,hc,hg=>by
  unfold WH at h
  split at h
  ·simp only [Option.some.injEq,Prod.mk.injEq] at h
   obtain ⟨rfl,rfl,rfl⟩:=h
   exact hg
  ·split at h
   ·rename_i k1 st1 c1 hs
    split at h
    ·rename_i k2 st2 c2 hr
     simp only [Option.some.injEq,Prod.mk.injEq] at h
     obtain ⟨rfl,rfl,rfl⟩:=h
     exact fI hT hm hs hc.1 (Tw hT hm n hr hc.2 hg)
    ·cases h
   ·cases h
theorem z6:∀ (n:Nat) {g:Goal} (hT:mX g.P g.T) (hm:g.P.follows .mixedOrders=true) (hf:g.P.funcs[g.f]? = some g.fn) (hz:g.md=0→g.X3∧∀ {C C' b cs m},Reb C C'→g.Z C' b cs m→g.Z C b cs m) (rm:Nat) {α:Type} (todo:List Item) (st:St) (L:α→WG) (sk:Sk α) (lp:α→Prop),
  (o8 g.P g.T g.nt g.fn.results.toList rm g.md g.pr n todo st L sk).ok→sk.bz lp→(∀ a,a=sk.val→lp a→RT g (L a))→G g todo st
 | 0,_,_,_,_,_,_,_,todo,st,L,sk,lp,h,_,_=>h.elim
 | n+1,g,hT,hm,hf,hz,rm,α,todo,st,L,sk,lp,h,ho,hL=>by
  have ih:=fun {α:Type}=>z6 n hT hm hf hz rm (α:=α)
  unfold o8 at h
  split at h
  ·-- op
   rename_i κ k
   split at h
   ·rename_i hl
    exact G.op hl fun m _=>ih _ _ L (k m) lp (h m) (ho m).2 (fun a ha=>hL a (ha.trans (ho m).1))
   ·exact h.elim
  ·-- oq
   rename_i κ q k
   split at h
   ·rename_i q' hl
    obtain ⟨h0,h⟩:=h
    have h0:q'=q:=h0
    subst h0
    exact G.op hl fun m hm=>ih _ _ L (k m) lp (h m) (ho m hm).2 (fun a ha=>hL a (ha.trans (ho m hm).1))
   ·exact h.elim
  ·-- cq
   rename_i κ m q' k
   split at h
   ·rename_i q f hl
    obtain ⟨h1,h2,h3⟩:=h
    exact G.cl hl h1 h2 ho.1 (ih _ _ L k lp h3 ho.2 hL)
   ·exact h.elim
  ·-- cl
   rename_i κ m k
   split at h
   ·rename_i q f hl
    obtain ⟨h1,h2,h3⟩:=h
    exact G.cl hl h1 h2 (q:=mxT) trivial (ih _ _ L k lp h3 ho hL)
   ·exact h.elim
  ·-- Mn
   rename_i id x c k
   split at h
   ·rename_i i ops K
    rw [Bool.cond_eq_ite] at h
    split at h
    ·split at h
     ·rename_i ts ti ty d1 d2 d3 yx
      split at h
      ·rename_i κ m xx e' _ _ _ _ VT hti Mo
       split at h
       ·rename_i e q m2 f ii hl he
        obtain ⟨h0,h1,h2,h3,h4,h5⟩:=h
        have h0:(Nat.ble (d1+1) g.nt&&Nat.ble (d2+1) g.nt&&Nat.ble (d3+1) g.nt&&Fz g.md g.pr ops&&Nat.beq e e'&&Nat.beq q ii.size&&ii.zero.all yb&&!Nat.beq ts d1&&!Nat.beq ts d2&&!Nat.beq ts d3)=true:=h0
        simp only [Bool.and_eq_true,Bool.not_eq_true'] at h0
        obtain ⟨⟨⟨⟨⟨⟨⟨⟨⟨b1,b2⟩,b3⟩,b4⟩,b5⟩,b6⟩,b7⟩,b8⟩,b9⟩,b10⟩:=h0
        have h1:xx=x:=h1
        have h2:m=m2:=h2
        have h3:m=c.n:=h3
        have h4:wZ xx.toNat f ii.zero=c.f:=h4
        have b5:=Nat.eq_of_beq_eq_true b5
        have b6:=Nat.eq_of_beq_eq_true b6
        subst h1; subst h2; subst b5
        obtain ⟨⟨o1,o2⟩,o3⟩:=ho
        have ne:∀ d,Nat.beq ts d=false→¬ ts=d:=fun d hd e=>by rw [e,Nat.beq_refl] at hd; cases hd
        refine G.Mn hT hm b4 yx (Nat.le_of_ble_eq_true b1) (Nat.le_of_ble_eq_true b2) (Nat.le_of_ble_eq_true b3) VT hti hl Mo rfl he b6 b7 o1 (by rw [h3]; exact o2) (.le ?_ (.keep _ (ih _ _ L k lp h5 o3 hL)))
        have hcn:m=c.n':=h3.trans c.eq.1
        rintro C a w ⟨S,μ,da⟩
        refine ⟨S,μ,fun ν=>(da ν).weaken (fun t v hv=>?_) (fun κ' b' mV=>?_)⟩
        ·simp only [St.fN,St.get,bH,lT] at hv ⊢
         by_cases ht:ts=t
         ·subst ht
          simp only [if_true]
          rw [if_neg (by simp only [List.mem_cons,List.not_mem_nil,or_false,not_or]; exact ⟨ne _ b8,ne _ b9,ne _ b10⟩)] at hv
          simp only [St.get] at VT
          rw [VT,hcn] at hv
          exact hv
         ·have e1:(t∈[ts,d1,d2,d3])↔(t∈[d1,d2,d3]):=by
           rw [List.mem_cons]
           exact ⟨fun h=>h.elim (fun e=>absurd e.symm ht) (fun h=>h),.inr⟩
          simp only [ht,if_false,e1]
          exact hv
        ·simp only [St.fN,bH,lT] at mV ⊢
         by_cases hk:κ=κ'
         ·simp only [hk,if_true,Option.some.injEq] at mV ⊢
          subst mV
          refine ⟨_,rfl,fun y hy=>?_⟩
          rw [h4] at hy
          exact Wd hcn (fun i hi=>c.eq.2 i (by rw [← h3]; exact hi)) y hy
         ·simp only [hk,if_false] at mV ⊢
          exact ⟨b',mV,fun _ h=>h⟩
       ·exact h.elim
      ·exact h.elim
     ·exact h.elim
    ·split at h
     ·rename_i k0 st1 c0 hs
      exact fI hT hm hs h.1 (ih _ _ L (.Mn id x c k) lp h.2 ho hL)
     ·exact h.elim
   ·split at h
    ·rename_i k0 st1 c0 hs
     exact fI hT hm hs h.1 (ih _ _ L (.Mn id x c k) lp h.2 ho hL)
    ·exact h.elim
  ·-- wi
   rename_i t a b k
   obtain ⟨h1,h2⟩:=h
   obtain ⟨o1,o2⟩:=ho
   refine .le (JR.put t h1 (y:=.d (.v (.int .i64 b))) ?_) (ih _ _ L k lp h2 o2 hL)
   subst o1
   exact tG.rfl'
  ·-- Be
   rename_i t j m k
   split at h
   ·rename_i q hq
    obtain ⟨h1,h2⟩:=h
    have h1:q=m:=h1
    subst h1
    exact G.Pj hq fun hb=>ih _ _ L k lp h2 (ho hb) hL
   ·exact h.elim
  ·-- wn
   rename_i κ a b k
   obtain ⟨h1,h2,h3⟩:=h
   obtain ⟨o1,o2⟩:=ho
   subst o1
   rw [Tp h1,zZ h2] at h3
   exact ih _ _ L k lp h3 o2 hL
  ·exact (ho:False).elim
  ·-- Ra
   rename_i t m k1 k2
   split at h
   ·rename_i q f hq
    obtain ⟨h1,h2,h3⟩:=h
    have h1:q=m:=h1
    subst h1
    refine G.Ra hq (fun h0=>?_) (ih _ _ L k2 lp h3 ho.2 hL)
    exact ih _ _ L k1 lp h2 (ho.1 h0).1 (fun a ha=>hL a (by rw [ha,(ho.1 h0).2]; rfl))
   ·exact h.elim
  ·-- fz
   rename_i κ k
   split at h
   ·rename_i e0 k0 q f hq
    exact .le (JR.fz hq h.1 h.2.1) (ih _ _ L k lp h.2.2 ho hL)
   ·exact h.elim
  ·-- mr
   rename_i γ m V init u v b k
   split at h
   ·rename_i c K
    split at h
    ·rename_i ops l hh
     split at h
     ·rename_i it d1 d2 hn
      rw [Bool.cond_eq_ite] at h
      split at h
      ·rename_i hb
       simp only [Bool.and_eq_true] at hb
       have Vy:=Nat.le_of_ble_eq_true hb.1.1
       have X4:=Nat.le_of_ble_eq_true hb.1.2
       obtain ⟨h1,h2,h3⟩:=h
       obtain ⟨oi,ob,oc,o3⟩:=ho
       have hV:∀ g i,V g→i < m→V ((b g i).val):=fun g i hg hi=>(b g i).de (ob g i hg hi).1
       have o1:∀ s:List Nat,s.Perm (List.range m)→s.foldr (fun i g=>(b g i).val) init=(List.range m).foldr (fun i g=>(b g i).val) init:=fun s hs=>RO (f:=fun g i=>(b g i).val) hV oc oi hs (fun i hi=>List.mem_range.1 (hs.mem_iff.1 hi))
       have o2:∀ (s:List Nat) (i:Nat),(∀ j,j∈s→j < m)→i < m→(b (s.foldr (fun i g=>(b g i).val) init) i).bz fun _=>True:=fun s i hs hi=>(ob _ i (vS (f:=fun g i=>(b g i).val) hV oi s hs) hi).2
       have key:∀ (q:Nat) (s:List Nat),s.Nodup→(∀ j,j∈s→j < m)→m - s.length < q→G g (.code c :: .inLoop c :: K) (st.B4 (Nat.lor rm (kP (.inLoop c :: K))) (u (s.foldr (fun i g=>(b g i).val) init) s)):=by
        intro q
        induction q with
        | zero=>intro s _ _ eC; omega
        | succ q ihq =>
         intro s Zt eC hq
         have h2:=h2 (s.foldr (fun i g=>(b g i).val) init) s
         dsimp only at h2
         split at h2
         ·rename_i κi X1
          split at h2
          ·rename_i κ m1 s1 JQ
           split at h2
           ·rename_i m2 f hl
            obtain ⟨e1,e2,e3,e4,e5⟩:=h2
            have e1:m1=m:=e1
            have e2:m2=m:=e2
            have e3:s1=s:=e3
            subst e1; subst e2; subst e3
            refine G.oE hh (fun id=>G.next hm hb.2 hn Vy X4 X1 JQ hl (fun i hi hni=>?_) (fun pa=>?_))
            ·refine ih _ _ _ (b _ i) _ (e5 i) (o2 s1 i eC hi) (fun g' hg' _=>?_)
             subst hg'
             refine .inLoop (ihq (i :: s1) (List.nodup_cons.2 ⟨hni,Zt⟩) (fun j hj=>?_) ?_)
             ·rcases List.mem_cons.1 hj with rfl | hj
              ·exact hi
              ·exact eC j hj
             ·have hle:(i :: s1).length≤m2:=by
               have:=List.Nodup.length_le_of_subset (l₁:=i :: s1) (l₂:=List.range m2) (List.nodup_cons.2 ⟨hni,Zt⟩) (fun j hj=>by
                rcases List.mem_cons.1 hj with rfl | hj
                ·exact List.mem_range.2 hi
                ·exact List.mem_range.2 (eC j hj))
               simpa using this
              simp only [List.length_cons] at hle ⊢
              omega
            ·have hp:s1.Perm (List.range m2):=(List.perm_ext_iff_of_nodup Zt List.nodup_range).2 (fun j=>⟨fun hj=>List.mem_range.2 (eC j hj),fun hj=>pa j (List.mem_range.1 hj)⟩)
             refine .le (uI e4) ?_
             rw [o1 s1 hp]
             exact ih _ _ L (k _) lp (h3 _) (o3 _ rfl (vS (f:=fun g i=>(b g i).val) hV oi _ (fun i hi=>List.mem_range.1 hi))) hL
           ·exact h2.elim
          ·exact h2.elim
         ·exact h2.elim
       intro C c1 c2 a w Q8 hs
       exact (key (m+1) [] List.nodup_nil (fun j hj=>by cases hj) (by simp) C c1 c2 a w Q8 (uI h1 C a w hs)).step fun _ _=>.one stepR_loop
      ·exact h.elim
     ·exact h.elim
    ·exact h.elim
   ·split at h
    ·rename_i k0 st1 c hs
     exact fI hT hm hs h.1 (ih _ _ L (.mr m V init u v b k) lp h.2 ho hL)
    ·exact h.elim
  ·-- JU
   rename_i x
   split at h
   ·exact .cond h.1 (fun _=>ih _ _ L x lp h.2 ho hL) (fun he=>by cases he)
   ·split at h
    ·rename_i k st1 c hs
     exact fI hT hm hs h.1 (ih _ _ L (.JU x) lp h.2 ho hL)
    ·exact h.elim
  ·-- JV
   rename_i x
   split at h
   ·exact .cond h.1 (fun he=>by cases he) (fun _=>ih _ _ L x lp h.2 ho hL)
   ·split at h
    ·rename_i k st1 c hs
     exact fI hT hm hs h.1 (ih _ _ L (.JV x) lp h.2 ho hL)
    ·exact h.elim
  ·-- Tm
   rename_i t c x y k1 k2
   obtain ⟨h1,h2,h3⟩:=h
   have h1:St.get st.sl t=YO c x y:=h1
   rw [YP] at h1
   cases c with
   | true=>exact .le (JR.put t h1 tG.rfl') (ih _ _ L k1 lp h2 (ho.1 rfl) hL)
   | false=>exact .le (JR.put t h1 tG.rfl') (ih _ _ L k2 lp h3 (ho.2 rfl) hL)
  ·-- fin
   rename_i a
   have Ka:=hL a rfl ho
   split at h
   ·rename_i Hy st' hl
    rw [hl] at Ka
    rw [Bool.cond_eq_ite] at h
    split at h
    ·obtain ⟨h1,h2⟩:=h
     have h1:todo=Hy:=h1
     subst h1
     exact .le (uI h2) Ka
    ·split at h
     ·rename_i k st1 c hs
      exact fI hT hm hs h.1 (ih _ _ L (.fin a) lp h.2 ho hL)
     ·exact h.elim
   ·rename_i id st' hl
    rw [hl] at Ka
    split at h
    ·rename_i id' k
     rw [Bool.cond_eq_ite] at h
     split at h
     ·rename_i hb
      simp only [Bool.and_eq_true,Option.isNone_iff_eq_none] at hb
      obtain rfl:=Nat.eq_of_beq_eq_true hb.1
      exact .le (uI h) (Ka k hb.2)
     ·split at h
      ·rename_i k st1 c hs
       exact fI hT hm hs h.1 (ih _ _ L (.fin a) lp h.2 ho hL)
      ·exact h.elim
    ·split at h
     ·rename_i k st1 c hs
      exact fI hT hm hs h.1 (ih _ _ L (.fin a) lp h.2 ho hL)
     ·exact h.elim
   ·rename_i x cU hl
    rw [hl] at Ka
    split at h
    ·exact (Tv Ka.1 hT hf h Ka.2.1 Ka.2.2).1
    ·exact (Tv Ka.1 hT hf h Ka.2.1 Ka.2.2).2 _
    ·split at h
     ·rename_i k st1 c hs
      exact fI hT hm hs h.1 (ih _ _ L (.fin a) lp h.2 ho hL)
     ·exact h.elim
   ·rename_i x cU mj hl
    rw [hl] at Ka
    split at h
    ·exact (Pl Ka.1 hT hf h Ka.2.1 Ka.2.2).1
    ·exact (Pl Ka.1 hT hf h Ka.2.1 Ka.2.2).2 _
    ·split at h
     ·rename_i k st1 c hs
      exact fI hT hm hs h.1 (ih _ _ L (.fin a) lp h.2 ho hL)
     ·exact h.elim
  ·-- br
   rename_i e x y
   split at h
   ·rename_i c p q k
    obtain ⟨h1,h2,h3⟩:=h
    refine .cond h1 (fun he=>?_) (fun he=>?_)
    ·exact ih _ _ L x lp h2 (ho.1 he) (fun a ha=>hL a (by rw [ha]; simp [Sk.val,he]))
    ·exact ih _ _ L y lp h3 (ho.2 he) (fun a ha=>hL a (by rw [ha]; simp [Sk.val,he]))
   ·split at h
    ·rename_i k st1 c hs
     exact fI hT hm hs h.1 (ih _ _ L (.br e x y) lp h.2 ho hL)
    ·exact h.elim
  ·-- r
   rename_i β id cl kk
   split at h
   ·rename_i i ops draw k
    rw [Bool.cond_eq_ite] at h
    split at h
    ·have h:=h cl.v
     dsimp only at h
     split at h
     ·rename_i st' ob hr
      obtain ⟨h0,h1,h2,h3⟩:=h
      have h2:ob.prop=cl.lx cl.v:=h2
      exact .region hT hm h0 hr (Ob.DX h1 (fun p hp=>cl.pf ho.1 p (h2 ▸ hp))) (.keep _ (ih _ _ L (kk cl.v) lp h3 (ho.2 _ rfl cl.hp) hL))
     ·exact h.elim
    ·split at h
     ·rename_i k st1 c hs
      exact fI hT hm hs h.1 (ih _ _ L (.r id cl kk) lp h.2 ho hL)
     ·exact h.elim
   ·split at h
    ·rename_i k st1 c hs
     exact fI hT hm hs h.1 (ih _ _ L (.r id cl kk) lp h.2 ho hL)
    ·exact h.elim
  ·-- bind at a block
   rename_i β J s u kk
   split at h
   ·rename_i id c k
    obtain ⟨h1,h2⟩:=h
    refine .block (ih _ _ _ s _ h1 ho.1 (fun q hq hlq=>?_))
    cases q with
    | inl a=>exact hL a (by simp only [Sk.val,← hq,gI]) hlq
    | inr b=>exact ih _ _ L (kk b) lp (h2 b) (ho.2 b hq.symm hlq) (fun a ha=>hL a (by rw [ha]; simp only [Sk.val,← hq,gI]))
   ·split at h
    ·rename_i k st1 c hs
     exact fI hT hm hs h.1 (ih _ _ L (.bind true J s u kk) lp h.2 ho hL)
    ·exact h.elim
  ·-- bind at a choice
   rename_i β J s u kk
   split at h
   ·rename_i c p q k
    obtain ⟨h1,h2⟩:=h
    refine ih _ _ _ s _ h1 ho.1 (fun q hq hlq=>?_)
    cases q with
    | inl a=>exact hL a (by simp only [Sk.val,← hq,gI]) hlq
    | inr b=>exact ih _ _ L (kk b) lp (h2 b) (ho.2 b hq.symm hlq) (fun a ha=>hL a (by rw [ha]; simp only [Sk.val,← hq,gI]))
   ·split at h
    ·rename_i k st1 c hs
     exact fI hT hm hs h.1 (ih _ _ L (.bind false J s u kk) lp h.2 ho hL)
    ·exact h.elim
  ·-- loop
   rename_i ι d I m i0 u b
   split at h
   ·rename_i c k
    obtain ⟨h1,h2⟩:=h
    obtain ⟨o1,o2⟩:=ho
    have key:∀ (q:Nat) (i:ι),I i→m i < q→(∀ a,a=iter (fun i=>(b i).val) d q i→lp a→RT g (L a))→G g (.code c :: .inLoop c :: k) (st.B4 (Nat.lor rm (kP (.inLoop c :: k))) (u i)):=by
     intro q
     induction q with
     | zero=>intro i _ eC; omega
     | succ q ihq =>
      intro i hi eC Ka
      refine ih _ _ _ (b i) _ (h2 i) (o2 i hi) (fun r hr hlr=>?_)
      cases r with
      | inl a=>exact Ka a (by simp only [iter,← hr]) hlr
      | inr j=>exact .inLoop (ihq j hlr.1 (by have:=hlr.2; omega) (fun a ha=>Ka a (by rw [ha]; simp only [iter,← hr])))
    intro C c1 c2 a w Q8 hs
    exact (key (m i0+1) i0 o1 (Nat.lt_succ_self _) hL C c1 c2 a w Q8 (uI h1 C a w hs)).step fun _ _=>.one stepR_loop
   ·split at h
    ·rename_i k st1 c hs
     exact fI hT hm hs h.1 (ih _ _ L (.loop d I m i0 u b) lp h.2 ho hL)
    ·exact h.elim
  ·-- rf
   rename_i σ β Y it I B id s0 u v b kk
   split at h
   ·rename_i t ps Mk body k
    obtain ⟨h1,h2,h3,h4,h5,h6,h7,h8,h9,h10⟩:=h
    obtain ⟨o1,o2,o3,o4⟩:=ho
    have hpr:g.md=0:=Nat.eq_of_beq_eq_true h1
    obtain ⟨hn,adY⟩:=hz hpr
    have h4:some (UD g.P it.gf it.cE (it.ys.map it.enc))=some (UD it.P it.gf it.cE (it.ys.map it.enc)):=h4
    have X1:UD g.P it.gf it.cE (it.ys.map it.enc):=by rw [Option.some.inj h4]; exact it.pf o1
    have ZL:=fun i s y hs hy=>(b s y).de (o3 i s y hs hy).1
    generalize hmm:N9 rm (Item.code (.rangeFunc (.tmp t) ps Mk body) :: k)=mm at *
    refine G.rf hn adY it.ys it.enc (fun s y=>(b s y).val) s0 I (sy mm (aP [] st.sl)) (fun s=>st.B4 mm ⟨[],u s⟩) (fun a=>st.B4 mm ⟨[],v a⟩) id
     (fun s y=>WI g.P g.T g.nt mm 1 ((sy mm (aP [] st.sl)).map (·.1)) n [.code Mk,.beginRound,.code body] ⟨xQ ps.toList (it.enc y)++sy mm (aP [] st.sl),(st.B4 mm ⟨[],u s⟩).lb⟩)
     (fun _=>rfl) (fun _=>rfl) (uI h6) h2 h3 X1 h5 (fun y _=>h7 y) o2 (fun i s y hs hy=>?_) (fun s y tm Z zs hy hg=>?_) (fun i s y tm Z zs hs hy hg=>?_) ?_
    ·have:=ZL i s y hs hy
     show match (b s y).val with | .inl _=>True | .inr s'=>I (i+1) s'
     cases e:(b s y).val with
     | inl a=>trivial
     | inr s'=>rw [e] at this; exact this
    ·have h8:=(h8 s y).1
     unfold ab7 at h8
     unfold WI at hg
     split at h8
     ·rename_i k' st2 c ha
      rw [ha] at hg
      have hk:k'=[.beginRound,.code body]:=h8.2
      subst hk
      exact Tw (g:=g.round _ tm Z zs) hT hm n ha h8.1 hg
     ·exact h8.elim
    ·have h8:=(h8 s y).2
     refine z6 n (g:=g.round _ tm Z zs) hT hm hf (fun e=>by cases e) mm _ _ _ (b s y) (gJ B (I (i+1))) h8 (o3 i s y hs hy).2 (fun q hq hlq=>?_)
     have hg:(match (b s y).val with | .inr s'=>G (g.round _ tm Z zs) [] (st.B4 mm ⟨[],u s'⟩) | .inl b=>∀ k',exitTo id k'=none→G (g.round _ tm Z zs) (.code (.exit id) :: k') (st.B4 mm ⟨[],v b⟩)):=hg
     cases q with
     | inl a=>rw [← hq] at hg; exact hg
     | inr j=>rw [← hq] at hg; exact hg
    ·have hr:=o4 _ rfl (Ln it.ys ZL s0 o2)
     cases e:pj (fun s y=>(b s y).val) it.ys s0 with
     | inr s =>
      rw [e] at hr
      exact ih _ _ L (kk (.inr s)) lp (h9 s) hr (fun a ha=>hL a (by rw [ha]; simp only [Sk.val,e]))
     | inl a =>
      rw [e] at hr
      exact ih _ _ L (kk (.inl a)) lp (h10 a) hr (fun a' ha=>hL a' (by rw [ha]; simp only [Sk.val,e]))
   ·split at h
    ·rename_i k st1 c hs
     exact fI hT hm hs h.1 (ih _ _ L (.rf it I B id s0 u v b kk) lp h.2 ho hL)
    ·exact h.elim
end
theorem gu.sk {P:Program} {T:List (Nat × TI)} (hT:mX P T) (hm:P.follows .mixedOrders=true) {f:FuncId} {fn:Func} {body:Code} {args:List AV} {cU:List (Nat × bA)} {α:Type} (enc:α→AV) (Az:α→List (Nat × bA)) (hf:P.funcs[f]? = some fn) (hb:fn.body=some body)
  (hc:(gb P f&&Nat.ble args.length fn.ntmps)=true) (n:Nat) (sk:Sk α) (h:o8 P T fn.ntmps fn.results.toList (Cv fn.results.toList) 0 [] n [.code body] ⟨eD 0 args,cU⟩ (fun a=>.ret (enc a) (Az a)) sk=(o8 P T fn.ntmps fn.results.toList (Cv fn.results.toList) 0 [] n [.code body] ⟨eD 0 args,cU⟩ (fun a=>.ret (enc a) (Az a)) sk).diag)
  (ho:sk.bz fun _=>True):gu P f args cU (enc sk.val) (Az sk.val):=by
 simp only [Bool.and_eq_true] at hc
 refine gu.intro (T:=T) hf hb hc.1 (Nat.le_of_ble_eq_true hc.2) ?_
 exact z6 n (g:=.of P T fn.ntmps f fn (enc sk.val) (Az sk.val)) hT hm hf (fun _=>⟨Goal.Wm,fun {_ _ b _ _} hr hz=>ZN.reb (b:=b) hr hz⟩) _ _ _ _ sk _ (CT.Cr h) ho (fun a ha _=>by subst ha; exact ⟨Goal.Wm,rfl,rfl⟩)
instance {α β:Type} [Inhabited α]:Inhabited (Sum α β):=⟨.inl default⟩
abbrev iv (n:Int):AV:=.d (.v (.int .i64 n))
abbrev bv (b:Bool):AV:=.d (.v (.bool b))
abbrev sv (s:ByteArray):AV:=.d (.v (.string s))
abbrev av (cs:List D):AV:=.d (.agg cs)
abbrev lv {α:Type} [Inhabited α] (cells:α→List D) (l:List α):AV:=.d (mW cells l)
abbrev nv:AV:=.d (.v (.slice none 0 0))
abbrev ow {α:Type} (κ:Nat) (l:List α):AV:=.own κ l.length
abbrev bO {α:Type} [Inhabited α] (e k:Nat) (cells:α→List D) (l:List α):bA:=.row e k l.length fun i=>cells (l.getD i default)
abbrev dI (n:Int):D:=.v (.int .i64 n)
abbrev dB (b:Bool):D:=.v (.bool b)
def au (n:Int):Int:=IntKind.i64.wrap n
def dP (k:IntKind) (a b:Int):Int:=k.wrap (BitVec.ofInt k.bits a &&& BitVec.ofInt k.bits b).toNat
def RU (k:IntKind) (a b:Int):Int:=k.wrap (BitVec.ofInt k.bits a ||| BitVec.ofInt k.bits b).toNat
def eW (k:IntKind) (a b:Int):Int:=k.wrap (a * 2 ^ (min b.toNat k.bits))
def dz (k:IntKind) (a b:Int):Int:=a.fdiv (2 ^ (min b.toNat k.bits))
theorem aG {n:Int} (h1 : -9223372036854775808≤n) (h2:n≤9223372036854775807):au n=n:=UG h1 h2
structure Pn (α:Type) where
 cells:α→List D
 k:Nat
 len:∀ x,(cells x).length=k
 one:∀ x,(cells x).all yb=true
def slE {α:Type} [Inhabited α] (E:Pn α):Pn (List α):=⟨fun l=>[mW E.cells l],1,fun _=>rfl,fun _=>rfl⟩
def eA:Pn Int:=⟨bU,1,fun _=>rfl,fun _=>rfl⟩
def vT:Pn ByteArray:=⟨jA,1,fun _=>rfl,fun _=>rfl⟩
def u8C (n:Int):List D:=[.v (.int .u8 n)]
def mY (s:ByteArray):List Int:=s.data.toList.map fun b=>(b.toNat:Int)
def aaI (s:ByteArray):sw:=⟨s.size,(mY s).length,fun i=>[.v (.int .u8 (s.data.toList.getD i 0).toNat)],fun i=>u8C ((mY s).getD i default),by
 refine ⟨by simp [mY],fun i hi=>?_⟩
 have fM:i < s.data.size:=hi
 have e:(mY s).getD i default=((s.data.toList.getD i 0).toNat:Int):=by
  simp only [mY,List.getD,List.getElem?_map,Array.getElem?_toList,Array.getElem?_eq_getElem fM,Option.map_some,Option.getD_some]
 rw [e]
 exact wO.rfl'⟩
abbrev mpB {α:Type} [Inhabited α] (enc:α→D) (ks:List Int) (vs:List α):bA:=.mp ks.length fun i=>(.int .i64 (ks.getD i 0),enc (vs.getD i default))
def DZ {α:Type} [Inhabited α] (enc:α→D) (ks:List Int) (vs:List α) (h:ks.length=vs.length) (k:Int) (v:α):Cj:=⟨ks.length+1,(ks++[k]).length,fun q=>if q < ks.length then (.int .i64 (ks.getD q 0),enc (vs.getD q default)) else (.int .i64 k,enc v),fun i=>(.int .i64 ((ks++[k]).getD i 0),enc ((vs++[v]).getD i default)),by
 refine ⟨by simp,fun i hi=>?_⟩
 by_cases c:i < ks.length
 ·simp only [c,if_true,List.getD,List.getElem?_append_left c,List.getElem?_append_left (h ▸ c:i < vs.length)]
 ·obtain rfl:i=ks.length:=by omega
  simp only [Nat.lt_irrefl,if_false]
  simp [List.getD,h]⟩
def ab9 {α:Type} [Inhabited α] (enc:α→D) (k:Int) (v:α):Cj:=⟨0+1,1,fun q=>if q < 0 then (.bool false,default) else (.int .i64 k,enc v),fun i=>(.int .i64 ([k].getD i 0),enc ([v].getD i default)),by
 refine ⟨rfl,fun i hi=>?_⟩
 obtain rfl:i=0:=by omega
 rfl⟩
abbrev JW {α:Type} [Inhabited α] (enc:α→D) (m:List (Int × α)):Nat→Value × D:=fun i=>(.int .i64 (m.getD i default).1,enc (m.getD i default).2)
abbrev mpM {α:Type} [Inhabited α] (enc:α→D) (m:List (Int × α)):bA:=.mp m.length (JW enc m)
abbrev pmM {α:Type} [Inhabited α] (enc:α→D) (m:List (Int × α)):AV:=.zN m.length (JW enc m)
def sJ {α:Type}:List (Int × α)→Int→α→List (Int × α)
 | [],k,v=>[(k,v)]
 | p :: r,k,v=>bif k == p.1 then (p.1,v) :: r else p :: sJ r k v
def pn {α:Type}:List (Int × α)→Int→Option α
 | [],_=>none
 | p :: r,k=>bif k == p.1 then some p.2 else pn r k
def Cy {α:Type} (m:List (Int × α)) (k:Int) (z:α):α:=(pn m k).getD z
theorem E7 {α:Type} [Inhabited α] (enc:α→D) (m:List (Int × α)):∀ i,i < m.length→∃ b,(JW enc m i).1=.int .i64 b:=fun i _=>⟨_,rfl⟩
theorem D0 {α:Type} [Inhabited α] (enc:α→D) (k:Int):∀ (m:List (Int × α)),match nj (.int .i64 k) m.length (JW enc m) with
  | some p=>p < m.length∧(JW enc m p).1=.int .i64 k∧pn m k=some (m.getD p default).2∧∀ v,sJ m k v=m.set p ((m.getD p default).1,v)
  | none=>pn m k=none∧∀ v,sJ m k v=m++[(k,v)]
 | []=>⟨rfl,fun _=>rfl⟩
 | p :: r=>by
  have ih:=D0 enc k r
  have e:(fun i=>JW enc (p :: r) (i+1))=JW enc r:=by funext i; simp [JW]
  have e0:(JW enc (p :: r) 0).1=.int .i64 p.1:=rfl
  simp only [List.length_cons,nj,e,e0,Bj,decide_true,Bool.true_and,List.getD_cons_zero]
  cases hk:(k == p.1) with
  | true =>
   have fW:k=p.1:=by simpa using hk
   simp only [cond_true]
   refine ⟨by omega,by rw [fW]; rfl,by simp [pn,hk],fun v=>by simp [sJ,hk]⟩
  | false =>
   simp only [cond_false]
   cases hq:nj (.int .i64 k) r.length (JW enc r) with
   | none =>
    rw [hq] at ih
    simp only [Option.map_none]
    exact ⟨by simp only [pn,hk,cond_false]; exact ih.1,fun v=>by simp only [sJ,hk,cond_false,ih.2 v,List.cons_append]⟩
   | some q =>
    rw [hq] at ih
    obtain ⟨i1,i2,i3,i4⟩:=ih
    simp only [Option.map_some]
    refine ⟨by simpa using i1,?_,?_,fun v=>?_⟩
    ·rw [← i2]; rfl
    ·simp only [pn,hk,cond_false]; rw [i3]; simp
    ·simp only [sJ,hk,cond_false,i4 v]; simp
def aca:Cj:=⟨0,0,fun _=>(.bool false,default),fun _=>(.bool false,default),rfl,fun _ _=>rfl⟩
def mkM {α:Type} [Inhabited α] (enc:α→D):Cj:=⟨0,([]:List (Int × α)).length,fun _=>(.bool false,default),JW enc ([]:List (Int × α)),rfl,fun i hi=>absurd hi (by omega)⟩
def YQ {α:Type} [Inhabited α] (enc:α→D) (m:List (Int × α)) (k:Int) (v:α):Cj:=⟨mpN (.int .i64 k) m.length (JW enc m),(sJ m k v).length,V5 (.int .i64 k) (enc v) m.length (JW enc m),JW enc (sJ m k v),by
 have h:=D0 enc k m
 unfold mpN V5
 cases hq:nj (.int .i64 k) m.length (JW enc m) with
 | none =>
  rw [hq] at h
  simp only
  rw [h.2 v]
  refine ⟨by simp,fun i hi=>?_⟩
  by_cases c:i < m.length
  ·simp [JW,c,List.getD,List.getElem?_append_left c]
  ·obtain rfl:i=m.length:=by omega
   simp [JW,List.getD]
 | some p =>
  rw [hq] at h
  obtain ⟨h1,h2,h3,h4⟩:=h
  simp only
  rw [h4 v]
  refine ⟨by simp,fun i hi=>?_⟩
  by_cases c:i=p
  ·subst c
   simp [JW,List.getD,h1]
  ·simp [JW,c,List.getD,List.getElem?_set_ne (fun e=>c e.symm)]⟩
theorem UI {α:Type} [Inhabited α] (enc:α→D) (m:List (Int × α)) (k:Int) (z:α):uC (.int .i64 k) m.length (JW enc m) (enc z)=enc (Cy m k z):=by
 have h:=D0 enc k m
 unfold uC Cy
 cases hq:nj (.int .i64 k) m.length (JW enc m) with
 | none=>rw [hq] at h; simp only [h.1]; rfl
 | some p=>rw [hq] at h; simp only [h.2.2.1]; rfl
def getM {α:Type} [Inhabited α] (enc:α→D) (m:List (Int × α)) (k:Int) (z:α):OQ:=⟨.d (uC (.int .i64 k) m.length (JW enc m) (enc z)),.d (enc (Cy m k z)),fun _ _ _ _ _ h=>by rw [← UI enc m k z]; exact h⟩
theorem D1 {n n':Nat} {f f':Nat→List D} (h:n=n'∧∀ i,i < n→f i=f' i):n=n'∧∀ i,i < n→wO (f i) (f' i):=⟨h.1,fun i hi=>wO.of_eq (h.2 i hi)⟩
section
variable {α : Type} [Inhabited α] (E : Pn α)
theorem Pn.src (M:List α):(∀ i,i < M.length→(E.cells (M.getD i default)).length=E.k)∧∀ i,i < M.length→(E.cells (M.getD i default)).all yb=true:=⟨fun _ _=>E.len _,fun _ _=>E.one _⟩
theorem Pn.qc (M:List α):∀ i,i < M.length→(E.cells (M.getD i default)).all yb=true:=fun _ _=>E.one _
theorem Pn.lens (M:List α):∀ i,i < M.length→(E.cells (M.getD i default)).length=E.k:=fun _ _=>E.len _
def og (L M:List α):sw:=⟨L.length+M.length,(L++M).length,fun q=>if q < L.length then E.cells (L.getD q default) else E.cells (M.getD (q - L.length) default),fun i=>E.cells ((L++M).getD i default),D1 (YD E.cells L M)⟩
def vU (L:List α) (p:Nat) (y:α):sw:=⟨L.length,(L.set p y).length,fun q=>if q=p then E.cells y else E.cells (L.getD q default),fun i=>E.cells ((L.set p y).getD i default),D1 <| by
 refine ⟨by simp,fun i hi=>?_⟩
 split
 ·rename_i h
  subst h
  simp [List.getD,hi]
 ·rename_i h
  simp [List.getD,List.getElem?_set_ne (fun e=>h e.symm)]⟩
def mkC (n:Nat) (z:α):sw:=⟨n,(List.replicate n z).length,fun _=>E.cells z,fun i=>E.cells ((List.replicate n z).getD i default),D1 <| by
 refine ⟨by simp,fun i hi=>?_⟩
 simp [List.getD,hi]⟩
def sK (L:List α) (lo n:Nat):List α:=(List.range n).map fun i=>L.getD (lo+i) default
def acb (L:List α) (lo n:Nat):sw:=⟨n,(sK L lo n).length,fun i=>E.cells (L.getD (lo+i) default),fun i=>E.cells ((sK L lo n).getD i default),D1 <| by
 refine ⟨by simp [sK],fun i hi=>?_⟩
 have:(sK L lo n).getD i default=L.getD (lo+i) default:=by simp [sK,List.getD,hi]
 rw [this]⟩
def adZ (L:List α) (h:Nat):sw:=⟨h,(sK L 0 h).length,fun i=>E.cells (L.getD i default),fun i=>E.cells ((sK L 0 h).getD i default),D1 <| by
 refine ⟨by simp [sK],fun i hi=>?_⟩
 have:(sK L 0 h).getD i default=L.getD i default:=by simp [sK,List.getD,hi]
 rw [this]⟩
theorem Po (k:Nat) (hk:∀ x,(E.cells x).length=k):∀ (xs:List α) (i j:Nat),i < xs.length→j < k→(xs.flatMap E.cells).getD (i * k+j) default=(E.cells (xs.getD i default)).getD j default
 | [],i,j,hi,_=>absurd hi (by simp)
 | x :: r,0,j,_,hj=>by
  simp only [List.flatMap_cons,Nat.zero_mul,Nat.zero_add,List.getD_cons_zero]
  rw [List.getD,List.getElem?_append_left (by rw [hk]; exact hj)]
  rfl
 | x :: r,i+1,j,hi,hj=>by
  have ih:=Po k hk r i j (by simpa using hi) hj
  simp only [List.flatMap_cons,List.getD_cons_succ]
  rw [List.getD,List.getElem?_append_right (by rw [hk,Nat.add_mul,Nat.one_mul]; omega),hk,show (i+1) * k+j - k=i * k+j by rw [Nat.add_mul,Nat.one_mul]; omega]
  exact ih
theorem Pp (k:Nat) (hk:∀ x,(E.cells x).length=k):∀ (xs:List α),(xs.flatMap E.cells).length=xs.length * k
 | []=>by simp
 | x :: r=>by simp [List.flatMap_cons,hk,Pp k hk r,Nat.add_mul,Nat.add_comm]
def gB (xs:List α):sw:=⟨xs.length,xs.length,Bh E.k xs.length (xs.flatMap E.cells),fun i=>E.cells (xs.getD i default),D1 <| by
 refine ⟨rfl,fun i hi=>?_⟩
 obtain ⟨h1,h2⟩:=yD (k:=E.k) (len:=xs.length) (ds:=xs.flatMap E.cells) (Pp E E.k E.len xs) hi
 apply List.ext_getElem?
 intro j
 by_cases hj:j < E.k
 ·have h3:=h2 j hj
  rw [Po E E.k E.len xs i j hi hj] at h3
  have l1:j < (Bh E.k xs.length (xs.flatMap E.cells) i).length:=by omega
  have l2:j < (E.cells (xs.getD i default)).length:=by rw [E.len]; exact hj
  rw [List.getD,List.getD,List.getElem?_eq_getElem l1,List.getElem?_eq_getElem l2] at h3
  rw [List.getElem?_eq_getElem l1,List.getElem?_eq_getElem l2]
  simpa using h3
 ·rw [List.getElem?_eq_none (by omega),List.getElem?_eq_none (by rw [E.len]; omega)]⟩
def mkN (n:Nat) (z:α) (ds:List D) (h:Ww ds (E.cells z)=(Ww ds (E.cells z)).diag):sw:=⟨n,(List.replicate n z).length,fun _=>ds,fun i=>E.cells ((List.replicate n z).getD i default),by
 refine ⟨by simp,fun i hi=>?_⟩
 have e:(List.replicate n z).getD i default=z:=by simp [List.getD,hi]
 rw [e]
 exact GJ (CT.Cr h)⟩
end
def YR {cs ds:List D} (h:wO cs ds):OQ:=⟨.ref cs,.ref ds,fun w S μ ν v hr=>by
 cases hr with
 | ref fV bW hh=>exact .ref fV (fun j hj=>bW j (by rw [h.1]; exact hj)) (fun j hj=>h.2 j (by rw [h.1]; exact hj) _ _ _ (hh j (by rw [h.1]; exact hj)))⟩
abbrev bG (i:Int) (n:Nat):Prop:=0≤i∧i < (n:Int)
abbrev ym (n m bytes:Nat):Prop:=n+m≤maxLen∧(n+m) * bytes≤140737488355328
abbrev VC (n:Int) (bytes:Nat):Prop:=0≤n∧n.toNat≤maxLen∧n.toNat * bytes≤140737488355328
def bg.z:bg Unit:=⟨(),fun _=>[],fun _=>none,True,fun _ _ h=>(by cases h),fun _=>True,trivial⟩
abbrev Sk.nx {α ι:Type} (id t n:Nat) (a:ι):Sk (α ⊕ ι):=.r id .z fun _=>.wi t (au ((n:Int)+1)) ((n+1:Nat):Int) (.fin (.inr a))
def bg.p (p:Prop):bg Unit:=⟨(),fun _=>[],fun _=>some p,p,fun h _ e=>by cases e; exact h,fun _=>True,trivial⟩
def bg.t {p:Prop} (h:p):bg Unit:=⟨(),fun _=>[],fun _=>some p,True,fun _ _ e=>by cases e; exact h,fun _=>True,trivial⟩
def bg.pt (p:Prop) {q:Prop} (h:q):bg Unit:=⟨(),fun _=>[],fun _=>some (p∧q),p,fun hp _ e=>by cases e; exact ⟨hp,h⟩,fun _=>True,trivial⟩
def bg.o (l:List zU):bg Unit:=⟨(),fun _=>l,fun _=>none,True,fun _ _ h=>(by cases h),fun _=>True,trivial⟩
theorem Cz {x y:Option Prop} (h1:∀ p,x=some p→p) (h2:∀ p,y=some p→p) (p:Prop) (e:DW x y=some p):p:=by
 cases x with
 | none=>exact h2 p (by simpa [DW] using e)
 | some a =>
  cases y with
  | none=>exact h1 p (by simpa [DW] using e)
  | some b =>
   simp only [DW,Option.some.injEq] at e
   subst e
   exact ⟨h1 a rfl,h2 b rfl⟩
def aaJ (e w:Bool):Option Prop→Option Prop
 | none=>none
 | some p=>some (e=w→p)
theorem YS {x:Option Prop} {e w:Bool} (h:e=w→∀ p,x=some p→p) (p:Prop) (hp:aaJ e w x=some p):p:=by
 cases x with
 | none=>cases hp
 | some a =>
  simp only [aaJ,Option.some.injEq] at hp
  subst hp
  exact fun he=>h he a rfl
def bg.and {α β:Type} (a:bg α) (b:bg β):bg (α × β):=⟨(a.v,b.v),fun x=>a.jL x.1++b.jL x.2,fun x=>DW (a.lx x.1) (b.lx x.2),a.pre∧b.pre,fun h=>Cz (a.pf h.1) (b.pf h.2),fun x=>a.post x.1∧b.post x.2,⟨a.hp,b.hp⟩⟩
def bg.aq {β:Type} (a:bg Unit) (b:bg β):bg β:=⟨b.v,fun x=>a.jL ()++b.jL x,fun x=>DW (a.lx ()) (b.lx x),a.pre∧b.pre,fun h=>Cz (a.pf h.1) (b.pf h.2),b.post,b.hp⟩
def bg.CA {α:Type} (a:bg α) (b:bg Unit):bg α:=⟨a.v,fun x=>a.jL x++b.jL (),fun x=>DW (a.lx x) (b.lx ()),a.pre∧b.pre,fun h=>Cz (a.pf h.1) (b.pf h.2),a.post,a.hp⟩
def bg.wh {β:Type} (e w:Bool) (a:bg β):bg β:=⟨a.v,a.jL,fun x=>aaJ e w (a.lx x),e=w→a.pre,fun h=>YS fun he=>a.pf (h he),a.post,a.hp⟩
def bg.dep {α β:Type} (a:bg α) (b:α→bg β):bg (α × β):=⟨(a.v,(b a.v).v),fun x=>a.jL x.1++(b x.1).jL x.2,fun x=>DW (a.lx x.1) ((b x.1).lx x.2),a.pre∧∀ x,x=a.v→a.post x→(b x).pre,fun h=>Cz (a.pf h.1) ((b a.v).pf (h.2 _ rfl a.hp)),fun x=>a.post x.1∧(b x.1).post x.2,⟨a.hp,(b a.v).hp⟩⟩
def bg.o9 {α:Type} (a:bg α) (b:α→bg Unit):bg α:=⟨a.v,fun x=>a.jL x++(b x).jL (),fun x=>DW (a.lx x) ((b x).lx ()),a.pre∧∀ x,x=a.v→a.post x→(b x).pre,fun h=>Cz (a.pf h.1) ((b a.v).pf (h.2 _ rfl a.hp)),a.post,a.hp⟩
structure gn (β:Type) where
 P:Program
 f:FuncId
 args:List AV
 enc:β→AV
 fl:Bool
 v:β
 pre:Prop
 pf:pre→gu P f args [] (enc v) []
 post:β→Prop:=fun _=>True
 hp:post v:=by trivial
def gn.c {β:Type} (c:gn β):bg β:=⟨c.v,fun x=>[bif c.fl then .flat (c.enc x) else .gen [] (c.enc x) []],fun x=>some (gu c.P c.f c.args [] (c.enc x) []),c.pre,fun hp _ e=>by cases e; exact c.pf hp,c.post,c.hp⟩
theorem tI.refl:∀ (l:List AV),tI l l
 | []=>trivial
 | _ :: r=>⟨tG.rfl',tI.refl r⟩
theorem tI.set:∀ (l:List AV) (i:Nat) (x y:AV),l[i]? = some y→tG x y→tI (l.set i x) l
 | [],i,_,_,h,_=>by simp at h
 | z :: r,0,x,y,h,hle=>by
  simp only [List.getElem?_cons_zero,Option.some.injEq] at h
  subst h
  exact ⟨hle,tI.refl r⟩
 | z :: r,i+1,x,y,h,hle=>⟨tG.rfl',tI.set r i x y (by simpa using h) hle⟩
def gn.nil {β:Type} (c:gn β) (i:Nat) (h:∃ g,c.args[i]? = some (.d (.sl 0 g))):gn β :=
 { c with args:=c.args.set i nv,pf:=fun hp=>(c.pf hp).Tk (let ⟨g,hg⟩:=h; tI.set c.args i _ _ hg (tG.d (rV.nil g))) }
def gn.CB {β:Type} (c:gn β) (i j:Nat) (cs:List D) (h:c.args[i]? = some (.d (.agg cs))) (h2:∃ g,cs[j]? = some (.sl 0 g)):gn β :=
 {c with args:=c.args.set i (.d (.agg (cs.set j (.v (.slice none 0 0))))),pf:=fun hp=>(c.pf hp).Tk (tI.set c.args i _ _ h (tG.d (rV.agg (by simp) (fun q hq=>by
   obtain ⟨g,hg⟩:=h2
   by_cases e:j=q
   ·subst e
    have hj:j < cs.length:=by simpa using hq
    have e1:(cs.set j (.v (.slice none 0 0))).getD j default=.v (.slice none 0 0):=by simp [List.getD,hj]
    have e2:cs.getD j default=.sl 0 g:=by simp [List.getD,hg]
    rw [e1,e2]
    exact rV.nil g
   ·have e1:(cs.set j (.v (.slice none 0 0))).getD q default=cs.getD q default:=by simp [List.getD,List.getElem?_set_ne e]
    rw [e1]
    exact rV.rfl')))) }
@[simp] theorem bg.ad1 (x:Unit):bg.z.post x=True:=rfl
@[simp] theorem bg.ad2 (p:Prop) (x:Unit):(bg.p p).post x=True:=rfl
@[simp] theorem bg.ad3 {p:Prop} (h:p) (x:Unit):(bg.t h).post x=True:=rfl
@[simp] theorem bg.acQ (p:Prop) {q:Prop} (h:q) (x:Unit):(bg.pt p h).post x=True:=rfl
@[simp] theorem bg.ad4 (l:List zU) (x:Unit):(bg.o l).post x=True:=rfl
@[simp] theorem bg.acd {α β:Type} (a:bg α) (b:bg β) (x:α × β):(a.and b).post x=(a.post x.1∧b.post x.2):=rfl
@[simp] theorem bg.abm {β:Type} (a:bg Unit) (b:bg β) (x:β):(a.aq b).post x=b.post x:=rfl
@[simp] theorem bg.abn {β:Type} (a:bg β) (b:bg Unit) (x:β):(a.CA b).post x=a.post x:=rfl
@[simp] theorem bg.acR {β:Type} (e w:Bool) (a:bg β) (x:β):(a.wh e w).post x=a.post x:=rfl
@[simp] theorem bg.ace {α β:Type} (a:bg α) (b:α→bg β) (x:α × β):(a.dep b).post x=(a.post x.1∧(b x.1).post x.2):=rfl
@[simp] theorem bg.abo {α:Type} (a:bg α) (b:α→bg Unit) (x:α):(a.o9 b).post x=a.post x:=rfl
@[simp] theorem gn.Mt {β:Type} (c:gn β) (x:β):c.c.post x=c.post x:=rfl
@[simp] theorem gn.WJ {β:Type} (c:gn β) (i:Nat) (h:∃ g,c.args[i]? = some (.d (.sl 0 g))) (x:β):(c.nil i h).post x=c.post x:=rfl
@[simp] theorem gn.abp {β:Type} (c:gn β) (i j:Nat) (cs:List D) (h:c.args[i]? = some (.d (.agg cs))) (h2:∃ g,cs[j]? = some (.sl 0 g)) (x:β):(c.CB i j cs h h2).post x=c.post x:=rfl
@[simp] theorem bg.aeK:bg.z.pre=True:=rfl
@[simp] theorem bg.aeL (p:Prop):(bg.p p).pre=p:=rfl
@[simp] theorem bg.aeM {p:Prop} (h:p):(bg.t h).pre=True:=rfl
@[simp] theorem bg.ad5 (p:Prop) {q:Prop} (h:q):(bg.pt p h).pre=p:=rfl
@[simp] theorem bg.aeN (l:List zU):(bg.o l).pre=True:=rfl
@[simp] theorem bg.acS {α β:Type} (a:bg α) (b:bg β):(a.and b).pre=(a.pre∧b.pre):=rfl
@[simp] theorem bg.acf {β:Type} (a:bg Unit) (b:bg β):(a.aq b).pre=(a.pre∧b.pre):=rfl
@[simp] theorem bg.acg {β:Type} (a:bg β) (b:bg Unit):(a.CA b).pre=(a.pre∧b.pre):=rfl
@[simp] theorem bg.ad6 {β:Type} (e w:Bool) (a:bg β):(a.wh e w).pre=(e=w→a.pre):=rfl
@[simp] theorem bg.acT {α β:Type} (a:bg α) (b:α→bg β):(a.dep b).pre=(a.pre∧∀ x,x=a.v→a.post x→(b x).pre):=rfl
@[simp] theorem bg.ach {α:Type} (a:bg α) (b:α→bg Unit):(a.o9 b).pre=(a.pre∧∀ x,x=a.v→a.post x→(b x).pre):=rfl
@[simp] theorem bg.A2 {α β:Type} (a:bg α) (b:α→bg β):(a.dep b).v=(a.v,(b a.v).v):=rfl
@[simp] theorem bg.WK {α:Type} (a:bg α) (b:α→bg Unit):(a.o9 b).v=a.v:=rfl
@[simp] theorem gn.Tx {β:Type} (c:gn β):c.c.pre=c.pre:=rfl
@[simp] theorem gn.xS {β:Type} (c:gn β):c.c.v=c.v:=rfl
@[simp] theorem gn.YT {β:Type} (c:gn β) (i:Nat) (h:∃ g,c.args[i]? = some (.d (.sl 0 g))):(c.nil i h).pre=c.pre:=rfl
@[simp] theorem gn.aci {β:Type} (c:gn β) (i:Nat) (h:∃ g,c.args[i]? = some (.d (.sl 0 g))):(c.nil i h).v=c.v:=rfl
@[simp] theorem gn.acj {β:Type} (c:gn β) (i j:Nat) (cs:List D) (h:c.args[i]? = some (.d (.agg cs))) (h2:∃ g,cs[j]? = some (.sl 0 g)):(c.CB i j cs h h2).pre=c.pre:=rfl
@[simp] theorem gn.ad7 {β:Type} (c:gn β) (i j:Nat) (cs:List D) (h:c.args[i]? = some (.d (.agg cs))) (h2:∃ g,cs[j]? = some (.sl 0 g)):(c.CB i j cs h h2).v=c.v:=rfl
@[simp] theorem bg.aeO {α β:Type} (a:bg α) (b:bg β):(a.and b).v=(a.v,b.v):=rfl
@[simp] theorem bg.pq {β:Type} (a:bg Unit) (b:bg β):(a.aq b).v=b.v:=rfl
@[simp] theorem bg.ad8 {β:Type} (a:bg β) (b:bg Unit):(a.CA b).v=a.v:=rfl
@[simp] theorem bg.Pq {β:Type} (e w:Bool) (a:bg β):(a.wh e w).v=a.v:=rfl
structure iY (β:Type) where
 P:Program
 f:FuncId
 args:List AV
 enc:β→AV
 Az:β→List (Nat × bA)
 v:β
 pre:Prop
 pf:pre→gu P f args [] (enc v) (Az v)
 post:β→Prop:=fun _=>True
 hp:post v:=by trivial
def iY.c {β:Type} (c:iY β):bg β:=⟨c.v,fun x=>[.gen [] (c.enc x) (c.Az x)],fun x=>some (gu c.P c.f c.args [] (c.enc x) (c.Az x)),c.pre,fun hp _ e=>by cases e; exact c.pf hp,c.post,c.hp⟩
@[simp] theorem iY.Tx {β:Type} (c:iY β):c.c.pre=c.pre:=rfl
@[simp] theorem iY.xS {β:Type} (c:iY β):c.c.v=c.v:=rfl
def iY.nil {β:Type} (c:iY β) (i:Nat) (h:∃ g,c.args[i]? = some (.d (.sl 0 g))):iY β :=
 { c with args:=c.args.set i nv,pf:=fun hp=>(c.pf hp).Tk (let ⟨g,hg⟩:=h; tI.set c.args i _ _ hg (tG.d (rV.nil g))) }
@[simp] theorem iY.YT {β:Type} (c:iY β) (i:Nat) (h:∃ g,c.args[i]? = some (.d (.sl 0 g))):(c.nil i h).pre=c.pre:=rfl
@[simp] theorem iY.aci {β:Type} (c:iY β) (i:Nat) (h:∃ g,c.args[i]? = some (.d (.sl 0 g))):(c.nil i h).v=c.v:=rfl
@[simp] theorem iY.Mt {β:Type} (c:iY β) (x:β):c.c.post x=c.post x:=rfl
@[simp] theorem iY.WJ {β:Type} (c:iY β) (i:Nat) (h:∃ g,c.args[i]? = some (.d (.sl 0 g))) (x:β):(c.nil i h).post x=c.post x:=rfl
structure Pr (β:Type) where
 P:Program
 f:FuncId
 args:List AV
 cU:List (Nat × bA)
 mj:List (Nat × Nat)
 enc:β→AV
 Az:β→List (Nat × bA)
 v:β
 pre:Prop
 pf:pre→FnB P f args cU (enc v) (Az v) mj
 post:β→Prop:=fun _=>True
 hp:post v:=by trivial
def Pr.c {β:Type} (c:Pr β):bg β:=⟨c.v,fun x=>[.bx (c.cU.map (·.1)) c.mj (c.enc x) (c.Az x)],fun x=>some (FnB c.P c.f c.args c.cU (c.enc x) (c.Az x) c.mj),c.pre,fun hp _ e=>by cases e; exact c.pf hp,c.post,c.hp⟩
@[simp] theorem Pr.Tx {β:Type} (c:Pr β):c.c.pre=c.pre:=rfl
@[simp] theorem Pr.xS {β:Type} (c:Pr β):c.c.v=c.v:=rfl
@[simp] theorem Pr.Mt {β:Type} (c:Pr β) (x:β):c.c.post x=c.post x:=rfl
theorem gu.WL {P:Program} {f:FuncId} {args:List AV} {K n e k m:Nat} {r:Nat→List D} (κ:Nat) (h:gu P f args [] (.own K n) [(K,.row e k m r)]):gu P f args [] (.own κ n) [(κ,.row e k m r)]:=by
 refine ⟨h.1,fun w S μ vs h1 h2 h3 h4 h5=>(h.2 w S μ vs h1 h2 h3 h4 h5).mono ?_⟩
 rintro e0 w' ⟨v,S',μ',rfl,B⟩
 have lk:∀ q b,look [(κ,bA.row e k m r)] q=some b→q=κ∧b=.row e k m r:=fun q b hq=>by
  rw [bH] at hq
  split at hq
  ·rename_i e; simp only [Option.some.injEq] at hq; exact ⟨e.symm,hq.symm⟩
  ·simp [look] at hq
 have lK:look [(K,bA.row e k m r)] K=some (.row e k m r):=by rw [bH,if_pos rfl]
 refine ⟨v,S',fun _=>μ' K,rfl,⟨fun ν=>?_,fun q b hq=>?_,fun q1 q2 b1 b2 g c c' x1 x2 _ _=>by rw [(lk q1 b1 x1).1,(lk q2 b2 x2).1],fun q b g c x1 x2=>B.own K _ g c lK x2,B.sub,B.new,B.bound,B.kept⟩⟩
 ·cases B.res ν with
  | cS hμ=>exact .cS hμ
  | own hμ=>exact .own hμ
 ·obtain ⟨rfl,rfl⟩:=lk q b hq
  exact (B.mem K _ lK).agree (fun k hk=>by simp [bA.keys] at hk)
theorem gu.WM {P:Program} {f:FuncId} {args rs:List AV} {K n e k m:Nat} {r:Nat→List D} (κ:Nat) (hk:AV.qe rs=[]) (h:gu P f args [] (.fL (.own K n :: rs)) [(K,.row e k m r)]):gu P f args [] (.fL (.own κ n :: rs)) [(κ,.row e k m r)]:=by
 refine ⟨h.1,fun w S μ vs h1 h2 h3 h4 h5=>(h.2 w S μ vs h1 h2 h3 h4 h5).mono ?_⟩
 rintro e0 w' ⟨v,S',μ',rfl,B⟩
 have lk:∀ q b,look [(κ,bA.row e k m r)] q=some b→q=κ∧b=.row e k m r:=fun q b hq=>by
  rw [bH] at hq
  split at hq
  ·rename_i e; simp only [Option.some.injEq] at hq; exact ⟨e.symm,hq.symm⟩
  ·simp [look] at hq
 have lK:look [(K,bA.row e k m r)] K=some (.row e k m r):=by rw [bH,if_pos rfl]
 refine ⟨v,S',fun _=>μ' K,rfl,⟨fun ν=>?_,fun q b hq=>?_,fun q1 q2 b1 b2 g c c' x1 x2 _ _=>by rw [(lk q1 b1 x1).1,(lk q2 b2 x2).1],fun q b g c x1 x2=>B.own K _ g c lK x2,B.sub,B.new,B.bound,B.kept⟩⟩
 ·cases B.res ν with
  | @fL _ vs hl hr =>
   refine .fL hl (fun i hi=>?_)
   have hq:=hr i hi
   cases i with
   | zero =>
    simp only [List.getD_cons_zero] at hq ⊢
    generalize vs.getD 0 undef=v0 at hq ⊢
    cases hq with
    | cS hμ=>exact .cS hμ
    | own hμ=>exact .own hμ
   | succ i =>
    simp only [List.getD_cons_succ] at hq ⊢
    refine hq.agree (fun k' fW=>absurd fW (AV.tw rs i (by rw [hk]; simp) (by simpa using hi)))
 ·obtain ⟨rfl,rfl⟩:=lk q b hq
  exact (B.mem K _ lK).agree (fun k hk=>by simp [bA.keys] at hk)
structure FB (β:Type) where
 P:Program
 f:FuncId
 args:List AV
 κ:Nat
 b:bA
 enc:β→bA
 v:β
 pre:Prop
 pf:pre→FnS P f args κ b (enc v)
 post:β→Prop:=fun _=>True
 hp:post v:=by trivial
def FB.c {β:Type} (c:FB β):bg β:=⟨c.v,fun x=>[.same c.κ (c.enc x)],fun x=>some (FnS c.P c.f c.args c.κ c.b (c.enc x)),c.pre,fun hp _ e=>by cases e; exact c.pf hp,c.post,c.hp⟩
@[simp] theorem FB.Tx {β:Type} (c:FB β):c.c.pre=c.pre:=rfl
@[simp] theorem FB.xS {β:Type} (c:FB β):c.c.v=c.v:=rfl
@[simp] theorem FB.Mt {β:Type} (c:FB β) (x:β):c.c.post x=c.post x:=rfl
structure yO (β:Type) where
 P:Program
 f:FuncId
 args:List AV
 cU:List (Nat × bA)
 enc:β→AV
 Az:β→List (Nat × bA)
 v:β
 pre:Prop
 pf:pre→gu P f args cU (enc v) (Az v)
 post:β→Prop:=fun _=>True
 hp:post v:=by trivial
def yO.c {β:Type} (c:yO β):bg β:=⟨c.v,fun x=>[.gen (c.cU.map (·.1)) (c.enc x) (c.Az x)],fun x=>some (gu c.P c.f c.args c.cU (c.enc x) (c.Az x)),c.pre,fun hp _ e=>by cases e; exact c.pf hp,c.post,c.hp⟩
@[simp] theorem yO.Tx {β:Type} (c:yO β):c.c.pre=c.pre:=rfl
@[simp] theorem yO.xS {β:Type} (c:yO β):c.c.v=c.v:=rfl
@[simp] theorem yO.Mt {β:Type} (c:yO β) (x:β):c.c.post x=c.post x:=rfl
theorem vV {K q:Nat} {b0 b:bA} (h:look [(K,b0)] q=some b):q=K∧b=b0:=by
 rw [bH] at h
 split at h
 ·rename_i e; simp only [Option.some.injEq] at h; exact ⟨e.symm,h.symm⟩
 ·simp [look] at h
theorem gu.WN {P:Program} {f:FuncId} {args:List AV} {cU:List (Nat × bA)} {K n e k m:Nat} {r:Nat→List D} (κ:Nat) (h:gu P f args cU (.own K n) [(K,.row e k m r)]):gu P f args cU (.own κ n) [(κ,.row e k m r)]:=by
 refine ⟨h.1,fun w S μ vs h1 h2 h3 h4 h5=>(h.2 w S μ vs h1 h2 h3 h4 h5).mono ?_⟩
 rintro e0 w' ⟨v,S',μ',rfl,B⟩
 have lK:look [(K,bA.row e k m r)] K=some (.row e k m r):=by rw [bH,if_pos rfl]
 refine ⟨v,S',fun _=>μ' K,rfl,⟨fun ν=>?_,fun q b hq=>?_,fun q1 q2 b1 b2 g c c' x1 x2 _ _=>by rw [(vV x1).1,(vV x2).1],fun q b g c x1 x2=>B.own K _ g c lK x2,B.sub,B.new,B.bound,B.kept⟩⟩
 ·cases B.res ν with
  | cS hμ=>exact .cS hμ
  | own hμ=>exact .own hμ
 ·obtain ⟨rfl,rfl⟩:=vV hq
  exact (B.mem K _ lK).agree (fun k hk=>by simp [bA.keys] at hk)
theorem gu.WO {P:Program} {f:FuncId} {as:List AV} {K n e k m:Nat} {r:Nat→List D} {res:AV} {gm:List (Nat × bA)} (κ:Nat) (hk:AV.qe as=[]) (h:gu P f (.own K n :: as) [(K,.row e k m r)] res gm):gu P f (.own κ n :: as) [(κ,.row e k m r)] res gm:=by
 refine ⟨h.1,fun w S μ vs h1 h2 h3 h4 h5=>?_⟩
 have lK:∀ K',look [(K',bA.row e k m r)] K'=some (.row e k m r):=fun K'=>by rw [bH,if_pos rfl]
 refine (h.2 w S (fun _=>μ κ) vs h1 h2 (fun ν=>?_) (fun q b hq=>?_) (fun q1 q2 b1 b2 g c c' x1 x2 _ _=>by rw [(vV x1).1,(vV x2).1])).mono ?_
 ·obtain ⟨hl,hi⟩:=h3 ν
  refine ⟨by simpa using hl,fun i fM=>?_⟩
  have hq:=hi i (by simpa using fM)
  cases i with
  | zero =>
   simp only [List.getD_cons_zero] at hq ⊢
   generalize vs.toList.getD 0 undef=v at hq ⊢
   cases hq with
   | cS hμ=>exact .cS hμ
   | own hμ=>exact .own hμ
  | succ i =>
   simp only [List.getD_cons_succ] at hq ⊢
   refine hq.agree (fun k' fW=>absurd fW (AV.tw as i (by rw [hk]; simp) (by simpa using fM)))
 ·obtain ⟨rfl,rfl⟩:=vV hq
  exact (h4 κ _ (lK κ)).agree (fun k hk=>by simp [bA.keys] at hk)
 ·rintro e' w' ⟨v,S',μ',rfl,B⟩
  exact ⟨v,S',μ',rfl,B.S8 (fun b ⟨q,bk,c,x1,x2⟩=>⟨κ,_,c,lK κ,x2⟩)⟩
section
variable {α β ι : Type}
@[simp] theorem Sk.cO (a:α):(Sk.fin a).val=a:=rfl
@[simp] theorem Sk.eQ (e:Bool) (x y:Sk α):(Sk.br e x y).val=bif e then x.val else y.val:=rfl
@[simp] theorem Sk.iG (id:Nat) (c:bg β) (k:β→Sk α):(Sk.r id c k).val=(k c.v).val:=rfl
@[simp] theorem Sk.lU (t:Nat) (m n:Int) (k:Sk α):(Sk.wi t m n k).val=k.val:=rfl
@[simp] theorem Sk.iZ (t j n:Nat) (k:Sk α):(Sk.Be t j n k).val=k.val:=rfl
@[simp] theorem Sk.Mv (κ n n':Nat) (k:Sk α):(Sk.wn κ n n' k).val=k.val:=rfl
@[simp] theorem Sk.Ty (k:Sk α):(Sk.JU k).val=k.val:=rfl
@[simp] theorem Sk.Tz (k:Sk α):(Sk.JV k).val=k.val:=rfl
@[simp] theorem Sk.ack (a:α):(Sk.dead a).val=a:=rfl
@[simp] theorem Sk.acU (t:Nat) (c:Bool) (x y:AV) (k1 k2:Sk α):(Sk.Tm t c x y k1 k2).val=bif c then k1.val else k2.val:=rfl
@[simp] theorem Sk.acV (t n:Nat) (k1 k2:Sk α):(Sk.Ra t n k1 k2).val=k2.val:=rfl
@[simp] theorem Sk.aaK (κ:Nat) (k:List (Int × Int)→Sk α):(Sk.op κ k).val=(k []).val:=rfl
@[simp] theorem Sk.aaL (κ:Nat) (m:List (Int × Int)) (k:Sk α):(Sk.cl κ m k).val=k.val:=rfl
@[simp] theorem Sk.ad9 (κ:Nat) (q:List (Int × Int)→Prop) (k:List (Int × Int)→Sk α):(Sk.oq κ q k).val=(k (canon q)).val:=rfl
@[simp] theorem Sk.aea (κ:Nat) (m:List (Int × Int)) (q:List (Int × Int)→Prop) (k:Sk α):(Sk.cq κ m q k).val=k.val:=rfl
@[simp] theorem Sk.acW (id:Nat) (x:Int) (c:sw) (k:Sk α):(Sk.Mn id x c k).val=k.val:=rfl
@[simp] theorem Sk.aeb (κ:Nat) (k:Sk α):(Sk.fz κ k).val=k.val:=rfl
@[simp] theorem Sk.dh (b:Bool) (J:β→Prop) (s:Sk (α ⊕ β)) (u:β→VA) (k:β→Sk α):(Sk.bind b J s u k).val=gI s.val fun b=>(k b).val:=rfl
@[simp] theorem Sk.WQ {σ β Y:Type} (it:ItC Y) (I:Nat→σ→Prop) (B:β→Prop) (id:Nat) (s0:σ) (u:σ→List (Nat × bA)) (v:β→List (Nat × bA)) (b:σ→Y→Sk (β ⊕ σ)) (k:β ⊕ σ→Sk α):(Sk.rf it I B id s0 u v b k).val=(k (pj (fun s y=>(b s y).val) it.ys s0)).val:=rfl
@[simp] theorem Sk.gd (d:α) (I:ι→Prop) (m:ι→Nat) (i0:ι) (u:ι→VA) (b:ι→Sk (α ⊕ ι)):(Sk.loop d I m i0 u b).val=iter (fun i=>(b i).val) d (m i0+1) i0:=rfl
variable (L : α → Prop)
@[simp] theorem Sk.acX (a:α):(Sk.fin a).bz L=L a:=rfl
@[simp] theorem Sk.aec (e:Bool) (x y:Sk α):(Sk.br e x y).bz L=((e=true→x.bz L)∧(e=false→y.bz L)):=rfl
@[simp] theorem Sk.aeP (id:Nat) (c:bg β) (k:β→Sk α):(Sk.r id c k).bz L=(c.pre∧∀ x,x=c.v→c.post x→(k x).bz L):=rfl
@[simp] theorem Sk.aed (t:Nat) (m n:Int) (k:Sk α):(Sk.wi t m n k).bz L=(m=n∧k.bz L):=rfl
@[simp] theorem Sk.acY (t j n:Nat) (k:Sk α):(Sk.Be t j n k).bz L=(n≤maxLen→k.bz L):=rfl
@[simp] theorem Sk.aee (κ n n':Nat) (k:Sk α):(Sk.wn κ n n' k).bz L=(n=n'∧k.bz L):=rfl
@[simp] theorem Sk.acZ (k:Sk α):(Sk.JU k).bz L=k.bz L:=rfl
@[simp] theorem Sk.ac0 (k:Sk α):(Sk.JV k).bz L=k.bz L:=rfl
@[simp] theorem Sk.acm (a:α):(Sk.dead a).bz L=False:=rfl
@[simp] theorem Sk.ac1 (t:Nat) (c:Bool) (x y:AV) (k1 k2:Sk α):(Sk.Tm t c x y k1 k2).bz L=((c=true→k1.bz L)∧(c=false→k2.bz L)):=rfl
@[simp] theorem Sk.ac2 (t n:Nat) (k1 k2:Sk α):(Sk.Ra t n k1 k2).bz L=((n=0→k1.bz L∧k1.val=k2.val)∧k2.bz L):=rfl
@[simp] theorem Sk.ac3 (id:Nat) (x:Int) (c:sw) (k:Sk α):(Sk.Mn id x c k).bz L=((0≤x∧x≤(c.n:Int))∧k.bz L):=rfl
@[simp] theorem Sk.aef (κ:Nat) (k:Sk α):(Sk.fz κ k).bz L=k.bz L:=rfl
@[simp] theorem Sk.acn (b:Bool) (J:β→Prop) (s:Sk (α ⊕ β)) (u:β→VA) (k:β→Sk α):(Sk.bind b J s u k).bz L=(s.bz (qg L J)∧∀ b,s.val=.inr b→J b→(k b).bz L):=rfl
@[simp] theorem Sk.aco (d:α) (I:ι→Prop) (m:ι→Nat) (i0:ι) (u:ι→VA) (b:ι→Sk (α ⊕ ι)):(Sk.loop d I m i0 u b).bz L=(I i0∧∀ i,I i→(b i).bz (gJ L fun j=>I j∧m j < m i)):=rfl
end
section
variable {α β ι : Type} (L : α → Prop)
@[simp] theorem Sk.ac4 (a:α):(Sk.fin a).cZ L=L a:=rfl
@[simp] theorem Sk.aeg (e:Bool) (x y:Sk α):(Sk.br e x y).cZ L=((e=true→x.cZ L)∧(e=false→y.cZ L)):=rfl
@[simp] theorem Sk.aeQ (id:Nat) (c:bg β) (k:β→Sk α):(Sk.r id c k).cZ L=(∀ x,x=c.v→c.post x→(k x).cZ L):=rfl
@[simp] theorem Sk.aeh (t:Nat) (m n:Int) (k:Sk α):(Sk.wi t m n k).cZ L=k.cZ L:=rfl
@[simp] theorem Sk.ac5 (t j n:Nat) (k:Sk α):(Sk.Be t j n k).cZ L=k.cZ L:=rfl
@[simp] theorem Sk.aei (κ n n':Nat) (k:Sk α):(Sk.wn κ n n' k).cZ L=k.cZ L:=rfl
@[simp] theorem Sk.ac6 (k:Sk α):(Sk.JU k).cZ L=k.cZ L:=rfl
@[simp] theorem Sk.ac7 (k:Sk α):(Sk.JV k).cZ L=k.cZ L:=rfl
@[simp] theorem Sk.acp (a:α):(Sk.dead a).cZ L=L a:=rfl
@[simp] theorem Sk.ac8 (t:Nat) (c:Bool) (x y:AV) (k1 k2:Sk α):(Sk.Tm t c x y k1 k2).cZ L=((c=true→k1.cZ L)∧(c=false→k2.cZ L)):=rfl
@[simp] theorem Sk.ac9 (t n:Nat) (k1 k2:Sk α):(Sk.Ra t n k1 k2).cZ L=k2.cZ L:=rfl
@[simp] theorem Sk.ada (id:Nat) (x:Int) (c:sw) (k:Sk α):(Sk.Mn id x c k).cZ L=k.cZ L:=rfl
@[simp] theorem Sk.aej (κ:Nat) (k:Sk α):(Sk.fz κ k).cZ L=k.cZ L:=rfl
@[simp] theorem Sk.acq (b:Bool) (J:β→Prop) (s:Sk (α ⊕ β)) (u:β→VA) (k:β→Sk α):(Sk.bind b J s u k).cZ L=(s.cZ (qg L J)∧∀ b,s.val=.inr b→J b→(k b).cZ L):=rfl
@[simp] theorem Sk.acr (d:α) (I:ι→Prop) (m:ι→Nat) (i0:ι) (u:ι→VA) (b:ι→Sk (α ⊕ ι)):(Sk.loop d I m i0 u b).cZ L=(I i0∧∀ i,I i→(b i).cZ (gJ L fun j=>I j∧m j < m i)):=rfl
end
@[simp] theorem abq {α β:Type} (L:α→Prop) (J:β→Prop) (a:α):qg L J (.inl a)=L a:=rfl
@[simp] theorem abr {α β:Type} (L:α→Prop) (J:β→Prop) (b:β):qg L J (.inr b)=J b:=rfl
@[simp] theorem abt {α β:Type} (L:α→Prop) (J:β→Prop) (a:α):gJ L J (.inl a)=L a:=rfl
@[simp] theorem abu {α β:Type} (L:α→Prop) (J:β→Prop) (b:β):gJ L J (.inr b)=J b:=rfl
@[simp] theorem UJ {α β:Type} (a:α) (f:β→α):gI (.inl a) f=a:=rfl
@[simp] theorem tq {α β:Type} (b:β) (f:β→α):gI (.inr b) f=f b:=rfl
theorem xc {α:Type} (k:Int) (v:α) (q:Int):∀ (m:List (Int × α)),pn (sJ m k v) q=if q=k then some v else pn m q
 | []=>by
  simp only [sJ,pn]
  by_cases h:q=k
  ·subst h; simp
  ·have:(q == k)=false:=by simpa using h
   simp [h,this]
 | p :: r=>by
  have ih:=xc k v q r
  simp only [sJ]
  by_cases hk:k=p.1
  ·subst hk
   by_cases h:q=p.1
   ·subst h; simp [pn]
   ·have:(q == p.1)=false:=by simpa using h
    simp [pn,h,this]
  ·have h1:(k == p.1)=false:=by simpa using hk
   by_cases h:q=p.1
   ·have h2:¬ q=k:=fun e=>hk (e.symm.trans h)
    subst h
    simp [pn,h1,h2]
   ·have h2:(q == p.1)=false:=by simpa using h
    simp only [h1,cond_false,pn,h2]
    exact ih
def Sk.aO:{α:Type}→Sk α→Bool
 | _,.loop ..=>true
 | _,_=>false
def Sk.cV:{α:Type}→Sk α→(α→Prop)→Prop
 | _,.fin a,L=>L a
 | _,.br e x y,L=>(e=true→x.cV L)∧(e=false→y.cV L)
 | _,.r _ c k,L=>∀ x,x=c.v→c.post x→(k x).cV L
 | _,.wi _ _ _ k,L=>k.cV L
 | _,.wn _ _ _ k,L=>k.cV L
 | _,.JU k,L=>k.cV L
 | _,.JV k,L=>k.cV L
 | _,.dead a,L=>L a
 | _,.Be _ _ _ k,L=>k.cV L
 | _,.Tm _ c _ _ x y,L=>(c=true→x.cV L)∧(c=false→y.cV L)
 | _,.Ra _ _ _ k,L=>k.cV L
 | _,.fz _ k,L=>k.cV L
 | _,.op _ k,L=>(k []).cV L
 | _,.cl _ _ k,L=>k.cV L
 | _,.oq _ q k,L=>(∃ m,q m)∧∀ m,q m→(k m).cV L
 | _,.cq _ _ _ k,L=>k.cV L
 | _,.Mn _ _ _ k,L=>k.cV L
 | _,.mr n V init _ _ b k,L=>V init∧(∀ g i,V g→i < n→(b g i).cV V)∧∀ g,g=(List.range n).foldr (fun i g=>(b g i).val) init→V g→(k g).cV L
 | _,.bind _ J s _ k,L=>s.cV (qg L J)∧∀ b,(s.aO=false→s.val=.inr b)→J b→(k b).cV L
 | _,.loop _ I m i0 _ b,L=>I i0∧∀ i,I i→(b i).cV (gJ L fun j=>I j∧m j < m i)
 | _,.rf it I B _ s0 _ _ b k,L=>I 0 s0∧(∀ i s y,I i s→it.ys[i]? = some y→(b s y).cV (gJ B (I (i+1))))∧∀ r,gJ B (I it.ys.length) r→(k r).cV L
def Sk.kq:{α:Type}→Sk α→(α→Prop)→Prop
 | _,.fin a,L=>L a
 | _,.br e x y,L=>(e=true→x.kq L)∧(e=false→y.kq L)
 | _,.r _ c k,L=>c.pre∧∀ x,x=c.v→c.post x→(k x).kq L
 | _,.wi _ m n k,L=>m=n∧k.kq L
 | _,.wn _ n n' k,L=>n=n'∧k.kq L
 | _,.JU k,L=>k.kq L
 | _,.JV k,L=>k.kq L
 | _,.dead _,_=>False
 | _,.Be _ _ n k,L=>n≤maxLen→k.kq L
 | _,.Tm _ c _ _ x y,L=>(c=true→x.kq L)∧(c=false→y.kq L)
 | _,.Ra _ n k1 k2,L=>(n=0→k1.kq L∧k1.val=k2.val)∧k2.kq L
 | _,.fz _ k,L=>k.kq L
 | _,.op _ k,L=>∀ m,(k m).val=(k []).val∧(k m).kq L
 | _,.cl _ _ k,L=>k.kq L
 | _,.oq _ q k,L=>∀ m,q m→(k m).val=(k (canon q)).val∧(k m).kq L
 | _,.cq _ m q k,L=>q m∧k.kq L
 | _,.Mn _ x c k,L=>(0≤x∧x≤(c.n:Int))∧k.kq L
 | _,.mr n V init _ _ b k,L=>V init∧(∀ g i,V g→i < n→(b g i).cZ V∧(b g i).kq fun _=>True)∧(∀ g i j,V g→i < n→j < n→i≠j→(b (b g j).val i).val=(b (b g i).val j).val)∧∀ g,g=(List.range n).foldr (fun i g=>(b g i).val) init→V g→(k g).kq L
 | _,.bind _ J s _ k,L=>s.kq (qg L J)∧∀ b,(s.aO=false→s.val=.inr b)→J b→(k b).kq L
 | _,.loop _ I m i0 _ b,L=>I i0∧∀ i,I i→(b i).kq (gJ L fun j=>I j∧m j < m i)
 | _,.rf it I B _ s0 _ _ b k,L=>it.pre∧I 0 s0∧(∀ i s y,I i s→it.ys[i]? = some y→(b s y).cV (gJ B (I (i+1)))∧(b s y).kq (gJ B (I (i+1))))∧∀ r,gJ B (I it.ys.length) r→(k r).kq L
theorem Sk.bp:{α:Type}→(s:Sk α)→{L:α→Prop}→s.cV L→s.cZ L
 | _,.fin _,_,h=>h
 | _,.br _ x y,_,h=>⟨fun e=>x.bp (h.1 e),fun e=>y.bp (h.2 e)⟩
 | _,.r _ _ k,_,h=>fun x e p=>(k x).bp (h x e p)
 | _,.wi _ _ _ k,L,h=>k.bp (L:=L) h
 | _,.wn _ _ _ k,L,h=>k.bp (L:=L) h
 | _,.JU k,L,h=>k.bp (L:=L) h
 | _,.JV k,L,h=>k.bp (L:=L) h
 | _,.dead _,_,h=>h
 | _,.Be _ _ _ k,L,h=>k.bp (L:=L) h
 | _,.Tm _ _ _ _ x y,_,h=>⟨fun e=>x.bp (h.1 e),fun e=>y.bp (h.2 e)⟩
 | _,.Ra _ _ _ k,L,h=>k.bp (L:=L) h
 | _,.fz _ k,L,h=>k.bp (L:=L) h
 | _,.op _ k,L,h=>(k []).bp (L:=L) h
 | _,.cl _ _ k,L,h=>k.bp (L:=L) h
 | _,.oq _ _ k,L,h=>⟨h.1,fun m hm=>(k m).bp (L:=L) (h.2 m hm)⟩
 | _,.cq _ _ _ k,L,h=>k.bp (L:=L) h
 | _,.Mn _ _ _ k,L,h=>k.bp (L:=L) h
 | _,.mr _ _ _ _ _ b k,_,h=>⟨h.1,fun g i hg hi=>(b g i).bp (h.2.1 g i hg hi),fun g e hg=>(k g).bp (h.2.2 g e hg)⟩
 | _,.bind _ _ s _ k,_,h=>⟨s.bp h.1,fun b e hb=>(k b).bp (h.2 b (fun _=>e) hb)⟩
 | _,.loop _ _ _ _ _ b,_,h=>⟨h.1,fun i hi=>(b i).bp (h.2 i hi)⟩
 | _,.rf _ _ _ _ _ _ _ b k,_,h=>⟨h.1,fun i s y hs hy=>(b s y).bp (h.2.1 i s y hs hy),fun r _ hr=>(k r).bp (h.2.2 r hr)⟩
theorem Sk.aX:{α:Type}→(s:Sk α)→{L:α→Prop}→s.kq L→s.bz L
 | _,.fin _,_,h=>h
 | _,.br _ x y,_,h=>⟨fun e=>x.aX (h.1 e),fun e=>y.aX (h.2 e)⟩
 | _,.r _ _ k,_,h=>⟨h.1,fun x e p=>(k x).aX (h.2 x e p)⟩
 | _,.wi _ _ _ k,L,h=>⟨h.1,k.aX (L:=L) h.2⟩
 | _,.wn _ _ _ k,L,h=>⟨h.1,k.aX (L:=L) h.2⟩
 | _,.JU k,L,h=>k.aX (L:=L) h
 | _,.JV k,L,h=>k.aX (L:=L) h
 | _,.dead _,_,h=>h.elim
 | _,.Be _ _ _ k,L,h=>fun hn=>k.aX (L:=L) (h hn)
 | _,.Tm _ _ _ _ x y,_,h=>⟨fun e=>x.aX (h.1 e),fun e=>y.aX (h.2 e)⟩
 | _,.Ra _ _ k1 k2,L,h=>⟨fun e=>⟨k1.aX (L:=L) (h.1 e).1,(h.1 e).2⟩,k2.aX (L:=L) h.2⟩
 | _,.fz _ k,L,h=>k.aX (L:=L) h
 | _,.op _ k,L,h=>fun m=>⟨(h m).1,(k m).aX (h m).2⟩
 | _,.cl _ _ k,L,h=>k.aX (L:=L) h
 | _,.oq _ _ k,L,h=>fun m hm=>⟨(h m hm).1,(k m).aX (h m hm).2⟩
 | _,.cq _ _ _ k,L,h=>⟨h.1,k.aX (L:=L) h.2⟩
 | _,.Mn _ _ _ k,L,h=>⟨h.1,k.aX (L:=L) h.2⟩
 | _,.mr _ _ _ _ _ b k,_,h=>⟨h.1,fun g i hg hi=>⟨(h.2.1 g i hg hi).1,(b g i).aX (h.2.1 g i hg hi).2⟩,h.2.2.1,fun g e hg=>(k g).aX (h.2.2.2 g e hg)⟩
 | _,.bind _ _ s _ k,_,h=>⟨s.aX h.1,fun b e hb=>(k b).aX (h.2 b (fun _=>e) hb)⟩
 | _,.loop _ _ _ _ _ b,_,h=>⟨h.1,fun i hi=>(b i).aX (h.2 i hi)⟩
 | _,.rf _ _ _ _ _ _ _ b k,_,h=>⟨h.1,h.2.1,fun i s y hs hy=>⟨(b s y).bp (h.2.2.1 i s y hs hy).1,(b s y).aX (h.2.2.1 i s y hs hy).2⟩,fun r _ hr=>(k r).aX (h.2.2.2 r hr)⟩
theorem oH {α:Type} (l:List α) {i:Nat} (h:i < l.length) (x d:α):(l.set i x).getD i d=x:=by simp [List.getD,h]
theorem oI {α:Type} (l:List α) {i j:Nat} (h:j≠i) (x d:α):(l.set i x).getD j d=l.getD j d:=by simp [List.getD,List.getElem?_set_ne (fun e=>h e.symm)]
def walk {α σ β:Type} (step:α→σ→β ⊕ σ) (fin:σ→β):List α→σ→β
 | [],s=>fin s
 | x :: r,s=>match step x s with
  | .inl b=>b
  | .inr s'=>walk step fin r s'
theorem iter_walk {α σ β ι:Type} [Inhabited α] (l:List α) (pack:σ→Nat→ι) {f:ι→β ⊕ ι} {d:β} (step:α→σ→β ⊕ σ) (fin:σ→β)
  (hs:∀ s i,i < l.length→f (pack s i)=match step (l.getD i default) s with | .inl b=>.inl b | .inr s'=>.inr (pack s' (i+1)))
  (he:∀ s,f (pack s l.length)=.inl (fin s)):∀ (n i:Nat) (s:σ),i≤l.length→l.length - i < n→iter f d n (pack s i)=walk step fin (l.drop i) s
 | 0,i,s,_,hn=>absurd hn (by omega)
 | n+1,i,s,hi,hn=>by
  simp only [iter]
  by_cases h:i < l.length
  ·rw [hs s i h,List.drop_eq_getElem_cons h,show l.getD i default=l[i] from by simp [List.getD,h]]
   simp only [walk]
   cases kj:step l[i] s with
   | inl b=>rfl
   | inr s'=>exact iter_walk l pack step fin hs he n (i+1) s' h (by omega)
  ·obtain rfl:i=l.length:=by omega
   rw [he s,List.drop_length]
   rfl
theorem oh {α σ β ι:Type} [Inhabited α] (l:List α) (pack:σ→Nat→ι) {f:ι→β ⊕ ι} {d:β} (step:α→σ→β ⊕ σ) (fin:σ→β)
  (hs:∀ s i,i < l.length→f (pack s i)=match step (l.getD i default) s with | .inl b=>.inl b | .inr s'=>.inr (pack s' (i+1)))
  (he:∀ s,f (pack s l.length)=.inl (fin s)) {n:Nat} (hn:l.length < n) (s:σ):iter f d n (pack s 0)=walk step fin l s:=by
 have:=iter_walk (d:=d) l pack step fin hs he n 0 s (Nat.zero_le _) (by omega)
 simpa using this
theorem j1 {α σ β:Type} (g:α→σ→σ) (fin:σ→β):∀ (l:List α) (s:σ),walk (fun x s=>.inr (g x s)) fin l s=fin (l.foldl (fun s x=>g x s) s)
 | [],_=>rfl
 | x :: r,s=>by simp only [walk,List.foldl_cons]; exact j1 g fin r (g x s)
theorem yP {α σ β:Type} (step:α→σ→β ⊕ σ) (fin:σ→β):∀ (l r:List α) (s:σ),walk step fin (l++r) s=walk step (fun s=>walk step fin r s) l s
 | [],_,_=>rfl
 | x :: l,r,s=>by
  simp only [List.cons_append,walk]
  cases step x s with
  | inl b=>rfl
  | inr s'=>exact yP step fin l r s'
theorem tK {α:Type} {l:List α} {i:Nat} (h:i < l.length) (d:α):l.getD i d∈l:=by
 rw [show l.getD i d=l[i] from by simp [List.getD,h]]
 exact List.getElem_mem h
theorem Ps {α:Type} [Inhabited α] (L:List α) (lo n:Nat):(sK L lo n).length=n:=by simp [sK]
theorem HO (n:Int):IntKind.u64.wrap n=n % 18446744073709551616:=rfl
theorem jN (n:Int):0≤IntKind.u64.wrap n∧IntKind.u64.wrap n < 18446744073709551616:=by
 rw [HO]; omega
theorem dA {n:Int} (h:0≤n) (h2:n < 18446744073709551616):IntKind.u64.wrap n=n:=by
 rw [HO]; omega
theorem Lq (n:Int):IntKind.u8.wrap n=n % 256:=rfl
theorem D2 {a b:Int} (k:IntKind) (h:0≤b∧b≤k.bits):dz k a b=a / 2 ^ b.toNat:=by
 unfold dz
 rw [Nat.min_eq_left (by omega),Int.fdiv_eq_ediv_of_nonneg _ (Int.le_of_lt (Int.pow_pos (by omega)))]
theorem RV {a b:Int} (h:0≤b∧b≤64):eW .u64 a b=(a * 2 ^ b.toNat) % 18446744073709551616:=by
 unfold eW
 have:IntKind.u64.bits=64:=rfl
 rw [this,Nat.min_eq_left (by omega),HO]
theorem LN:(∀ (p:Prop) [Decidable p],(decide p=true)=p)∧(∀ (p:Prop) [Decidable p],decide p=false↔¬ p) ∧
  (∀ (α:Type) (a b:List α),(a++b).length=a.length+b.length)∧(∀ (α:Type) (x:α) (a:List α),(x :: a).length=a.length+1)∧(∀ α:Type,([]:List α).length=0) ∧
  (∀ (α:Type) (a:List α) (i:Nat) (x:α),(a.set i x).length=a.length)∧(∀ (α:Type) (n:Nat) (x:α),(List.replicate n x).length=n) ∧
  (∀ b:Bool,(¬ b=true)=(b=false))∧(∀ b:Bool,(¬ b=false)=(b=true))∧(∀ a b:Int,¬ a < b↔b≤a)∧(∀ a b:Int,¬ a≤b↔b < a) ∧
  (∀ a b:Bool,((a&&b)=true)=(a=true∧b=true))∧(∀ a b:Bool,((a||b)=true)=(a=true∨b=true))∧(∀ a b:Bool,(a&&b)=false↔a=false∨b=false)∧(∀ a b:Bool,(a||b)=false↔a=false∧b=false) ∧
  (∀ a b:Bool,(!a)=b↔a = !b)∧((!true)=false)∧((!false)=true) ∧
  (∀ (α:Type) [BEq α] [LawfulBEq α] (a b:α),(a == b)=true↔a=b)∧(∀ (α:Type) [BEq α] [LawfulBEq α] (a b:α),(a != b)=true↔a≠b) ∧
  (∀ (α:Type) [BEq α] [LawfulBEq α] (a b:α),(a == b)=false↔a≠b)∧(∀ (α:Type) [BEq α] [LawfulBEq α] (a b:α),(a != b)=false↔a=b) ∧
  (∀ (α:Type) (a b:α),(a≠b) = ¬ a=b)∧(∀ (α:Type) [Inhabited α] (L:List α) (lo n:Nat),(sK L lo n).length=n) :=
 ⟨fun _ _=>decide_eq_true_eq,fun _ _=>decide_eq_false_iff_not,fun _ _ _=>List.length_append,fun _ _ _=>rfl,fun _=>rfl,fun _ _ _ _=>List.length_set,fun _ _ _=>List.length_replicate,
  Bool.not_eq_true,Bool.not_eq_false,fun _ _=>Int.not_lt,fun _ _=>Int.not_le,Bool.and_eq_true,Bool.or_eq_true,fun _ _=>Bool.and_eq_false_iff,fun _ _=>Bool.or_eq_false_iff,
  fun _ _=>Bool.not_eq_eq_eq_not,rfl,rfl,fun _ _ _ _ _=>beq_iff_eq,fun _ _ _ _ _=>bne_iff_ne,fun _ _ _ _ _=>beq_eq_false_iff_ne,fun _ _ _ _ _=>bne_eq_false_iff_eq,fun _ _ _=>rfl,fun _ _=>Ps⟩
theorem ON:(∀ (x:Unit),bg.z.post x=True) ∧
 (∀ (p:Prop) (x:Unit),(bg.p p).post x=True) ∧
 (∀ {p:Prop} (h:p) (x:Unit),(bg.t h).post x=True) ∧
 (∀ (p:Prop) {q:Prop} (h:q) (x:Unit),(bg.pt p h).post x=True) ∧
 (∀ (l:List zU) (x:Unit),(bg.o l).post x=True) ∧
 (∀ {α β:Type} (a:bg α) (b:bg β) (x:α × β),(a.and b).post x=(a.post x.1∧b.post x.2)) ∧
 (∀ {β:Type} (a:bg Unit) (b:bg β) (x:β),(a.aq b).post x=b.post x) ∧
 (∀ {β:Type} (a:bg β) (b:bg Unit) (x:β),(a.CA b).post x=a.post x) ∧
 (∀ {β:Type} (e w:Bool) (a:bg β) (x:β),(a.wh e w).post x=a.post x) ∧
 (∀ {α β:Type} (a:bg α) (b:α→bg β) (x:α × β),(a.dep b).post x=(a.post x.1∧(b x.1).post x.2)) ∧
 (∀ {α:Type} (a:bg α) (b:α→bg Unit) (x:α),(a.o9 b).post x=a.post x) ∧
 (∀ {β:Type} (c:gn β) (x:β),c.c.post x=c.post x) ∧
 (∀ {β:Type} (c:gn β) (i:Nat) (h:∃ g,c.args[i]? = some (.d (.sl 0 g))) (x:β),(c.nil i h).post x=c.post x) ∧
 (∀ {β:Type} (c:gn β) (i j:Nat) (cs:List D) (h:c.args[i]? = some (.d (.agg cs))) (h2:∃ g,cs[j]? = some (.sl 0 g)) (x:β),(c.CB i j cs h h2).post x=c.post x) ∧
 (bg.z.pre=True) ∧
 (∀ (p:Prop),(bg.p p).pre=p) ∧
 (∀ {p:Prop} (h:p),(bg.t h).pre=True) ∧
 (∀ (p:Prop) {q:Prop} (h:q),(bg.pt p h).pre=p) ∧
 (∀ (l:List zU),(bg.o l).pre=True) ∧
 (∀ {α β:Type} (a:bg α) (b:bg β),(a.and b).pre=(a.pre∧b.pre)) ∧
 (∀ {β:Type} (a:bg Unit) (b:bg β),(a.aq b).pre=(a.pre∧b.pre)) ∧
 (∀ {β:Type} (a:bg β) (b:bg Unit),(a.CA b).pre=(a.pre∧b.pre)) ∧
 (∀ {β:Type} (e w:Bool) (a:bg β),(a.wh e w).pre=(e=w→a.pre)) ∧
 (∀ {α β:Type} (a:bg α) (b:α→bg β),(a.dep b).pre=(a.pre∧∀ x,x=a.v→a.post x→(b x).pre)) ∧
 (∀ {α:Type} (a:bg α) (b:α→bg Unit),(a.o9 b).pre=(a.pre∧∀ x,x=a.v→a.post x→(b x).pre)) ∧
 (∀ {α β:Type} (a:bg α) (b:α→bg β),(a.dep b).v=(a.v,(b a.v).v)) ∧
 (∀ {α:Type} (a:bg α) (b:α→bg Unit),(a.o9 b).v=a.v) ∧
 (∀ {β:Type} (c:gn β),c.c.pre=c.pre) ∧
 (∀ {β:Type} (c:gn β),c.c.v=c.v) ∧
 (∀ {β:Type} (c:gn β) (i:Nat) (h:∃ g,c.args[i]? = some (.d (.sl 0 g))),(c.nil i h).pre=c.pre) ∧
 (∀ {β:Type} (c:gn β) (i:Nat) (h:∃ g,c.args[i]? = some (.d (.sl 0 g))),(c.nil i h).v=c.v) ∧
 (∀ {β:Type} (c:gn β) (i j:Nat) (cs:List D) (h:c.args[i]? = some (.d (.agg cs))) (h2:∃ g,cs[j]? = some (.sl 0 g)),(c.CB i j cs h h2).pre=c.pre) ∧
 (∀ {β:Type} (c:gn β) (i j:Nat) (cs:List D) (h:c.args[i]? = some (.d (.agg cs))) (h2:∃ g,cs[j]? = some (.sl 0 g)),(c.CB i j cs h h2).v=c.v) ∧
 (∀ {α β:Type} (a:bg α) (b:bg β),(a.and b).v=(a.v,b.v)) ∧
 (∀ {β:Type} (a:bg Unit) (b:bg β),(a.aq b).v=b.v) ∧
 (∀ {β:Type} (a:bg β) (b:bg Unit),(a.CA b).v=a.v) ∧
 (∀ {β:Type} (e w:Bool) (a:bg β),(a.wh e w).v=a.v) ∧
 (∀ {β:Type} (c:iY β),c.c.pre=c.pre) ∧
 (∀ {β:Type} (c:iY β),c.c.v=c.v) ∧
 (∀ {β:Type} (c:iY β) (i:Nat) (h:∃ g,c.args[i]? = some (.d (.sl 0 g))),(c.nil i h).pre=c.pre) ∧
 (∀ {β:Type} (c:iY β) (i:Nat) (h:∃ g,c.args[i]? = some (.d (.sl 0 g))),(c.nil i h).v=c.v) ∧
 (∀ {β:Type} (c:iY β) (x:β),c.c.post x=c.post x) ∧
 (∀ {β:Type} (c:iY β) (i:Nat) (h:∃ g,c.args[i]? = some (.d (.sl 0 g))) (x:β),(c.nil i h).post x=c.post x) ∧
 (∀ {α β:Type} (L:α→Prop) (J:β→Prop) (a:α),qg L J (.inl a)=L a) ∧
 (∀ {α β:Type} (L:α→Prop) (J:β→Prop) (b:β),qg L J (.inr b)=J b) ∧
 (∀ {α β:Type} (L:α→Prop) (J:β→Prop) (a:α),gJ L J (.inl a)=L a) ∧
 (∀ {α β:Type} (L:α→Prop) (J:β→Prop) (b:β),gJ L J (.inr b)=J b) ∧
 (∀ (i:Int) (n:Nat),bG i n=(0≤i∧i < (n:Int))) ∧
 (∀ n m bytes:Nat,ym n m bytes=(n+m≤maxLen∧(n+m) * bytes≤140737488355328)) ∧
 (∀ (n:Int) (bytes:Nat),VC n bytes=(0≤n∧n.toNat≤maxLen∧n.toNat * bytes≤140737488355328)) ∧
 (∀ α:Prop,(α→True)=True) ∧
 (∀ α:Type,(α→True)=True) ∧
 (∀ p:Prop,(True∧p)=p) ∧
 (∀ p:Prop,(p∧True)=p) ∧
 (∀ p:Prop,(p∧p)=p) ∧
 (∀ p:Prop,(True→p)=p) ∧
 (∀ p:Prop,(False→p)=True):=by
 refine ⟨?_,?_,?_,?_,?_,?_,?_,?_,?_,?_,?_,?_,?_,?_,?_,?_,?_,?_,?_,?_,?_,?_,?_,?_,?_,?_,?_,?_,?_,?_,?_,?_,?_,?_,?_,?_,?_,?_,?_,?_,?_,?_,?_,?_,?_,?_,?_,?_,?_,?_,?_,?_,?_,?_,?_,?_,?_⟩
 all_goals first | rfl | (intros; rfl) | (intros; simp)
def kk {P:Program} {T:List (Nat × TI)} (hT:mX P T) (hm:P.follows .mixedOrders=true) {f:FuncId} {fn:Func} (hf:P.funcs[f]? = some fn) (args:List AV) {α:Type} (enc:α→AV) (fl:Bool) (s:Sk α) (v:α) {pre:Prop} (ok:pre→s.bz fun _=>True)
  (post:α→Prop:=fun _=>True) (hp:post v:=by trivial) (hv:v=s.val:=by exact id rfl) (n:Nat:=3000) (hb:fn.body.isSome=true:=by exact id (by kernel_rfl)) (hc:(gb P f&&Nat.ble args.length fn.ntmps)=true:=by exact id (by kernel_rfl))
  (h:o8 P T fn.ntmps fn.results.toList (Cv fn.results.toList) 0 [] n [.code (fn.body.get hb)] ⟨eD 0 args,[]⟩ (fun a=>.ret (enc a) []) s=(o8 P T fn.ntmps fn.results.toList (Cv fn.results.toList) 0 [] n [.code (fn.body.get hb)] ⟨eD 0 args,[]⟩ (fun a=>.ret (enc a) []) s).diag:=by exact id (by kernel_rfl)):gn α :=
 ⟨P,f,args,enc,fl,v,pre,fun hp=>hv ▸ gu.sk hT hm enc (fun _=>[]) hf (Option.some_get hb).symm hc n s h (ok hp),post,hp⟩
theorem u0 {c:Prop} (f:c) (_:True):c:=f
theorem u2 {a b c:Prop} (f:a→b→c) (h:a∧b):c:=f h.1 h.2
theorem u3 {a b c d:Prop} (f:a→b→c→d) (h:a∧b∧c):d:=f h.1 h.2.1 h.2.2
theorem u4 {a b c d e:Prop} (f:a→b→c→d→e) (h:a∧b∧c∧d):e:=f h.1 h.2.1 h.2.2.1 h.2.2.2
theorem u5 {a b c d e g:Prop} (f:a→b→c→d→e→g) (h:a∧b∧c∧d∧e):g:=f h.1 h.2.1 h.2.2.1 h.2.2.2.1 h.2.2.2.2
theorem u6 {a b c d e g i:Prop} (f:a→b→c→d→e→g→i) (h:a∧b∧c∧d∧e∧g):i:=f h.1 h.2.1 h.2.2.1 h.2.2.2.1 h.2.2.2.2.1 h.2.2.2.2.2
def kp {P:Program} {T:List (Nat × TI)} (hT:mX P T) (hm:P.follows .mixedOrders=true) {f:FuncId} {fn:Func} (hf:P.funcs[f]? = some fn) (args:List AV) {α:Type} (enc:α→AV) (fl:Bool) {s:Sk α} (v:α) {pre:Prop} (ok:pre→s.bz fun _=>True)
  {post:α→Prop} (hq:s.cZ post) (hv:v=s.val:=by exact id rfl) (n:Nat:=3000) (hb:fn.body.isSome=true:=by exact id (by kernel_rfl)) (hc:(gb P f&&Nat.ble args.length fn.ntmps)=true:=by exact id (by kernel_rfl))
  (h:o8 P T fn.ntmps fn.results.toList (Cv fn.results.toList) 0 [] n [.code (fn.body.get hb)] ⟨eD 0 args,[]⟩ (fun a=>.ret (enc a) []) s=(o8 P T fn.ntmps fn.results.toList (Cv fn.results.toList) 0 [] n [.code (fn.body.get hb)] ⟨eD 0 args,[]⟩ (fun a=>.ret (enc a) []) s).diag:=by exact id (by kernel_rfl)):gn α :=
 ⟨P,f,args,enc,fl,v,pre,fun hp=>hv ▸ gu.sk hT hm enc (fun _=>[]) hf (Option.some_get hb).symm hc n s h (ok hp),post,hv ▸ Sk.de s hq⟩
@[simp] theorem ae2 {P:Program} {T:List (Nat × TI)} (hT:mX P T) (hm:P.follows .mixedOrders=true) {f:FuncId} {fn:Func} (hf:P.funcs[f]? = some fn) (args:List AV) {α:Type} (enc:α→AV) (fl:Bool) (s:Sk α) (v:α) {pre:Prop} (ok:pre→s.bz fun _=>True) (post:α→Prop) (hp:post v) (hv:v=s.val) (n:Nat) (hb:fn.body.isSome=true) (hc:(gb P f&&Nat.ble args.length fn.ntmps)=true) (h:o8 P T fn.ntmps fn.results.toList (Cv fn.results.toList) 0 [] n [.code (fn.body.get hb)] ⟨eD 0 args,[]⟩ (fun a=>.ret (enc a) []) s=(o8 P T fn.ntmps fn.results.toList (Cv fn.results.toList) 0 [] n [.code (fn.body.get hb)] ⟨eD 0 args,[]⟩ (fun a=>.ret (enc a) []) s).diag):(kk hT hm hf args enc fl s v ok post hp hv n hb hc h).v=v:=rfl
@[simp] theorem aek {P:Program} {T:List (Nat × TI)} (hT:mX P T) (hm:P.follows .mixedOrders=true) {f:FuncId} {fn:Func} (hf:P.funcs[f]? = some fn) (args:List AV) {α:Type} (enc:α→AV) (fl:Bool) (s:Sk α) (v:α) {pre:Prop} (ok:pre→s.bz fun _=>True) (post:α→Prop) (hp:post v) (hv:v=s.val) (n:Nat) (hb:fn.body.isSome=true) (hc:(gb P f&&Nat.ble args.length fn.ntmps)=true) (h:o8 P T fn.ntmps fn.results.toList (Cv fn.results.toList) 0 [] n [.code (fn.body.get hb)] ⟨eD 0 args,[]⟩ (fun a=>.ret (enc a) []) s=(o8 P T fn.ntmps fn.results.toList (Cv fn.results.toList) 0 [] n [.code (fn.body.get hb)] ⟨eD 0 args,[]⟩ (fun a=>.ret (enc a) []) s).diag):(kk hT hm hf args enc fl s v ok post hp hv n hb hc h).pre=pre:=rfl
@[simp] theorem adb {P:Program} {T:List (Nat × TI)} (hT:mX P T) (hm:P.follows .mixedOrders=true) {f:FuncId} {fn:Func} (hf:P.funcs[f]? = some fn) (args:List AV) {α:Type} (enc:α→AV) (fl:Bool) (s:Sk α) (v:α) {pre:Prop} (ok:pre→s.bz fun _=>True) (post:α→Prop) (hp:post v) (hv:v=s.val) (n:Nat) (hb:fn.body.isSome=true) (hc:(gb P f&&Nat.ble args.length fn.ntmps)=true) (h:o8 P T fn.ntmps fn.results.toList (Cv fn.results.toList) 0 [] n [.code (fn.body.get hb)] ⟨eD 0 args,[]⟩ (fun a=>.ret (enc a) []) s=(o8 P T fn.ntmps fn.results.toList (Cv fn.results.toList) 0 [] n [.code (fn.body.get hb)] ⟨eD 0 args,[]⟩ (fun a=>.ret (enc a) []) s).diag):(kk hT hm hf args enc fl s v ok post hp hv n hb hc h).post=post:=rfl
theorem okT {p:Prop} (h:p:=by
 all_goals (repeat' first | assumption | (apply And.intro) | (intro h))
 all_goals first | trivial | assumption | omega | ((try simp only [LN] at *) <;> first | omega | (refine (aG ?_ ?_).trans ?_ <;> omega) | (simp (disch:=omega) only [aG] at *; omega) | (grind) | (simp_all; done) | (simp_all; omega))):p:=h
theorem acs {p:Prop} (h:p:=by
 all_goals (repeat' first | assumption | (apply And.intro) | (intro h))
 all_goals first | trivial | assumption | omega | ((try simp only [LN] at *) <;> first | omega | (refine (aG ?_ ?_).trans ?_ <;> omega) | (simp (disch:=omega) only [aG] at *; omega) | (grind) | (simp (disch:=omega) only [aG] at *; grind) | (simp_all; done) | (simp_all; omega))):p:=h
theorem pv {p:Prop} (h:p:=by
 refine Sk.aX _ ?_
 simp only [Sk.kq,Sk.aO,reduceCtorEq,qg,gJ,bg.z,bg.p,bg.t,bg.pt,bg.o,bg.and,bg.aq,bg.CA,bg.wh,bg.dep,bg.o9,gn.c,kk,kp,gn.nil,gn.CB,iY.c,iY.nil,Sk.cZ,Sk.cV,maxLen,implies_true,true_and,and_true,and_self,true_implies,false_implies,bG,ym,VC]):p:=h
theorem oj {p:Prop} (h:p:=by
 refine Sk.aX _ ?_
 simp only [Sk.kq,Sk.aO,reduceCtorEq,qg,gJ,bg.z,bg.p,bg.t,bg.pt,bg.o,bg.and,bg.aq,bg.CA,bg.wh,bg.dep,bg.o9,gn.c,kk,kp,gn.nil,gn.CB,iY.c,iY.nil,Sk.cZ,Sk.cV,maxLen,implies_true,true_and,and_true,and_self,true_implies,false_implies,bG,ym,VC]
 all_goals (repeat' first | assumption | (apply And.intro) | (intro h))
 all_goals first | trivial | assumption | omega | ((try simp only [LN] at *) <;> first | omega | (refine (aG ?_ ?_).trans ?_ <;> omega) | (simp (disch:=omega) only [aG] at *; omega) | (grind) | (simp_all; done) | (simp_all; omega))):p:=h
theorem yn {p:Prop} (h:p:=by
 refine Sk.aX _ ?_
 simp only [Sk.kq,Sk.aO,reduceCtorEq,qg,gJ,bg.z,bg.p,bg.t,bg.pt,bg.o,bg.and,bg.aq,bg.CA,bg.wh,bg.dep,bg.o9,gn.c,kk,kp,gn.nil,gn.CB,iY.c,iY.nil,Sk.cZ,Sk.cV,forall_eq,Sum.forall,maxLen,implies_true,true_and,and_true,and_self,true_implies,false_implies,bG,ym,VC]
 all_goals (repeat' first | assumption | (apply And.intro) | (intro h))
 all_goals first | trivial | assumption | omega | ((try simp only [LN] at *) <;> first | omega | (refine (aG ?_ ?_).trans ?_ <;> omega) | (simp (disch:=omega) only [aG] at *; omega) | (grind) | (simp_all; done) | (simp_all; omega))):p:=h
theorem DE {p:Prop} (h:p:=by
 refine Sk.bp _ ?_
 simp only [Sk.aO,reduceCtorEq,qg,gJ,bg.z,bg.p,bg.t,bg.pt,bg.o,bg.and,bg.aq,bg.CA,bg.wh,bg.dep,bg.o9,gn.c,kk,kp,gn.nil,gn.CB,iY.c,iY.nil,Sk.cV,maxLen,implies_true,true_and,and_true,and_self,true_implies,false_implies,bG,ym,VC]
 all_goals (repeat' first | assumption | (apply And.intro) | (intro h))
 all_goals first | trivial | assumption | omega | ((try simp only [LN] at *) <;> first | omega | (refine (aG ?_ ?_).trans ?_ <;> omega) | (simp (disch:=omega) only [aG] at *; omega) | (grind) | (simp_all; done) | (simp_all; omega))):p:=h
theorem RW {p:Prop} (h:p:=by
 refine Sk.bp _ ?_
 simp only [Sk.aO,reduceCtorEq,qg,gJ,bg.z,bg.p,bg.t,bg.pt,bg.o,bg.and,bg.aq,bg.CA,bg.wh,bg.dep,bg.o9,gn.c,kk,kp,gn.nil,gn.CB,iY.c,iY.nil,Sk.cV,forall_eq,Sum.forall,maxLen,implies_true,true_and,and_true,and_self,true_implies,false_implies,bG,ym,VC]
 all_goals (repeat' first | assumption | (apply And.intro) | (intro h))
 all_goals first | trivial | assumption | omega | ((try simp only [LN] at *) <;> first | omega | (refine (aG ?_ ?_).trans ?_ <;> omega) | (simp (disch:=omega) only [aG] at *; omega) | (grind) | (simp_all; done) | (simp_all; omega))):p:=h
theorem RX {α σ β:Type} {step:α→σ→β ⊕ σ} {I:Nat→σ→Prop} {Q:β→Prop}:∀ (l:List α) (k0:Nat) (s:σ),(∀ k x s,x∈l→I k s→match step x s with | .inl b=>Q b | .inr s'=>I (k+1) s')→I k0 s →
  (∃ b,Q b∧∀ fin,walk step fin l s=b)∨∃ s',I (k0+l.length) s'∧∀ fin,walk step fin l s=fin s'
 | [],k0,s,_,h0=>.inr ⟨s,h0,fun _=>rfl⟩
 | x :: r,k0,s,h,h0=>by
  have hx:=h k0 x s (by simp) h0
  simp only [walk]
  cases hs:step x s with
  | inl b=>rw [hs] at hx; exact .inl ⟨b,hx,fun _=>rfl⟩
  | inr s' =>
   rw [hs] at hx
   rcases RX r (k0+1) s' (fun k y t hy=>h k y t (List.mem_cons_of_mem _ hy)) hx with ⟨b,q,e⟩ | ⟨t,q,e⟩
   ·exact .inl ⟨b,q,e⟩
   ·exact .inr ⟨t,by rw [List.length_cons,show k0+(r.length+1)=k0+1+r.length by omega]; exact q,e⟩
theorem eX {α σ γ δ ι:Type} [Inhabited α] (l:List α) (pack:σ→Nat→ι) {f:ι→(γ ⊕ δ) ⊕ ι} {d:γ ⊕ δ} (step:α→σ→γ ⊕ σ) (fin:σ→δ) (g:δ→γ)
  (hs:∀ s i,i < l.length→f (pack s i)=match step (l.getD i default) s with | .inl b=>.inl (.inl b) | .inr s'=>.inr (pack s' (i+1)))
  (he:∀ s,f (pack s l.length)=.inl (.inr (fin s))) {n:Nat} (hn:l.length < n) (s:σ):gI (iter f d n (pack s 0)) g=walk step (fun s=>g (fin s)) l s:=by
 rw [oh (d:=d) l pack (fun x s=>match step x s with | .inl b=>.inl (.inl b) | .inr s'=>.inr s') (fun s=>.inr (fin s)) (fun s i hi=>by rw [hs s i hi]; cases step (l.getD i default) s <;> rfl) he hn s]
 clear hs he
 induction l generalizing s with
 | nil=>rfl
 | cons x r ih =>
  simp only [walk]
  cases step x s with
  | inl b=>rfl
  | inr s'=>exact ih (by simp at hn; omega) s'
section
structure sL (P:Program) (fi:FuncId) (nt:Nat) (ys:List (List AV)) where
 l:Nat
 w0:World
 S:Nat→Prop
 J:Nat→(Nat→Prop)→World→Prop
 Jx:(Nat→Prop)→World→Prop
 jk:∀ i F W W',J i F W→Kept W W' (fun b=>w0.heap.size≤b∧¬ F b∧¬ S b)→J i F W'
 jxk:∀ F W W',Jx F W→Kept W W' (fun b=>w0.heap.size≤b∧¬ F b∧¬ S b)→Jx F W'
 yl:∀ i F W (vs:Array Value),i < ys.length→J i F W→(∀ ν,dy W (fun _=>False) (fun _=>none) ν (ys.getD i []) vs.toList)→YieldAt Fence.wide 0 P l vs W fun e W'=>∃ F',(∀ b,F' b→F b∨W.heap.size≤b)∧(∀ b,F' b→b < W'.heap.size)∧Kept W W' F∧((e=.returned (.bool true)∧J (i+1) F' W')∨(e=.returned (.bool false)∧Jx F' W'))
variable {P : Program} {fi : FuncId} {nt : Nat} {ys : List (List AV)}
def sL.yv (X:sL P fi nt ys):Value:=.func (.yield X.l) #[] #[]
structure sL.Rt (X:sL P fi nt ys) (F:Nat→Prop) (C:Cx):Prop where
 dl:C.dl=[]
 sz:X.w0.heap.size≤C.w0.heap.size
 sub:∀ b,X.S b→C.S0 b
 dis:∀ b,C.S0 b→¬ F b
 Be:∀ b,F b→b < C.w0.heap.size
 own:∀ b,C.T0 b→¬ F b∧X.w0.heap.size≤b
def sL.H (X:sL P fi nt ys) (i:Nat) (C:Cx):Prop:=∃ F,X.Rt F C∧X.J i F C.w0
def sL.YU (X:sL P fi nt ys) (C:Cx):Prop:=∃ F,X.Rt F C∧X.Jx F C.w0
def sL.Fin (X:sL P fi nt ys) (cs:List Frame) (m:Machine):Prop:=∃ v w' fr,((∃ F,X.J ys.length F w')∨∃ F,X.Jx F w')∧Steps P m (lone fr cs w')∧fr.fn=fi∧fr.leaving P w' (.returned v)
theorem sL.Fin.steps {X:sL P fi nt ys} {cs:List Frame} {m m':Machine} (hs:Steps P m m') (h:X.Fin cs m'):X.Fin cs m :=
 let ⟨v,w',fr,q1,q2,q3⟩:=h
 ⟨v,w',fr,q1,hs.trans q2,q3⟩
def sL.g (X:sL P fi nt ys) (T:List (Nat × TI)) (fn:Func) (H:Cx→Prop):Goal :=
 ⟨P,T,nt,fi,fn,.any,[],2,[0],#[X.yv],fun C _ cs m=>H C→X.Fin cs m,fun _ _ cs m m' hs hz h=>.steps hs (hz h)⟩
theorem sL.Rt.still {X:sL P fi nt ys} {F:Nat→Prop} {C:Cx} {A:M} {a:Act} {w:World} {S:Nat→Prop} {μ:Mu} {ν:Nat→Bool} (hF:X.Rt F C) (h:c6 C A a w S μ ν):Kept C.w0 w (fun b=>X.w0.heap.size≤b∧¬ F b∧¬ X.S b) :=
 h.kept.yq fun b hb=>⟨(hF.own b hb).2,(hF.own b hb).1,fun hs=>C.dis b (hF.sub b hs) hb⟩
theorem sL.yield {X:sL P fi nt ys} {F:Nat→Prop} {C:Cx} {A:M} {a:Act} {w:World} {S:Nat→Prop} {μ:Mu} {i:Nat} (da:∀ ν,c6 C A a w S μ ν) (hF:X.Rt F C) (hJ:X.J i F C.w0) (hi:i < ys.length) {vs:Array Value}
  (hr:∀ ν,dy w (fun _=>False) (fun _=>none) ν (ys.getD i []) vs.toList):YieldAt Fence.wide 0 P X.l vs w fun e W'=>∃ C',C'.P=C.P∧C'.nt=C.nt∧(∀ ν,c6 C' A a W' S μ ν)∧((e=.returned (.bool true)∧X.H (i+1) C')∨(e=.returned (.bool false)∧X.YU C')):=by
 have h0:=da fun _=>false
 obtain ⟨fn,tmps,Mk,body,h1,h2⟩:=X.yl i F w vs hi (X.jk _ _ _ _ hJ (hF.still h0)) hr
 refine ⟨fn,tmps,Mk,body,h1,h2.mono ?_⟩
 rintro e W' ⟨F',q1,q2,q3,q4⟩
 have jy:=h0.kept.size
 have nS:∀ b,S b→¬ F b:=fun b hb hf=>by
  rcases h0.fresh b hb with h | h | h
  ·exact hF.dis b h hf
  ·have:=hF.Be b hf; omega
  ·exact (hF.own b h).1 hf
 have nO:∀ b,rX A μ b→¬ F b:=fun b hb hf=>by
  rcases h0.Pc hb with h | h
  ·have:=hF.Be b hf; omega
  ·exact (hF.own b h).1 hf
 have hS:∀ b,S b→W'.heap[b]? = w.heap[b]?:=fun b hb=>q3.block b (h0.bound b hb) (nS b hb)
 have tH:∀ ν,Core A a.tmps W' S μ ν:=fun ν=>(da ν).core.keep (fun _=>.inr rfl) hS (fun q hq=>q3.block q (by obtain ⟨_,_,hb⟩:=h0.core.rE hq; exact hb.lt) (nO q hq)) q3.size
 have ZM:jz W' S:=h0.yt.mono (fun _ x=>x) hS
 have hrt:X.Rt F' (Cx.at C.P C.nt W' S A μ ZM (tH fun _=>false).mem (tH fun _=>false).bound [] (fun d h=>by cases h) List.nodup_nil):=by
  refine ⟨rfl,Nat.le_trans hF.sz (Nat.le_trans jy q3.size),fun b hb=>h0.eP b (hF.sub b hb),fun b hb hf=>?_,q2,fun b hb=>⟨fun hf=>?_,?_⟩⟩
  ·rcases q1 b hf with h | h
   ·exact nS b hb h
   ·have:=h0.bound b hb; omega
  ·rcases q1 b hf with h | h
   ·exact nO b hb h
   ·obtain ⟨_,_,mV⟩:=h0.core.rE hb
    have:=mV.lt
    omega
  ·rcases h0.Pc hb with h | h
   ·exact Nat.le_trans hF.sz h
   ·exact (hF.own b h).2
 refine ⟨Cx.at C.P C.nt W' S A μ ZM (tH fun _=>false).mem (tH fun _=>false).bound [] (fun d h=>by cases h) List.nodup_nil,rfl,rfl,fun ν=>(tH ν).sim h0.tmps _ _ _ _ _ _ (h0.defers.trans hF.dl),?_⟩
 exact q4.imp (fun ⟨a,b⟩=>⟨a,F',hrt,b⟩) (fun ⟨a,b⟩=>⟨a,F',hrt,b⟩)
def YW (X:sL P fi nt ys) (k:List Item) (ops:Array Oper) (H:Cx→Prop) (ya:List Nat) (kn:Option (Nat × Bool)) (l:List Nat) (st:St):Prop :=
 ∀ C:Cx,C.P=P→C.nt=nt→H C→∀ a w,(∀ u,u∈ya→a.tmps.getD u undef=X.yv)→(∀ s b,kn=some (s,b)→s < nt∧a.tmps.getD s undef=.bool b)→j0 C st a w →
  wpOpsIn Fence.wide 0 P ops (fun e a' w'=>e=.normal∧∀ (b:Frame) (cs:List Frame),b.fn=fi→b.kind=.normal→b.roundOf=none→X.Fin cs (lone (b.atR a' k) cs w')) l a w
variable {X : sL P fi nt ys} {k : List Item} {ops : Array Oper} {H : Cx → Prop} {ya : List Nat} {kn : Option (Nat × Bool)} {l : List Nat} {st st' : St}
theorem YW.le (h:JR st st') (hg:YW X k ops H ya kn l st'):YW X k ops H ya kn l st:=fun C h1 h2 h3 a w h4 h5 h6=>hg C h1 h2 h3 a w h4 h5 (h C a w h6)
theorem YW.nil {T:List (Nat × TI)} {fn:Func} (h0:0∈ya) (h:G (X.g T fn H) k st):YW X k ops H ya kn [] st:=fun C h1 h2 h3 a w h4 _ h6 =>
 ⟨rfl,fun b cs e1 e2 e3=>h C h1 h2 a w (fun u hu=>by
  have hu:u=0:=by simpa [sL.g] using hu
  subst hu
  exact h4 0 h0) h6 b cs e1 e2 ⟨fun _=>by show (2:Nat)≠1; decide,fun _=>e3⟩ h3⟩
theorem Lr {P:Program} {o o':Oper} {a:Act} {w:World} {next next':Act→World→Prop} {Q Q':Exit→Act→World→Prop} {n:Nat} (ho:o'.op=o.op) (hd':o'.dst=o.dst) (ht:o'.type=o.type) (hd:∀ c,o.op≠.defer c) (hn:∀ a w,next a w→next' a w) (hq:∀ e a w,Q e a w→e=.normal) (h:o'.wp P a w next Q):o.wpIn Fence.wide n P a w next' Q':=by
 refine ⟨fun _ _=>trivial,?_⟩
 rw [Oper.semAt_eq _ _ _ hd]
 unfold Oper.wp at h
 have he:execOp a.eval o'=execOp a.eval o:=by
  unfold execOp
  rw [ho,ht]
 rw [he] at h
 generalize (execOp a.eval o).run P w=r at *
 have no:¬ LetsOut Q:=fun ⟨_,_,q⟩=>by cases hq _ _ _ q
 have hdp:(Fence.wide.depth.isSome=true→1≤n):=fun h=>by simp [Fence.wide] at h
 cases r with
 | ok x w' =>
  cases x <;> simp only [Oper.upon,Oper.uponIn,hd'] at h ⊢ <;>
   first
    | exact hn _ _ h
    | exact ⟨hdp,(callsIn_wide.2 h).mono (fun e VD he=>by cases e <;> first | exact hn _ _ he | exact absurd (hq _ _ _ he) (by simp) | exact absurd he no)⟩
    | exact ⟨hdp,fun c cs _=>by obtain ⟨v,VD,q,s⟩:=h c cs; exact ⟨v,VD,hn _ _ q,stepsIn_wide.2 s⟩⟩
 | halt x w'=>cases x <;> simp only [Oper.upon,Oper.uponIn] at h ⊢ <;> first | exact h.elim | exact absurd (hq _ _ _ h) (by simp)
theorem Pt {P:Program} {pre ops:Array Oper} {Q Q':Exit→Act→World→Prop} {l:List Nat} (LZ:∀ i,i < pre.size→ops[i]? = pre[i]?) (hg:(pre.toList.all fun o=>match o.guard with | some (j,_)=>Nat.blt j pre.size | none=>true)=true) (hd:lu pre=true) (hq:∀ e a w,Q e a w→e=.normal) :
  ∀ (is:List Nat),(∀ i,i∈is→i < pre.size)→∀ a w,wpOps P pre Q is a w→(∀ a' w',Q .normal a' w'→wpOpsIn Fence.wide 0 P ops Q' l a' w')→wpOpsIn Fence.wide 0 P ops Q' (is++l) a w
 | [],_,a,w,h,hk=>hk a w h
 | i :: is,hi,a,w,h,hk=>by
  have eC:=hi i (by simp)
  have ih:=Pt (P:=P) (l:=l) (Q':=Q') LZ hg hd hq is (fun j hj=>hi j (by simp [hj]))
  simp only [wpOps,List.cons_append,wpOpsIn] at h ⊢
  rw [LZ i eC]
  cases ho:pre[i]? with
  | none=>rw [ho] at h; exact ih a w h hk
  | some o =>
   rw [ho] at h
   simp only at h ⊢
   have hw:Region.wanted o (yielded ops a.tmps)=Region.wanted o (yielded pre a.tmps):=by
    unfold Region.wanted
    cases hgd:o.guard with
    | none=>rfl
    | some jw =>
     obtain ⟨j,want⟩:=jw
     simp only [List.all_eq_true] at hg
     have:=hg o (by obtain ⟨hi,rfl⟩:=Array.getElem?_eq_some_iff.1 ho; simp)
     rw [hgd] at this
     have hj:j < pre.size:=by simpa using this
     simp only [yielded,LZ j hj]
   rw [hw]
   split
   ·rename_i hw
    rw [if_pos hw] at h
    rcases h with h | ⟨_,_,_,q⟩
    ·exact Lr rfl rfl rfl (tF hd ho) (fun a' w' hh=>ih a' w' hh hk) hq h
    ·cases hq _ _ _ q
   ·rename_i hw
    rw [if_neg hw] at h
    exact ⟨fun _ _=>trivial,ih _ w h hk⟩
theorem D3 {l:List Nat} {o:Oper} (h:sx l #[o]=true) {a:Act} {v:Value} {u:Nat} (hu:u∈l):(a.put o.dst v).tmps.getD u undef=a.tmps.getD u undef:=by
 simp only [sx,List.all_eq_true] at h
 have h1:=h u hu o (by simp)
 cases hd:o.dst with
 | none=>rfl
 | some d =>
  rw [hd] at h1
  exact cT _ _ _ _ (fun e=>by subst e; simp at h1)
theorem Pu {l:List Nat} {pre:Array Oper} (h:sx l pre=true) {K:Array Value→Prop} (hK:∀ t t':Array Value,(∀ u,u∈l→t'.getD u undef=t.getD u undef)→K t→K t'):O7 pre K:=fun i o a v ho hk =>
 hK _ _ (fun u hu=>D3 (l:=l) (by
  simp only [sx,List.all_eq_true] at h ⊢
  intro t ht o' SS
  have:o'=o:=by simpa using SS
  subst this
  exact h t ht o' (by obtain ⟨hi,rfl⟩:=Array.getElem?_eq_some_iff.1 ho; simp)) hu) hk
def YV:Option (Nat × Bool)→List Nat
 | some (s,_)=>[s]
 | none=>[]
theorem YW.pre {T:List (Nat × TI)} (hT:mX P T) (hm:P.follows .mixedOrders=true) {pre:Array Oper} {jL:List zU} {ob:Ob} (LZ:∀ i,i < pre.size→ops[i]? = pre[i]?) (hg:(pre.toList.all fun o=>match o.guard with | some (j,_)=>Nat.blt j pre.size | none=>true)=true) (hd:lu pre=true) (WR:sx ya pre=true)
  (hr:ph P T nt pre false none st jL=some (st',ob)) (bX:ob.den) (h:YW X k ops H ya none l st'):YW X k ops H ya none (List.range pre.size++l) st:=by
 intro C h1 h2 h3 a w h4 h5 h6
 have hw:=Bn (C:=C) (T:=T) (by rw [h1]; exact hT) (by rw [h1]; exact hm) (by rw [h1,h2]; exact hr) bX h6
 rcases hw with ⟨-,hw⟩ | ⟨e,-⟩
 ·rw [h1] at hw
  have hw:=th (K:=fun t=>∀ u,u∈ya→t.getD u undef=X.yv) (Pu WR fun t t' he hk u hu=>(he u hu).trans (hk u hu)) (fun e a w h=>h.1) _ a w h4 hw
  exact Pt LZ hg hd (fun e a w h=>h.1.1) _ (fun i hi=>List.mem_range.1 hi) a w hw fun a' w' hh=>h C h1 h2 h3 a' w' hh.2 (fun s b e=>by cases e) hh.1.2
 ·cases e
def CD (ops:Array Oper) (kn:Option (Nat × Bool)) (o:Oper):Option Bool :=
 match o.guard with
 | none=>some true
 | some (j,w)=>(match zV ops j,kn with
  | some s,some (s',b)=>bif Nat.beq s s' then some (b == w) else none
  | _,_=>none)
theorem vW {o:Oper} {b:Bool} (h:CD ops kn o=some b) {a:Act} (hk:∀ s b,kn=some (s,b)→s < a.tmps.size∧a.tmps.getD s undef=.bool b):Region.wanted o (yielded ops a.tmps)=b:=by
 unfold CD at h
 unfold Region.wanted
 cases hgd:o.guard with
 | none=>rw [hgd] at h; simpa using h
 | some jw =>
  obtain ⟨j,want⟩:=jw
  rw [hgd] at h
  simp only at h ⊢
  split at h
  ·rename_i s s' b' hs
   rw [Bool.cond_eq_ite] at h
   split at h
   ·rename_i he
    have he:=Nat.eq_of_beq_eq_true he
    subst he
    obtain ⟨q1,q2⟩:=hk _ _ rfl
    rw [O4 hs q1,q2]
    simp only [Option.some.injEq] at h
    subst h
    cases b' <;> cases want <;> rfl
   ·cases h
  ·cases h
theorem j0.drop {C:Cx} {a:Act} {w:World} {d:Nat} (h:j0 C st a w) (hd:d < C.nt) (v:Value):j0 C ⟨aP [d] st.sl,st.lb⟩ (a.put (some d) v) w:=by
 obtain ⟨S,μ,hs⟩:=h
 refine ⟨S,μ,fun ν=>?_⟩
 have:=(hs ν).put (dst:=some d) (x:=.any) (v:=v) (fun t e=>by cases e; exact hd) (.any _)
 refine this.weaken (fun u x hx=>?_) (fun κ b hb=>⟨b,hb,fun _ h=>h⟩)
 simp only [St.fN,M.vI,M.put] at hx ⊢
 by_cases e:u=d
 ·subst e
  have:St.get (aP [u] st.sl) u=.any:=by simp [St.get,lT]
  rw [this]
  exact .any _
 ·simp only [e,if_false] at hx
  have:St.get (aP [d] st.sl) u=St.get st.sl u:=by simp [St.get,lT,e]
  rw [this]
  exact hx
theorem j0.acu {C:Cx} {a:Act} {w:World} {d:Nat} (h:j0 C st a w) (hd:d < C.nt) {x:AV} {v:Value} (hx:∀ S μ,(∀ ν,c6 C st.fN a w S μ ν)→∀ ν,Rel w S μ ν x v):j0 C ⟨(d,x) :: aP [d] st.sl,st.lb⟩ (a.put (some d) v) w:=by
 obtain ⟨S,μ,hs⟩:=h
 refine ⟨S,μ,fun ν=>?_⟩
 have:=(hs ν).put (dst:=some d) (x:=x) (v:=v) (fun t e=>by cases e; exact hd) (hx S μ hs ν)
 refine this.weaken (fun u y hy=>?_) (fun κ b hb=>⟨b,hb,fun _ h=>h⟩)
 simp only [St.fN,M.vI,M.put] at hy ⊢
 rw [GG]
 by_cases e:u=d
 ·subst e; simpa using hy
 ·rw [if_neg (fun h=>e h.symm)]; simpa [e] using hy
theorem HP {o:Oper} (h:sx (ya++YV kn) #[o]=true) {a:Act} (v:Value) (h4:∀ u,u∈ya→a.tmps.getD u undef=X.yv) (h5:∀ s b,kn=some (s,b)→s < nt∧a.tmps.getD s undef=.bool b) :
  (∀ u,u∈ya→(a.put o.dst v).tmps.getD u undef=X.yv)∧∀ s b,kn=some (s,b)→s < nt∧(a.put o.dst v).tmps.getD s undef=.bool b :=
 ⟨fun u hu=>(D3 h (by simp [hu])).trans (h4 u hu),fun s b e=>⟨(h5 s b e).1,(D3 h (by simp [YV,e])).trans (h5 s b e).2⟩⟩
theorem sM {P:Program} {Q:Exit→Act→World→Prop} {i:Nat} {o:Oper} {a:Act} {w:World} (ho:ops[i]? = some o) (hw:Region.wanted o (yielded ops a.tmps)=true) (h:o.wpIn Fence.wide 0 P a w (wpOpsIn Fence.wide 0 P ops Q l) Q):wpOpsIn Fence.wide 0 P ops Q (i :: l) a w:=by
 simp only [wpOpsIn,ho,hw,if_true]
 exact h
theorem YW.op {T:List (Nat × TI)} (hT:mX P T) (hm:P.follows .mixedOrders=true) {i:Nat} {o:Oper} {ob:Ob} (ho:ops[i]? = some o) (hw:CD ops kn o=some true) (hd:lu #[o]=true) (WR:sx (ya++YV kn) #[o]=true)
  (hr:ph P T nt #[{ o with guard:=none }] false none st []=some (st',ob)) (bX:ob.den) (h:YW X k ops H ya kn l st'):YW X k ops H ya kn (i :: l) st:=by
 intro C h1 h2 h3 a w h4 h5 h6
 have jy:a.tmps.size=nt:=by obtain ⟨S,μ,hs⟩:=h6; exact (hs fun _=>false).tmps.trans h2
 refine sM ho (vW hw fun s b e=>⟨jy ▸ (h5 s b e).1,(h5 s b e).2⟩) ?_
 have hw:=Bn (C:=C) (T:=T) (by rw [h1]; exact hT) (by rw [h1]; exact hm) (by rw [h1,h2]; exact hr) bX h6
 rcases hw with ⟨-,hw⟩ | ⟨e,-⟩
 ·rw [h1] at hw
  have hw:=th (K:=fun t=>(∀ u,u∈ya→t.getD u undef=X.yv)∧∀ s b,kn=some (s,b)→s < nt∧t.getD s undef=.bool b) (fun j o' a v SS hk=>by
   have e:o' = { o with guard:=none }:=by
    match j,SS with
    | 0,SS=>simpa using SS.symm
    | j+1,SS=>simp at SS
   subst e
   exact HP (o:=o) WR v hk.1 hk.2) (fun e a w h=>h.1) _ a w ⟨h4,h5⟩ hw
  have e1:List.range (#[{ o with guard:=none }]:Array Oper).size=[0]:=rfl
  rw [e1] at hw
  simp only [wpOps,Region.wanted] at hw
  rcases hw with hw | ⟨_,_,_,q⟩
  ·exact Lr (o':={ o with guard:=none }) rfl rfl rfl (tF (ops:=#[o]) hd (i:=0) rfl) (fun a' w' hh=>h C h1 h2 h3 a' w' hh.2.1 hh.2.2 hh.1.2) (fun e a w h=>h.1.1) hw
  ·cases q.1.1
 ·cases e
theorem YW.skip {i d:Nat} {o:Oper} (ho:ops[i]? = some o) (hw:CD ops kn o=some false) (hd:o.dst=some d) (ZO:d < nt) (WR:sx (ya++YV kn) #[o]=true) (h:YW X k ops H ya kn l ⟨aP [d] st.sl,st.lb⟩):YW X k ops H ya kn (i :: l) st:=by
 intro C h1 h2 h3 a w h4 h5 h6
 have jy:a.tmps.size=nt:=by obtain ⟨S,μ,hs⟩:=h6; exact (hs fun _=>false).tmps.trans h2
 have hw:=vW hw (a:=a) fun s b e=>⟨jy ▸ (h5 s b e).1,(h5 s b e).2⟩
 obtain ⟨q1,q2⟩:=HP WR undef h4 h5
 simp only [wpOpsIn,ho,hw]
 exact ⟨fun _ _=>trivial,h C h1 h2 h3 _ w q1 q2 (by rw [hd]; exact h6.drop (by rw [h2]; exact ZO) _)⟩
theorem YW.value {i d:Nat} {o:Oper} {x:AV} (ho:ops[i]? = some o) (hw:CD ops kn o=some true) (hd:o.dst=some d) (ZO:d < nt) (hdf:lu #[o]=true) (WR:sx (ya++YV kn) #[o]=true)
  (hx:∀ (a:Act) (w:World),(∀ u,u∈ya→a.tmps.getD u undef=X.yv)→(∀ s b,kn=some (s,b)→s < nt∧a.tmps.getD s undef=.bool b)→∃ v,(execOp a.eval o).run P w=.ok (.value v) w∧∀ C S μ,C.P=P→(∀ ν,c6 C st.fN a w S μ ν)→∀ ν,Rel w S μ ν x v)
  (h:YW X k ops H ya kn l ⟨(d,x) :: aP [d] st.sl,st.lb⟩):YW X k ops H ya kn (i :: l) st:=by
 intro C h1 h2 h3 a w h4 h5 h6
 have jy:a.tmps.size=nt:=by obtain ⟨S,μ,hs⟩:=h6; exact (hs fun _=>false).tmps.trans h2
 refine sM ho (vW hw fun s b e=>⟨jy ▸ (h5 s b e).1,(h5 s b e).2⟩) ⟨fun _ _=>trivial,?_⟩
 obtain ⟨v,q1,q2⟩:=hx a w h4 h5
 obtain ⟨q3,q4⟩:=HP WR v h4 h5
 rw [Oper.semAt_eq _ _ _ (tF (ops:=#[o]) (o:=o) hdf (i:=0) rfl),q1]
 simp only [Oper.uponIn]
 exact h C h1 h2 h3 _ w q3 q4 (by rw [hd]; exact h6.acu (by rw [h2]; exact ZO) (fun S μ hs=>q2 C S μ h1 hs))
theorem YW.mv {i d u:Nat} {o:Oper} (ho:ops[i]? = some o) (hw:CD ops kn o=some true) (hd:o.dst=some d) (ZO:d < nt) (WR:sx (ya++YV kn) #[o]=true) (wP:o.op=.move (.tmp u)) (hu:u∈ya) (h:YW X k ops H (d :: ya) kn l ⟨aP [d] st.sl,st.lb⟩):YW X k ops H ya kn (i :: l) st:=by
 intro C h1 h2 h3 a w h4 h5 h6
 have jy:a.tmps.size=nt:=by obtain ⟨S,μ,hs⟩:=h6; exact (hs fun _=>false).tmps.trans h2
 refine sM ho (vW hw fun s b e=>⟨jy ▸ (h5 s b e).1,(h5 s b e).2⟩) ⟨fun _ _=>trivial,?_⟩
 obtain ⟨q3,q4⟩:=HP WR X.yv h4 h5
 have hv:a.eval (.tmp u)=X.yv:=h4 u hu
 have he:(execOp a.eval o).run P w=.ok (.value X.yv) w:=by
  simp only [execOp,wP,hv]
  rfl
 rw [Oper.semAt_eq _ _ _ (fun c e=>by rw [wP] at e; cases e),he]
 simp only [Oper.uponIn]
 refine h C h1 h2 h3 _ w (fun u' hu'=>?_) q4 (by rw [hd]; exact h6.drop (by rw [h2]; exact ZO) _)
 rcases List.mem_cons.1 hu' with e | e
 ·subst e
  rw [hd]
  exact gH _ _ _ (by rw [jy]; exact ZO)
 ·exact q3 u' e
theorem YW.yl {i d u n:Nat} {o:Oper} {c:Call} {ts:List Nat} {y:List AV} (ho:ops[i]? = some o) (hw:CD ops kn o=some true) (hd:o.dst=some d) (ZO:d < nt) (WR:sx (ya++YV kn) #[o]=true) (wP:o.op=.call c) (hc:c.callee=.value (.tmp u)) (hu:u∈ya)
  (hn:ys[n]? = some y) (ha:c.args.toList=ts.map .tmp) (hy:ts.map (St.get st.sl)=y) (hf:y.all fH=true)
  (hon:YW X k ops (X.H (n+1)) ya kn l ⟨(d,.d (.v (.bool true))) :: aP [d] st.sl,st.lb⟩) (aaM:YW X k ops X.YU ya kn l ⟨(d,.d (.v (.bool false))) :: aP [d] st.sl,st.lb⟩):YW X k ops (X.H n) ya kn (i :: l) st:=by
 intro C h1 h2 h3 a w h4 h5 h6
 have jy:a.tmps.size=nt:=by obtain ⟨S,μ,hs⟩:=h6; exact (hs fun _=>false).tmps.trans h2
 refine sM ho (vW hw fun s b e=>⟨jy ▸ (h5 s b e).1,(h5 s b e).2⟩) ⟨fun _ _=>trivial,?_⟩
 obtain ⟨S,μ,da⟩:=h6
 obtain ⟨F,hF,hJ⟩:=h3
 have eC:n < ys.length:=(List.getElem?_eq_some_iff.1 hn).1
 have hyn:ys.getD n []=y:=by simp [List.getD,hn]
 have lr:(c.args.map a.eval).toList=ts.map fun t=>a.tmps.getD t undef:=by
  rw [Array.toList_map,ha,List.map_map]
  rfl
 have hrel:∀ ν,dy w (fun _=>False) (fun _=>none) ν (ys.getD n []) (c.args.map a.eval).toList:=fun ν=>by
  rw [hyn,lr]
  subst hy
  refine ⟨by simp,fun j hj=>?_⟩
  have EX:j < ts.length:=by simpa using hj
  have h1:=(da ν).dV ts[j]
  have h2:fH (St.get st.sl ts[j])=true:=by
   simp only [List.all_eq_true] at hf
   exact hf _ (List.mem_map.2 ⟨_,List.getElem_mem EX,rfl⟩)
  have h3:=Ld h2 (w':=w) (S':=fun _=>False) (μ':=fun _=>none) (ν':=ν) h1
  simpa [List.getD,EX,St.fN] using h3
 have hv:a.eval (.tmp u)=X.yv:=h4 u hu
 obtain ⟨fn,tmps,Mk,body,q1,q2⟩:=X.yield da hF hJ eC hrel
 have he:(execOp a.eval o).run P w=(Instr.yield X.l (c.args.map a.eval)).run P w:=by
  simp only [execOp,wP,resolve,hc,hv,sL.yv,Deferred.ofValue]
  simp [invoke,go_sem]
 rw [Oper.semAt_eq _ _ _ (fun c e=>by rw [wP] at e; cases e),he,q1]
 refine ⟨fun h=>by simp [Fence.wide] at h,q2.mono ?_⟩
 rintro e W' ⟨C',c1,c2,c3,c4⟩
 have fin:∀ (b:Bool) (H':Cx→Prop),H' C'→YW X k ops H' ya kn l ⟨(d,.d (.v (.bool b))) :: aP [d] st.sl,st.lb⟩→wpOpsIn Fence.wide 0 P ops (fun e a' w'=>e=.normal∧∀ (b:Frame) (cs:List Frame),b.fn=fi→b.kind=.normal→b.roundOf=none→X.Fin cs (lone (b.atR a' k) cs w')) l (a.put o.dst (.bool b)) W':=by
  intro b H' hH hYW
  obtain ⟨q3,q4⟩:=HP WR (.bool b) h4 h5
  exact hYW C' (c1.trans h1) (c2.trans h2) hH _ W' q3 q4 (by rw [hd]; exact j0.acu ⟨S,μ,c3⟩ (by rw [c2,h2]; exact ZO) (fun S μ _ ν=>gz rfl))
 rcases c4 with ⟨rfl,hH⟩ | ⟨rfl,hH⟩
 ·exact fin true _ hH hon
 ·exact fin false _ hH aaM
def evC (P:Program) (T:List (Nat × TI)) (nt:Nat) (pre:Array Oper) (st:St) (jL:List zU) (lx:Option Prop) (J:St):CT :=
 match ph P T nt pre false none st jL with
 | some (st',ob)=>.two ob.eqs (.two (.po ob.prop lx) (J8 st' J))
 | none=>.bad
theorem WS {P:Program} {T:List (Nat × TI)} {nt:Nat} {pre:Array Oper} {jL:List zU} {lx:Option Prop} {J:St} (h:(evC P T nt pre st jL lx J).ok) (hc:∀ p,lx=some p→p):∃ st' ob,ph P T nt pre false none st jL=some (st',ob)∧ob.den∧JR st' J:=by
 unfold evC at h
 split at h
 ·rename_i st' ob hr
  obtain ⟨h1,h2,h3⟩:=h
  have h2:ob.prop=lx:=h2
  exact ⟨st',ob,hr,Ob.DX h1 (fun p hp=>hc p (h2 ▸ hp)),uI h3⟩
 ·exact h.elim
def preB (ya:List Nat) (pre:Array Oper):Bool:=(pre.toList.all fun o=>match o.guard with | some (j,_)=>Nat.blt j pre.size | none=>true)&&lu pre&&sx ya pre
theorem YW.ael {T:List (Nat × TI)} (hT:mX P T) (hm:P.follows .mixedOrders=true) {α:Type} (cl:bg α) (j:Nat) (J:α→St) (hb:preB ya ((ops.toList.take j).toArray)=true) (hj:j≤ops.size)
  (h:∀ x,evC P T nt ((ops.toList.take j).toArray) st (cl.jL x) (cl.lx x) (J x)=(evC P T nt ((ops.toList.take j).toArray) st (cl.jL x) (cl.lx x) (J x)).diag) (hp:cl.pre) (hk:YW X k ops H ya none (List.range' j (ops.size - j)) (J cl.v)):YW X k ops H ya none (List.range ops.size) st:=by
 obtain ⟨st',ob,hr,bX,hle⟩:=WS (CT.Cr (h cl.v)) (fun p e=>cl.pf hp p e)
 simp only [preB,Bool.and_eq_true] at hb
 have jy:((ops.toList.take j).toArray).size=j:=by simp; omega
 have:=YW.pre (ops:=ops) (H:=H) (k:=k) (l:=List.range' j (ops.size - j)) hT hm (pre:=(ops.toList.take j).toArray) (fun i hi=>by
  rw [jy] at hi
  simp [List.getElem?_take,hi]) hb.1.1 hb.1.2 hb.2 hr bX (hk.le hle)
 rw [jy] at this
 have e:List.range ops.size=List.range j++List.range' j (ops.size - j):=by
  rw [List.range_eq_range',List.range_eq_range']
  have:=List.range'_append (s:=0) (m:=j) (n:=ops.size - j) (step:=1)
  simp only [Nat.zero_add,Nat.one_mul] at this
  rw [this]
  congr 1
  omega
 rw [e]
 exact this
theorem YW.aem {s:Nat} {b:Bool} (hs:St.get st.sl s=.d (.v (.bool b))) (eC:s < nt) (h:YW X k ops H ya (some (s,b)) l st):YW X k ops H ya none l st:=by
 intro C h1 h2 h3 a w h4 h5 h6
 refine h C h1 h2 h3 a w h4 (fun s' b' e=>?_) h6
 simp only [Option.some.injEq,Prod.mk.injEq] at e
 obtain ⟨rfl,rfl⟩:=e
 obtain ⟨S,μ,da⟩:=h6
 have:=(da fun _=>false).dV s
 simp only [St.fN,hs] at this
 exact ⟨eC,nh this⟩
def tlB (ops:Array Oper) (nt i:Nat) (ya:List Nat) (kn:Option (Nat × Bool)) (want:Bool):Bool :=
 match ops[i]? with
 | some o=>(match CD ops kn o,o.dst with | some b,some d=>(b == want)&&Nat.ble (d+1) nt | _,_=>false)&&sx (ya++YV kn) #[o]&&lu #[o]
 | none=>false
theorem HR {nt i:Nat} {want:Bool} (h:tlB ops nt i ya kn want=true):∃ o d,ops[i]? = some o∧CD ops kn o=some want∧o.dst=some d∧d < nt∧sx (ya++YV kn) #[o]=true∧lu #[o]=true:=by
 unfold tlB at h
 split at h
 ·rename_i o ho
  simp only [Bool.and_eq_true] at h
  obtain ⟨⟨h1,h2⟩,h3⟩:=h
  split at h1
  ·rename_i b d hb hd
   simp only [Bool.and_eq_true,beq_iff_eq] at h1
   obtain ⟨rfl,h1⟩:=h1
   exact ⟨o,d,ho,hb,hd,Nat.le_of_ble_eq_true h1,h2,h3⟩
  ·cases h1
 ·cases h
theorem YW.ZP {T:List (Nat × TI)} (hT:mX P T) (hm:P.follows .mixedOrders=true) {i:Nat} {o:Oper} (J:St) (ho:ops[i]? = some o) (hb:tlB ops nt i ya kn true=true)
  (h:evC P T nt #[{ o with guard:=none }] st [] none J=(evC P T nt #[{ o with guard:=none }] st [] none J).diag) (hk:YW X k ops H ya kn l J):YW X k ops H ya kn (i :: l) st:=by
 obtain ⟨o',d,q1,q2,q3,q4,q5,q6⟩:=HR hb
 rw [ho] at q1
 cases q1
 obtain ⟨st',ob,hr,bX,hle⟩:=WS (CT.Cr h) (fun p e=>by cases e)
 exact YW.op hT hm ho q2 q6 q5 hr bX (hk.le hle)
theorem YW.Pv {i d:Nat} {o:Oper} (ho:ops[i]? = some o) (hd:o.dst=some d) (hb:tlB ops nt i ya kn false=true) (hk:YW X k ops H ya kn l ⟨aP [d] st.sl,st.lb⟩):YW X k ops H ya kn (i :: l) st:=by
 obtain ⟨o',d',q1,q2,q3,q4,q5,q6⟩:=HR hb
 rw [ho] at q1
 cases q1
 rw [hd] at q3
 cases q3
 exact YW.skip ho q2 hd q4 q5 hk
theorem YW.mvC {i d u:Nat} {o:Oper} (ho:ops[i]? = some o) (hd:o.dst=some d) (wP:o.op=.move (.tmp u)) (hu:u∈ya) (hb:tlB ops nt i ya kn true=true) (hk:YW X k ops H (d :: ya) kn l ⟨aP [d] st.sl,st.lb⟩):YW X k ops H ya kn (i :: l) st:=by
 obtain ⟨o',d',q1,q2,q3,q4,q5,q6⟩:=HR hb
 rw [ho] at q1
 cases q1
 rw [hd] at q3
 cases q3
 exact YW.mv ho q2 hd q4 q5 wP hu hk
def ZQ (sl:List (Nat × AV)):Operand→AV
 | .tmp t=>St.get sl t
 | .const v=>.d (.v v)
 | _=>.any
theorem YW.WT {i d s:Nat} {b:Bool} {o:Oper} {x y:Operand} (e:Bool) (ho:ops[i]? = some o) (hd:o.dst=some d) (wP:o.op=.pick (.tmp s) x y) (hb:tlB ops nt i ya (some (s,b)) true=true) (he:ZQ st.sl (bif b then x else y)=.d (.v (.bool e)))
  (hk:YW X k ops H ya (some (s,b)) l ⟨(d,.d (.v (.bool e))) :: aP [d] st.sl,st.lb⟩):YW X k ops H ya (some (s,b)) (i :: l) st:=by
 obtain ⟨o',d',q1,q2,q3,q4,q5,q6⟩:=HR hb
 rw [ho] at q1
 cases q1
 rw [hd] at q3
 cases q3
 refine YW.value ho q2 hd q4 q6 q5 (fun a w h4 h5=>?_) hk
 obtain ⟨hs,hv⟩:=h5 s b rfl
 have hv:a.eval (.tmp s)=.bool b:=hv
 refine ⟨a.eval (bif b then x else y),?_,fun C S μ hC da ν=>?_⟩
 ·simp only [execOp,wP,hv]
  cases b <;> simp [asBool,go_sem]
 ·generalize (bif b then x else y)=z at he
  rw [← he]
  cases z with
  | tmp t=>exact (da ν).dV t
  | const v =>
   simp only [ZQ] at he ⊢
   cases he
   exact gz rfl
  | _=>exact .any _
theorem YW.ylC {i d u n:Nat} {o:Oper} {c:Call} {ts:List Nat} {y:List AV} (ho:ops[i]? = some o) (hd:o.dst=some d) (wP:o.op=.call c) (hc:c.callee=.value (.tmp u)) (hu:u∈ya) (hb:tlB ops nt i ya kn true=true)
  (hn:ys[n]? = some y) (ha:c.args.toList=ts.map .tmp) (hy:ts.map (St.get st.sl)=y) (hf:y.all fH=true)
  (hon:YW X k ops (X.H (n+1)) ya kn l ⟨(d,.d (.v (.bool true))) :: aP [d] st.sl,st.lb⟩) (aaM:YW X k ops X.YU ya kn l ⟨(d,.d (.v (.bool false))) :: aP [d] st.sl,st.lb⟩):YW X k ops (X.H n) ya kn (i :: l) st:=by
 obtain ⟨o',d',q1,q2,q3,q4,q5,q6⟩:=HR hb
 rw [ho] at q1
 cases q1
 rw [hd] at q3
 cases q3
 exact YW.yl ho q2 hd q4 q5 wP hc hu hn ha hy hf hon aaM
theorem G.yr {T:List (Nat × TI)} {fn:Func} {id:Nat} (h:YW X k ops H [0] none (List.range ops.size) st):G (X.g T fn H) (.code (.region id ops false) :: k) st:=by
 intro C h1 h2 a w hk hs b cs e1 e2 e3 h3
 have hr:b.roundOf=none:=e3.2 (by show (2:Nat)≠1; decide)
 have hw:(Code.region id ops false).wpIn Fence.wide 0 P _ a w:=wpIn_region (h C h1 h2 h3 a w (fun u hu=>by
  have:u=0:=by simpa using hu
  subst this
  exact hk 0 (by simp [sL.g])) (fun s b e=>by cases e) hs)
 obtain ⟨e,a',w',⟨q1,q2⟩,Wk⟩:=hw b k cs hr trivial (room_wide _)
 subst q1
 exact .steps (StepsIn.steps Wk) (q2 b cs e1 e2 hr)
theorem sL.TA {T:List (Nat × TI)} {fn:Func} (hf:P.funcs[fi]? = some fn) (hrs:fn.results = #[]) {C:Cx} {F:Nat→Prop} (h1:C.P=P) {a:Act} {w:World} (hs:j0 C st a w) (hF:X.Rt F C) (hJ:X.J ys.length F w∨X.Jx F w)
  {todo:List Item} (kj:∀ (b:Frame) (cs:List Frame),b.roundOf=none→Steps P (lone (b.atR a todo) cs w) (lone { b.atR a todo with mode:=.returning } cs w)) (b:Frame) (cs:List Frame) (Lg:b.fn=fi) (wN:b.kind=.normal) (JS:b.roundOf=none):X.Fin cs (lone (b.atR a todo) cs w):=by
 obtain ⟨S,μ,da⟩:=hs
 have h0:=da fun _=>false
 have hr:(results fn a.tmps).run P w=.ok (.tuple #[]) w:=by
  have:=uH (C:=C) (fn:=fn) (a:=a) (w:=w) (vs:=[]) (by rw [hrs]; simp)
  rw [h1] at this
  exact this
 refine ⟨.tuple #[],w,{ b.atR a todo with mode:=.returning },hJ.imp (fun h=>⟨F,h⟩) (fun h=>⟨F,h⟩),kj b cs JS,Lg,rfl,h0.defers.trans hF.dl,wN,fn,?_,hr⟩
 show P.funcs[b.fn]? = _
 rw [Lg]; exact hf
theorem sL.ret {T:List (Nat × TI)} {fn:Func} (hf:P.funcs[fi]? = some fn) (hrs:fn.results = #[]) (hH:∀ C,H C→X.H ys.length C∨X.YU C):G (X.g T fn H) [] st∧∀ k,G (X.g T fn H) (.code .ret :: k) st:=by
 have key:∀ (C:Cx) (a:Act) (w:World),H C→j0 C st a w→∃ F,X.Rt F C∧(X.J ys.length F w∨X.Jx F w):=by
  intro C a w hC hs
  obtain ⟨S,μ,da⟩:=hs
  have h0:=da fun _=>false
  rcases hH C hC with ⟨F,hF,hJ⟩ | ⟨F,hF,hJ⟩
  ·exact ⟨F,hF,.inl (X.jk _ _ _ _ hJ (hF.still h0))⟩
  ·exact ⟨F,hF,.inr (X.jxk _ _ _ hJ (hF.still h0))⟩
 exact ⟨fun C h1 h2 a w _ hs b cs e1 e2 e3 hC=>by
   obtain ⟨F,hF,hJ⟩:=key C a w hC hs
   exact sL.TA (T:=T) hf hrs h1 hs hF hJ (fun b cs hb=>.one (stepR_end hb)) b cs e1 e2 (e3.2 (by show (2:Nat)≠1; decide)),
  fun k C h1 h2 a w _ hs b cs e1 e2 e3 hC=>by
   obtain ⟨F,hF,hJ⟩:=key C a w hC hs
   exact sL.TA (T:=T) hf hrs h1 hs hF hJ (fun b cs hb=>.one (stepR_ret hb)) b cs e1 e2 (e3.2 (by show (2:Nat)≠1; decide))⟩
theorem UD.intro {P:Program} {T:List (Nat × TI)} {f:FuncId} {fn:Func} {body:Code} {cE:List AV} {ys:List (List AV)} (hf:P.funcs[f]? = some fn) (hb:fn.body=some body) (hc:gb P f=true) (hn:cE.length+1≤fn.ntmps)
  (h:∀ X:sL P f fn.ntmps ys,G (X.g T fn (X.H 0)) [.code body] ⟨eD 1 cE,[]⟩):UD P f cE ys:=by
 refine ⟨hc,fun w0 S μ zT l J Jx F0 hS VP Ur hSF hF hJk aen S4 hJ cs=>?_⟩
 let X:sL P f fn.ntmps ys:=⟨l,w0,S,J,Jx,hJk,aen,S4⟩
 let C:Cx:=⟨P,w0,S,fun _=>False,fn.ntmps,VP,fun b hb h=>h.elim,hS,[],fun d h=>(by cases h),List.nodup_nil⟩
 let b:Frame:={ (default:Frame) with fn:=f,kind:=.normal,roundOf:=none }
 let vs:Array Value:=#[.func (.yield l) #[] #[]]++zT
 have hl:zT.size=cE.length:=by have:=(Ur fun _=>false).1; simpa using this
 have Yk:vs.size=cE.length+1:=by simp [vs,hl]; omega
 have RF:Frame.enter P f vs .normal=b.atR { tmps:=vs++Array.replicate (fn.ntmps - vs.size) undef,defers:=[] } [.code body]:=by
  simp [Frame.enter,Frame.atR,hf,hb,b]
 have da:j0 C ⟨eD 1 cE,[]⟩ { tmps:=vs++Array.replicate (fn.ntmps - vs.size) undef,defers:=[] } w0:=by
  refine ⟨S,μ,fun ν=>⟨by simp only [C,Array.size_append,Array.size_replicate]; omega,rfl,fun t=>?_,fun κ b h=>by simp [St.fN,look] at h,fun κ κ' b b' g c c' h=>by simp [St.fN,look] at h,fun κ bk q c h1 h2=>by simp [St.fN,look] at h1,fun _ hb=>hb,fun _ hb=>.inl hb,hS,Kept.refl _ _⟩⟩
  simp only [St.fN,St.get,vd]
  by_cases ht:1≤t∧t - 1 < cE.length
  ·rw [if_pos ht.1,List.getElem?_eq_getElem ht.2]
   have h2:=(Ur ν).2 (t - 1) ht.2
   rw [show cE.getD (t - 1) default=cE[t - 1] from by simp [List.getD,ht.2]] at h2
   have e:(vs++Array.replicate (fn.ntmps - vs.size) undef).getD t undef=zT.toList.getD (t - 1) undef:=by
    rw [← cN]
    simp only [Array.getD_eq_getD_getElem?]
    rw [Array.getElem?_append_left (by omega)]
    simp only [vs]
    rw [Array.getElem?_append_right (by simp; omega)]
    simp
   rw [e]
   exact h2
  ·by_cases h1:1≤t
   ·rw [if_pos h1,List.getElem?_eq_none (by omega)]
    exact .any _
   ·rw [if_neg h1]
    exact .any _
 obtain ⟨v,w',fr,q1,q2,q3,q4⟩:=h X C rfl rfl _ _ (fun u hu=>by
  have:u=0:=by simpa [sL.g] using hu
  subst this
  simp only [sL.g,sL.yv,Array.getD_eq_getD_getElem?]
  rw [Array.getElem?_append_left (by omega)]
  simp only [vs,X]
  rw [Array.getElem?_append_left (by simp)]) da b cs rfl rfl ⟨fun _=>by show (2:Nat)≠1; decide,fun _=>rfl⟩
  ⟨F0,⟨rfl,Nat.le_refl _,fun _ h=>h,hSF,hF,fun b h=>h.elim⟩,hJ⟩
 exact ⟨.returned v,w',fr,⟨⟨v,rfl⟩,q1⟩,by show Steps _ _ _; rw [RF]; exact q2,q3,q4⟩
theorem TB {st st':St} (h:J8 st st'=(J8 st st').diag):JR st st':=uI (CT.Cr h)
def cA:Code→Code
 | .seq x _=>x
 | .cond _ x _=>x
 | .block _ x=>x
 | .loop x=>x
 | c=>c
def cB:Code→Code
 | .seq _ y=>y
 | .cond _ _ y=>y
 | c=>c
def opsOf:Code→Array Oper
 | .region _ ops _=>ops
 | _=>#[]
theorem sL.sk {T:List (Nat × TI)} {fn:Func} (hT:mX P T) (hm:P.follows .mixedOrders=true) (hf:P.funcs[fi]? = some fn) {α:Type} (todo:List Item) (sk:Sk α) (L:α→WG) (n:Nat) (h:o8 P T nt fn.results.toList 0 2 [0] n todo st L sk=(o8 P T nt fn.results.toList 0 2 [0] n todo st L sk).diag) (ho:sk.bz fun _=>True)
  (hL:∀ a,a=sk.val→RT (X.g T fn H) (L a)):G (X.g T fn H) todo st :=
 z6 n (g:=X.g T fn H) hT hm hf (fun h=>(by cases h)) 0 todo st L sk (fun _=>True) (CT.Cr h) ho (fun a e _=>hL a e)
theorem G.WU {g:Goal} {c:Code} (h:G g (.code c :: .inLoop c :: k) st):G g (.code (.loop c) :: k) st:=fun C h1 h2 a w hk hs=>(h C h1 h2 a w hk hs).step fun _ _=>.one stepR_loop
end
section
open Go Go.Sort
def iH (l:List Int):List Int:=l.mergeSort fun x y=>decide (x≤y)
variable {w : World} {S : Nat → Prop} {μ : Mu} {e g c : Nat} {L : List Int}
theorem Ls (h:dK w S μ (bO e 1 bU L) g c):Holds (Value.int .i64) w g 0 L.toArray∧∃ cur,w.heap[g]? = some (.cells cur e (0,0))∧L.length≤c∧c≤maxLen∧cur.size=c:=by
 obtain ⟨cur,hg,su,Ca,Rm,N8,pd⟩:=h
 refine ⟨fun j hj=>?_,cur,hg,Rm,N8,by omega⟩
 have EX:j < L.length:=by simpa using hj
 refine ⟨?_,by simp [World.frozen?,hg]⟩
 obtain ⟨x,hx,hr⟩:=(pd j EX).2 0 (by omega)
 have hx:cur[j]? = some x:=by simpa using hx
 have hr:Rd w S (.v (.int .i64 (L.getD j default))) x:=by simpa [bU,dI] using hr
 cases hr
 simp only [World.cell?,hg,Nat.zero_add]
 simp only [Option.isSome_none,Bool.false_eq_true,if_false,hx]
 simp [List.getD,EX]
theorem TC {k:Nat} {os:Array Obj} {d L':List Int} (h:dK w S μ (bO e 1 bU L) g c) (hd:d.length≤c) (hl:L'.length≤d.length) (he:∀ i,i < L'.length→d.getD i default=L'.getD i default) :
  dK (grow (putRow (Value.int .i64) (Sort.ahead w k) g 0 d.toArray) os) S μ (bO e 1 bU L') g c:=by
 obtain ⟨cur,hg,su,Ca,Rm,N8,pd⟩:=h
 refine ⟨_,heap_sortedI d.toArray hg,su,by simpa [putCells] using Ca,by omega,N8,fun i hi=>⟨rfl,fun j hj=>?_⟩⟩
 have hj0:j=0:=by omega
 subst hj0
 have hid:i < d.length:=by omega
 have hic:i < cur.size:=by omega
 refine ⟨.int .i64 (L'.getD i default),?_,Rd.v _ rfl⟩
 have:=he i hi
 simp only [putCells,Nat.mul_one,Nat.add_zero,Nat.zero_le,Nat.zero_add,Nat.sub_zero,true_and,Array.getElem?_mapIdx,List.size_toArray,hid,if_true]
 rw [Array.getElem?_eq_getElem hic]
 simp only [Option.map_some,Option.some.injEq,Value.int.injEq,true_and]
 rw [← this]
 simp [List.getD,hid]
theorem E8 {k:Nat} {os:Array Obj} {d:Array Int} {κ:Nat} (h:μ κ=some (some (g,c))):Kept w (grow (putRow (Value.int .i64) (Sort.ahead w k) g 0 d) os) (fun q=>∃ c,μ κ=some (some (q,c))):=by
 have hb:=grownBy_sortedI (w:=w) (g:=g) (n:=k) (os:=os) d
 exact ⟨hb.os,hb.tape,hb.output,hb.size,fun b eC mV=>hb.block b eC (fun e=>by cases e; exact mV ⟨c,h⟩)⟩
theorem WV {P:Program} {f:FuncId} (hc:gb P f=true)
  (h1:∀ (blk off cap:Nat) (zs:List Int) (w:World),Holds (Value.int .i64) w blk off zs.toArray→blk < w.heap.size→zs.length < 4611686018427387904 →
   Calls P f #[.slice (some ⟨blk,off,none⟩) zs.length cap] w fun e w'=>e=.returned (.tuple #[])∧∃ n os,w'=grow (putRow (Value.int .i64) (Sort.ahead w n) blk off (zs.mergeSort fun x y=>decide (x≤y)).toArray) os)
  (h0:∀ (p:Option Addr) (cap:Nat) (w:World),Calls P f #[.slice p 0 cap] w fun e w'=>e=.returned (.tuple #[])∧w'=w) (κ e:Nat) (L:List Int) (hL:L.length < 4611686018427387904) :
  FnS P f [ow κ L] κ (bO e 1 bU L) (bO e 1 bU (iH L)):=by
 refine ⟨hc,fun w S μ vs hS hg hr hb=>?_⟩
 obtain ⟨v,rfl⟩:∃ v,vs = #[v]:=by
  have:=(hr fun _=>false).1
  match vs,this with
  | ⟨[v]⟩,_=>exact ⟨v,rfl⟩
 have hv:Rel w S μ (fun _=>false) (.own κ L.length) v:=by simpa using (hr fun _=>false).2 0 (by simp)
 have Q6:(iH L).length=L.length:=by simp [iH]
 generalize hn:L.length=n at hv
 cases hv with
 | cS hm =>
  refine (h0 _ _ w).mono ?_
  rintro e' w' ⟨rfl,rfl⟩
  refine ⟨⟨_,rfl⟩,?_,Kept.refl _ _⟩
  rw [hm]
  show (iH L).length=0
  omega
 | @own _ _ g cap hm =>
  rw [hm] at hb
  have Rg:dK w S μ (bO e 1 bU L) g cap:=hb
  obtain ⟨q1,cur,q2,q3,q4,q5⟩:=Ls Rg
  subst hn
  refine (h1 g 0 cap L w q1 (Array.getElem?_eq_some_iff.1 q2).1 hL).mono ?_
  rintro e' w' ⟨rfl,k,os,rfl⟩
  refine ⟨⟨_,rfl⟩,?_,E8 hm⟩
  rw [hm]
  exact TC (d:=iH L) (L':=iH L) Rg (by omega) (Nat.le_refl _) (fun _ _=>rfl)
theorem Pw {P:Program} {f:FuncId} (hc:gb P f=true) (L L':List Int) (hl:L'.length≤L.length)
  (h1:∀ (blk cap:Nat) (w:World),Holds (Value.int .i64) w blk 0 L.toArray→L.length≤9223372036854775807→L.length≤cap →
   Calls P f #[.slice (some ⟨blk,0,none⟩) L.length cap] w fun e w'=>e=.returned (.slice (some ⟨blk,0,none⟩) L'.length cap)∧∃ q,w'=putRow (Value.int .i64) (Sort.ahead w q) blk 0 (L'++List.replicate (L.length - L'.length) 0).toArray)
  (h0:∀ (p:Option Addr) (cap:Nat) (w:World),Calls P f #[.slice p 0 cap] w fun e w'=>e=.returned (.slice p 0 cap)∧w'=w) (κ κ' e:Nat) :
  gu P f [ow κ L] [(κ,bO e 1 bU L)] (ow κ' L') [(κ',bO e 1 bU L')]:=by
 refine ⟨hc,fun w S μ vs hS hg hr hb hi=>?_⟩
 obtain ⟨v,rfl⟩:∃ v,vs = #[v]:=by
  have:=(hr fun _=>false).1
  match vs,this with
  | ⟨[v]⟩,_=>exact ⟨v,rfl⟩
 have hv:Rel w S μ (fun _=>false) (.own κ L.length) v:=by simpa using (hr fun _=>false).2 0 (by simp)
 have hb:=hb κ (bO e 1 bU L) (by simp [look])
 have lk:∀ k b,look [(κ',bO e 1 bU L')] k=some b→k=κ'∧b=bO e 1 bU L':=fun k b h=>by
  simp only [bH] at h
  split at h
  ·rename_i e'; exact ⟨e'.symm,by simpa using h.symm⟩
  ·cases h
 have inj:∀ μ':Mu,S7 [(κ',bO e 1 bU L')] μ':=fun μ' k1 k2 b1 b2 g c c' h1 h2 _ _=>((lk _ _ h1).1).trans ((lk _ _ h2).1).symm
 generalize hn:L.length=n at hv
 cases hv with
 | @cS _ ad hm =>
  refine (h0 _ _ w).mono ?_
  rintro e' w' ⟨rfl,rfl⟩
  have hz:L'.length=0:=by omega
  refine ⟨_,S,fun k=>if k=κ' then some none else none,rfl,⟨fun ν=>?_,fun k b h=>?_,inj _,fun k b g c h AZ=>?_,fun _ h=>h,fun _ h=>.inl h,hS,Kept.refl _ _⟩⟩
  ·show Rel _ _ _ _ (.own κ' L'.length) _
   rw [hz]
   exact .cS (by simp)
  ·obtain ⟨rfl,rfl⟩:=lk k b h
   simp only [if_true]
   exact hz
  ·obtain ⟨rfl,rfl⟩:=lk k b h
   simp at AZ
 | @own _ _ g cap hm =>
  rw [hm] at hb
  have Rg:dK w S μ (bO e 1 bU L) g cap:=hb
  obtain ⟨q1,cur,q2,q3,q4,q5⟩:=Ls Rg
  subst hn
  have h4:=q4
  simp only [maxLen] at h4
  refine (h1 g cap w q1 (by omega) q3).mono ?_
  rintro e' w' ⟨rfl,k,rfl⟩
  have ZR:∀ W:World,W=grow W #[]:=fun W=>by simp [grow]
  have aeo:dK (putRow (Value.int .i64) (Sort.ahead w k) g 0 (L'++List.replicate (L.length - L'.length) 0).toArray) S (fun k=>if k=κ' then some (some (g,cap)) else none) (bO e 1 bU L') g cap:=by
   rw [ZR (putRow _ _ _ _ _)]
   exact TC (d:=L'++List.replicate (L.length - L'.length) 0) (L':=L') Rg (by simp; omega) (by simp) (fun i hi=>by simp [List.getD,List.getElem?_append_left hi])
  have hk:Kept w (putRow (Value.int .i64) (Sort.ahead w k) g 0 (L'++List.replicate (L.length - L'.length) 0).toArray) (Handed [(κ,bO e 1 bU L)] μ):=by
   rw [ZR (putRow _ _ _ _ _)]
   exact (E8 hm).yq (fun q ⟨c,hq⟩=>⟨κ,bO e 1 bU L,c,by simp [look],hq⟩)
  refine ⟨_,S,fun k=>if k=κ' then some (some (g,cap)) else none,rfl,⟨fun ν=>.own (by simp),fun k b h=>?_,inj _,fun k b g' c h AZ=>?_,fun _ h=>h,fun _ h=>.inl h,fun b mV=>Nat.lt_of_lt_of_le (hS b mV) hk.size,hk⟩⟩
  ·obtain ⟨rfl,rfl⟩:=lk k b h
   simp only [if_true]
   exact aeo
  ·obtain ⟨rfl,rfl⟩:=lk k b h
   simp only [if_true,Option.some.injEq,Prod.mk.injEq] at AZ
   obtain ⟨rfl,rfl⟩:=AZ
   exact .inr ⟨κ,bO e 1 bU L,cap,by simp [look],hm⟩
end
end Go.Av
