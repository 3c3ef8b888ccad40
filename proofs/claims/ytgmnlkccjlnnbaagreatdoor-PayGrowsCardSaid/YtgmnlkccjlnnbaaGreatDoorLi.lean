/- Functions, as sketches. -/
import Derived.Test.YtgmnlkccjlnnbaaGreatDoorLh
import Derived.Test.YtgmnlkccjlnnbaaGreatDoorLc
import Derived.Test.YtgmnlkccjlnnbaaGreatDoorLd
set_option linter.unusedSimpArgs false
set_option linter.unusedVariables false
set_option maxHeartbeats 1000000
set_option maxRecDepth 100000
namespace Go.Proofs.YtgmnlkccjlnnbaaGreatDoor
noncomputable section
open Go Go.Av
def bu (a b:aH):Prop:=a.known=true→b=a
theorem bu.rfl' (a:aH):bu a a:=fun _=>rfl
theorem bu.unknown {a b:aH} (h:a.known=false):bu a b:=fun h2=>by rw [h] at h2; exact absurd h2 (by decide)
theorem B0 {op:Int} {cs zX:List aH} {ns ns':List (List Int)} (h:bu (bQ op cs) (bQ op zX)):bu (oY op cs ns).1 (oY op zX ns').1:=by
 unfold oY
 cases hk:(bQ op cs).known with
 | false=>exact bu.unknown rfl
 | true=>rw [h hk,hk]; exact bu.rfl' _
theorem XA {a a':aH} (h:bu a a'):bu (bQ 3 [a]) (bQ 3 [a']):=by
 rw [IC,IC]
 cases hk:a.known with
 | false=>exact bu.unknown rfl
 | true=>rw [h hk,hk]; exact bu.rfl' _
theorem Vd {op:Int} (wP:op=4∨op=5) {a a' b b':aH} (ha:bu a a') (hb:bu b b'):bu (bQ op [a,b]) (bQ op [a',b']):=by
 rw [Es op wP,Es op wP]
 dsimp only
 generalize (if op=5 then (1:Int) else 0)=z
 cases hka:a.known with
 | true =>
  have ea:=ha hka
  subst ea
  cases Z5:b.known with
  | true=>have eb:=hb Z5; subst eb; rw [hka,Z5]; exact bu.rfl' _
  | false =>
   rw [hka]
   cases a'.n == z with
   | true=>simp only [Bool.true_and,Bool.true_or,cond_true]; exact bu.rfl' _
   | false=>exact bu.unknown rfl
 | false =>
  cases Z5:b.known with
  | false=>exact bu.unknown rfl
  | true =>
   have eb:=hb Z5
   subst eb
   rw [Z5]
   cases b'.n == z with
   | true=>simp only [Bool.true_and,Bool.or_true,cond_true]; exact bu.rfl' _
   | false=>exact bu.unknown rfl
theorem SE {op:Int} (wP:7≤op) {a a' b b':aH} (ha:bu a a') (hb:bu b b'):bu (bQ op [a,b]) (bQ op [a',b']):=by
 rw [xt op wP,xt op wP]
 cases hka:a.known with
 | true =>
  have ea:=ha hka
  subst ea
  cases Z5:b.known with
  | true=>have eb:=hb Z5; subst eb; rw [hka,Z5]; exact bu.rfl' _
  | false=>exact bu.unknown rfl
 | false=>exact bu.unknown rfl
theorem SF {a b:aH} (h:bu a b) (n:Int):bu (KH a n) (KH b n):=by
 unfold KH
 cases hk:a.known with
 | false=>exact bu.unknown rfl
 | true=>rw [h hk,hk]; exact bu.rfl' _
theorem Zd {a b:aH} (ha:a.known=true) (hb:b.known=true) (h:(a.n == b.n)=true):a=b:=by
 obtain ⟨k,n⟩:=a
 obtain ⟨k',n'⟩:=b
 simp only at ha hb h
 rw [ha,hb,beq_iff_eq.1 h]
theorem XB {t:Term} {k:Int} (h:vH t k):∀ (fu:Nat) (m m':Machine),(∀ q:Nat,bu (m.eS.getD q default) (m'.eS.getD q default))→t.depth≤fu→t.depth≤8→bu (ae fu m t).1 (ae fu m' t).1:=by
 induction h with
 | int hn =>
  intro fu m m' _ hd _
  cases fu with
  | zero=>exact absurd hd (by simp [Term.depth,Term.eR])
  | succ fu=>rw [M5,M5]; exact bu.rfl' _
 | @bool n hn =>
  intro fu m m' _ hd _
  cases fu with
  | zero=>exact absurd hd (by simp [Term.depth,Term.eR])
  | succ fu=>rw [IB,IB]; exact bu.rfl' _
 | @var n hn =>
  intro fu m m' hm hd _
  cases fu with
  | zero=>exact absurd hd (by simp [Term.depth,Term.eR])
  | succ fu =>
   rw [M6,M6,ID m n hn,ID m' n hn]
   have h:=SF (hm n.toNat) n
   cases hk:(KH (m.eS.getD n.toNat default) n).known with
   | false=>exact bu.unknown rfl
   | true=>rw [h hk,hk]; exact bu.rfl' _
 | @not a _ ih =>
  intro fu m m' hm hd h8
  cases fu with
  | zero=>exact absurd hd (by simp [Term.depth,Term.eR])
  | succ fu =>
   rw [Xj] at hd h8
   rw [M7,M7]
   exact B0 (XA (ih fu m m' hm (by omega) (by omega)))
 | @Xb op a b wP _ _ Fb DF =>
  intro fu m m' hm hd h8
  cases fu with
  | zero=>exact absurd hd (by simp [Term.depth,Term.eR])
  | succ fu =>
   rw [Et] at hd h8
   rw [uV _ _ _ _ (by omega),uV _ _ _ _ (by omega)]
   exact B0 (Vd wP (Fb fu m m' hm (by omega) (by omega)) (DF fu m m' hm (by omega) (by omega)))
 | @ite a b c k ha _ _ Fb DF ihc =>
  intro fu m m' hm hd h8
  cases fu with
  | zero=>exact absurd hd (by simp [Term.depth,Term.eR])
  | succ fu =>
   rw [Xk] at hd h8
   have ia:=Fb fu m m' hm (by omega) (by omega)
   have ib:=DF fu m m' hm (by omega) (by omega)
   have ic:=ihc fu m m' hm (by omega) (by omega)
   have t1:=(Ae ha fu m (by omega) (by omega)).1 rfl
   have t2:=(Ae ha fu m' (by omega) (by omega)).1 rfl
   rw [run_ite,run_ite]
   dsimp only
   cases hk:(ae fu m a).1.known with
   | true =>
    rw [ia hk,hk]
    simp only [cond_true]
    rcases t1 hk with e | e
    ·rw [e]; exact ic
    ·rw [e]; exact ib
   | false =>
    simp only [cond_false]
    unfold oY
    rw [M9]
    cases hb:(ae fu m b).1.known with
    | false=>exact bu.unknown rfl
    | true =>
     cases hc:(ae fu m c).1.known with
     | false=>exact bu.unknown rfl
     | true =>
      cases he:((ae fu m b).1.n == (ae fu m c).1.n) with
      | false=>exact bu.unknown rfl
      | true =>
       have eb:=ib hb
       have ec:=ic hc
       have ebc:=Zd hb hc he
       simp only [Bool.and_self,cond_true,hb]
       cases XY:(ae fu m' a).1.known with
       | true =>
        simp only [cond_true]
        rcases t2 XY with e | e
        ·rw [e]
         show bu _ (ae fu m' c).1
         rw [ec,← ebc]; exact bu.rfl' _
        ·rw [e]
         show bu _ (ae fu m' b).1
         rw [eb]; exact bu.rfl' _
       | false =>
        simp only [cond_false]
        rw [M9,eb,ec,hb,hc,he]
        simp only [Bool.and_self,cond_true,hb]
        exact bu.rfl' _
 | _ =>
  intro fu m m' hm hd h8
  cases fu with
  | zero=>exact absurd hd (by simp [Term.depth,Term.eR])
  | succ fu =>
   rename_i a b _ _ Fb DF
   rw [Et] at hd h8
   rw [uV _ _ _ _ (by omega),uV _ _ _ _ (by omega)]
   exact B0 (SE (by omega) (Fb fu m m' hm (by omega) (by omega)) (DF fu m m' hm (by omega) (by omega)))
def Oe (l l':List aH):Prop:=l'.length=l.length∧∀ q:Nat,bu (l.getD q default) (l'.getD q default)
theorem Oe.rfl' (l:List aH):Oe l l:=⟨rfl,fun _=>bu.rfl' _⟩
theorem Oe.set {l l':List aH} (h:Oe l l') {x x':aH} (hx:bu x x') (i:Nat):Oe (l.set i x) (l'.set i x'):=by
 refine ⟨by simp [h.1],fun q=>?_⟩
 by_cases hi:i < l.length
 ·by_cases e:q=i
  ·subst e
   rw [oH l hi,oH l' (by rw [h.1]; exact hi)]
   exact hx
  ·rw [oI l e,oI l' e]
   exact h.2 q
 ·rw [List.set_eq_of_length_le (by omega),List.set_eq_of_length_le (by rw [h.1]; omega)]
  exact h.2 q
theorem Qx {α:Type} {R:α→α→Prop} (c:Bool) {x y x' y':α} (h1:R x x') (h2:R y y'):R (bif c then x else y) (bif c then x' else y'):=by cases c <;> assumption
theorem Jy {α β:Type} {R:α→α→Prop} (hR:∀ a,R a a) (x:α ⊕ β) {k k':β→α} (h:∀ b,R (k b) (k' b)):R (gI x k) (gI x k'):=by
 cases x with
 | inl a=>exact hR a
 | inr b=>exact h b
theorem Ve (s:List di) (v:fw):j4 s v=s.any (fun a=>decide (a.at_≤v.sign)):=by
 refine Bool.eq_iff_iff.2 (Iff.trans (sa s v) ?_)
 simp only [pE,List.any_eq_true]
 constructor
 ·rintro ⟨q,hq,e⟩; exact ⟨_,tK hq _,e⟩
 ·rintro ⟨x,hx,e⟩
  obtain ⟨i,hi,rfl⟩:=List.getElem_of_mem hx
  exact ⟨i,hi,by simpa [List.getD,hi] using e⟩
theorem Vf (r:ah) (f:al) (F:List Fact) (s h e due y y':Int) (hF:∀ k a,bu (bT f k a) (bT { f with facts:=F } k a)) :
  Oe (oW r ⟨f,s,h,e,due,y⟩) (oW r ⟨{ f with facts:=F },s,h,e,due,y'⟩):=by
 unfold oW j6
 simp only [Sk.iG,Sk.eQ,Sk.dh,Sk.cO,Sk.Ty,Sk.Tz,Sk.Mv,bg.A2,bg.Pq,bg.WK,bg.pq,gn.xS,kk,kp,fC,Ve,gL]
 refine Qx _ (Oe.rfl' _) (Qx _ (Oe.rfl' _) (Jy Oe.rfl' _ fun b=>Jy Oe.rfl' _ fun b2=>Jy Oe.rfl' _ fun b3=>?_))
 exact ((((Oe.set (Oe.rfl' _) (hF _ _) _).set (hF _ _) _).set (hF _ _) _).set (hF _ _) _).set (hF _ _) _
theorem Vg (t:Term) {l l':List aH} (h:∀ q:Nat,bu (l.getD q default) (l'.getD q default)):bu (kY t l) (kY t l'):=by
 have e:∀ l,kY t l=bif (xr t).2 != 0 then ⟨false,0⟩ else (mI ⟨l⟩ t).1:=fun l=>by kernel_rfl
 rw [e,e]
 cases hc:(xr t).2 != 0 with
 | true=>exact bu.rfl' _
 | false =>
  simp only [LN] at hc
  have hp:=FO t hc
  exact XB hp.1 _ _ _ h (Nat.le_refl _) hp.2
def findF (r:ah) (fo q:Int) (p:List Int) (l:List aH):lW × List aH :=
 bif (l.length:Int) == 0 then ((⟨⟨false,0⟩,-1,[],1⟩:lW),[]) else bif !(xm q).2 then (⟨⟨false,0⟩,-1,[],1⟩,[]) else
   bif p.isEmpty then ((⟨⟨false,0⟩,-1,[],1⟩:lW),[]) else (fun w:List Int × Int=>bif w.2 == 0 then ((⟨⟨false,0⟩,w.1.getD (au ((w.1.length:Int) - 1)).toNat default,w.1,w.2⟩:lW),l) else (⟨⟨false,0⟩,-1,w.1,w.2⟩,l)) (xo r fo q p)
theorem find_eq (r:ah) (fo q:Int) (c:fw):ny r fo q c=findF r fo q (qz r fo { c with file:=ai c.file c.day }) (oW r { c with file:=ai c.file c.day }):=by kernel_rfl
theorem SG (r:ah) (fo q:Int) (p:List Int) {l l':List aH} (h:Oe l l'):(findF r fo q p l').1=(findF r fo q p l).1∧Oe (findF r fo q p l).2 (findF r fo q p l').2:=by
 unfold findF
 rw [h.1]
 cases (l.length:Int) == 0 with
 | true=>exact ⟨rfl,Oe.rfl' _⟩
 | false =>
  cases !(xm q).2 with
  | true=>exact ⟨rfl,Oe.rfl' _⟩
  | false =>
   cases p.isEmpty with
   | true=>exact ⟨rfl,Oe.rfl' _⟩
   | false =>
    simp only [cond_false]
    cases (xo r fo q p).2 == 0 with
    | true=>exact ⟨rfl,h⟩
    | false=>exact ⟨rfl,h⟩
theorem Nu (r:ah) (fo:Int) (f:al) (F:List Fact) (s h d u y:Int):qz r fo ⟨{ f with facts:=F },s,h,d,u,y⟩=qz r fo ⟨f,s,h,d,u,y⟩:=by kernel_rfl
theorem Ap (f:al) (F:List Fact) (d:Int):ai { f with facts:=F } d = { ai f d with facts:=F.filter (fun x=>decide (x.at_≥0)&&decide (x.at_ < ((ai f d).af.length:Int))) }:=by
 rw [gE,gE]
def GR (kind at_:Int) (x:Fact) (s:Unit):aH ⊕ Unit:=bif (x.kind == kind)&&(x.at_ == at_) then .inl (bif x.n == 0 then ⟨true,0⟩ else ⟨true,1⟩) else .inr ()
theorem SH (f:al) (kind at_:Int):CO f kind at_=walk (GR kind at_) (fun _=>⟨false,0⟩) f.facts ():=by
 simp only [CO,rJ,Sk.dh,Sk.gd,Sk.iZ,Sk.eQ,Sk.iG,Sk.lU,Sk.cO,gn.xS,kk,kp]
 refine (eX f.facts (fun s i=>i) (GR kind at_) id _ (fun s i hi=>?_) (fun s=>?_) (by simp) ()).trans rfl
 ·rw [decide_eq_true (by omega),cond_true]
  unfold GR
  cases (((f.facts.getD i default).kind == kind)&&((f.facts.getD i default).at_ == at_)) with
  | false=>rfl
  | true=>cases (f.facts.getD i default).n == 0 <;> rfl
 ·rw [decide_eq_false (by omega),cond_false]
theorem Qy (b:Bool):sV b=bif b then ⟨true,1⟩ else ⟨true,0⟩:=by cases b <;> kernel_rfl
theorem Nv (f:al) (kind at_:Int):CO f kind at_=bT f kind at_:=by
 rw [SH,uR]
 congr 1
 funext x s
 unfold GR dX
 rw [Qy]
 cases hn:x.n == 0 with
 | true =>
  have:(x.n != 0)=false:=by simpa [bne] using hn
  rw [this]; rfl
 | false =>
  have:(x.n != 0)=true:=by simp [bne,hn]
  rw [this]; rfl
def vD (x y:Fact):Bool:=decide (y.at_ < x.at_)||((y.at_ == x.at_)&&decide (y.kind < x.kind))
def uo (x y:Fact):Bool:=decide (y.at_ > x.at_)||((y.at_ == x.at_)&&decide (y.kind > x.kind))
theorem Nw (f:al) (x:Fact):tQ f x=bif (bT f x.kind x.at_).known then f else { f with facts:=f.facts.filter (vD x)++[x]++f.facts.filter (uo x) }:=by
 rw [← Nv]
 simp only [tQ,rK,Sk.dh,Sk.gd,Sk.iZ,Sk.eQ,Sk.iG,Sk.lU,Sk.cO,gn.xS,kk,kp,Bw]
 congr 1
 refine (eX f.facts (fun s i=>(s,i)) (fun y s=>.inr (bif vD x y then s++[y] else s)) id _ (fun s i hi=>?_) (fun s=>?_) (by simp) []).trans ?_
 ·have e:decide ((i:Int) < (f.facts.length:Int))=true:=decide_eq_true (by omega)
  simp only [e,cond_true]
  unfold vD
  cases (decide ((f.facts.getD i default).at_ < x.at_)||(((f.facts.getD i default).at_ == x.at_)&&decide ((f.facts.getD i default).kind < x.kind))) <;> rfl
 ·have e:decide ((f.facts.length:Int) < (f.facts.length:Int))=false:=decide_eq_false (by omega)
  simp only [e,cond_false]; rfl
 ·rw [j1,oU]
  simp only [id,List.nil_append]
  refine (eX f.facts (fun s i=>(s,i)) (fun y s=>.inr (bif uo x y then s++[y] else s)) id _ (fun s i hi=>?_) (fun s=>?_) (by simp) _).trans ?_
  ·have e:decide ((i:Int) < (f.facts.length:Int))=true:=decide_eq_true (by omega)
   simp only [e,cond_true]
   unfold uo
   cases (decide ((f.facts.getD i default).at_ > x.at_)||(((f.facts.getD i default).at_ == x.at_)&&decide ((f.facts.getD i default).kind > x.kind))) <;> rfl
  ·have e:decide ((f.facts.length:Int) < (f.facts.length:Int))=false:=decide_eq_false (by omega)
   simp only [e,cond_false]; rfl
  ·rw [j1,oU]; rfl
theorem oZ {α σ β:Type} (step:α→σ→β ⊕ σ) (fin:σ→β):∀ {l:List α},(∀ y,y∈l→∀ s,step y s=.inr s)→∀ s,walk step fin l s=fin s
 | [],_,_=>rfl
 | y :: r,h,s=>by
  unfold walk
  rw [h y (by simp)]
  exact oZ step fin (fun z hz=>h z (by simp [hz])) s
theorem Vh {p q:Fact→Bool} {k a:Int} (x:Fact) (f:List Fact) (hx:(walk (dX x.kind x.at_) (fun _=>(⟨false,0⟩:aH)) f ()).known=false)
  (hp:p=vD x) (hq:q=uo x):bu (walk (dX k a) (fun _=>⟨false,0⟩) f ()) (walk (dX k a) (fun _=>⟨false,0⟩) (f.filter p++[x]++f.filter q) ()):=by
 subst hp; subst hq
 by_cases h:x.kind=k∧x.at_=a
 ·rw [h.1,h.2] at hx
  intro hk
  rw [hx] at hk
  exact absurd hk (by decide)
 ·have hsx:∀ s,dX k a x s=.inr s:=fun s=>by
   unfold dX
   have:((x.kind == k)&&(x.at_ == a))=false:=by
    simp only [LN]
    by_cases c:x.kind=k
    ·exact .inr (fun e=>h ⟨c,e⟩)
    ·exact .inl c
   rw [this]; rfl
  have TW:∀ (y:Fact) (s:Unit),(y.kind=k→y.at_=a→False)→dX k a y s=.inr s:=fun y s hy=>by
   unfold dX
   have:((y.kind == k)&&(y.at_ == a))=false:=by
    simp only [LN]
    by_cases c:y.kind=k
    ·exact .inr (fun e=>hy c e)
    ·exact .inl c
   rw [this]; rfl
  have e:walk (dX k a) (fun _=>(⟨false,0⟩:aH)) (f.filter (vD x)++[x]++f.filter (uo x)) ()=walk (dX k a) (fun _=>⟨false,0⟩) f ():=by
   rw [List.append_assoc,yP]
   by_cases c:a < x.at_∨(a=x.at_∧k < x.kind)
   ·rw [show (fun s=>walk (dX k a) (fun _=>(⟨false,0⟩:aH)) ([x]++f.filter (uo x)) s)=fun _=>⟨false,0⟩ from funext fun s=>by
     refine oZ _ _ (fun y hy s=>?_) s
     rcases List.mem_append.1 hy with hy | hy
     ·simp only [List.mem_singleton] at hy
      subst hy
      exact hsx s
     ·have:=(List.mem_filter.1 hy).2
      unfold uo at this
      simp only [LN] at this
      exact TW y s (fun e1 e2=>by omega)]
    refine rL _ _ _ _ (fun y s hy=>TW y s (fun e1 e2=>?_)) ()
    unfold vD at hy
    simp only [LN] at hy
    omega
   ·rw [oZ _ _ (fun y hy s=>?_)]
    ·show walk _ _ ([x]++_) ()=_
     rw [yP,oZ _ _ (fun y hy s=>?_)]
     ·refine rL _ _ _ _ (fun y s hy=>TW y s (fun e1 e2=>?_)) ()
      unfold uo at hy
      simp only [LN] at hy
      omega
     ·simp only [List.mem_singleton] at hy
      subst hy
      exact hsx s
    ·have:=(List.mem_filter.1 hy).2
     unfold vD at this
     simp only [LN] at this
     exact TW y s (fun e1 e2=>by omega)
  rw [e]
  exact bu.rfl' _
theorem SI (f:al) (x:Fact) (k a:Int):bu (bT f k a) (bT (tQ f x) k a):=by
 rw [Nw]
 cases h:(bT f x.kind x.at_).known with
 | true=>exact bu.rfl' _
 | false =>
  rw [cond_false,uR,uR]
  rw [uR] at h
  exact Vh x f.facts h rfl rfl
theorem B1 (r:ah) (fo q:Int) (f:al) (F:List Fact) (y:Int):rP r fo q { f with facts:=F } y=rP r fo q f y:=rfl
theorem Jz (f:al) (F:List Fact):lY { f with facts:=F }=lY f:=by kernel_rfl
theorem qa (r:ah) (fo:Int) (f:al) (F:List Fact) (d:Int):cb r fo { f with facts:=F } d=cb r fo f d:=by
 rw [Fh,Fh,Ap f F d,B1,Jz]
theorem Qz {f:al} {F:List Fact} (y:Int) (h:∀ k a,bu (bT f k a) (bT { f with facts:=F } k a)):∀ k a,bu (bT (ai f y) k a) (bT (ai { f with facts:=F } y) k a):=by
 intro k a
 by_cases c:0≤a∧a < (ai f y).af.length
 ·rw [TH f y k a c,TH { f with facts:=F } y k a (by rw [Ap f F]; exact c)]
  exact h k a
 ·refine bu.unknown ?_
  rw [uR]
  rw [oZ _ _ (fun x hx s=>?_)]
  rw [gE] at hx c
  dsimp only at hx c
  have:=(List.mem_filter.1 hx).2
  simp only [LN] at this
  unfold dX
  have e:(x.at_ == a)=false:=by
   simp only [LN]
   intro e
   subst e
   exact c ⟨this.1,this.2⟩
  rw [e,Bool.and_false,cond_false]
def JA (f g:al):Prop:=∃ F,g = { f with facts:=F }∧∀ k a,bu (bT f k a) (bT { f with facts:=F } k a)
theorem JA.refl (f:al):JA f f:=⟨f.facts,rfl,fun _ _=>bu.rfl' _⟩
theorem bu.trans' {a b c:aH} (h:bu a b) (h2:bu b c):bu a c:=fun hk=>by
 have e:=h hk
 rw [h2 (by rw [e]; exact hk),e]
theorem SJ (f:al) (x:Fact):∃ F,tQ f x = { f with facts:=F }:=by
 rw [Nw]
 cases (bT f x.kind x.at_).known with
 | true=>exact ⟨f.facts,rfl⟩
 | false=>exact ⟨_,rfl⟩
theorem JB {x:Fact}:∀ (l:List Fact),(l.filter (vD x)).length+(l.filter (uo x)).length≤l.length
 | []=>by simp
 | y :: l=>by
  have ih:=JB (x:=x) l
  have hd:vD x y=true→uo x y=true→False:=by
   unfold vD uo
   simp only [LN]
   omega
  simp only [List.filter_cons]
  split <;> split <;> simp only [List.length_cons] <;> first | omega | (exfalso; apply hd <;> assumption)
theorem QA (f:al) (x:Fact):(tQ f x).facts.length≤f.facts.length+1:=by
 rw [Nw]
 cases (bT f x.kind x.at_).known with
 | true=>exact Nat.le_succ _
 | false =>
  have:=JB (x:=x) f.facts
  simp only [cond_false,List.length_append,List.length_cons,List.length_nil]
  omega
theorem JA.step {f g:al} (h:JA f g) (x:Fact):JA f (tQ g x):=by
 obtain ⟨F,rfl,hF⟩:=h
 obtain ⟨G,hG⟩:=SJ { f with facts:=F } x
 refine ⟨G,hG,fun k a=>(hF k a).trans' ?_⟩
 have:=SI { f with facts:=F } x k a
 rw [hG] at this
 exact this
def mU (a b:Int):Prop:=a≠2→b=a
theorem mU.rfl' (a:Int):mU a a:=fun _=>rfl
theorem mU.op {a b:Int} (h:a=2):mU a b:=fun k=>absurd h k
def SLe (a b:lW):Prop:=b=a∨(a.err=0∧a.cell.known=false)
theorem QB (o:Order) (q:Int) {l l':List aH} (h:∀ q:Nat,bu (l.getD q default) (l'.getD q default)):ji o q l'=ji o q l∨((ji o q l).2=0∧(ji o q l).1.known=false):=by
 have e:∀ l,ji o q l=bif (gZ o q).2 != 0 then (⟨false,0⟩,(gZ o q).2) else
  bif (xm q).1 == 0&&(kY (gZ o q).1 l).known then (⟨(kY (gZ o q).1 l).known,bL (cg (kY (gZ o q).1 l).n 0) 20000⟩,0) else (kY (gZ o q).1 l,0):=fun l=>by kernel_rfl
 rw [e,e]
 have hm:=Vg (gZ o q).1 h
 cases (gZ o q).2 != 0 with
 | true=>exact .inl rfl
 | false =>
  simp only [cond_false]
  generalize kY (gZ o q).1 l=x at hm ⊢
  generalize kY (gZ o q).1 l'=x' at hm ⊢
  cases hk:x.known with
  | true=>rw [hm hk]; exact .inl (by rw [hk])
  | false=>rw [Bool.and_false,cond_false]; exact .inr ⟨rfl,hk⟩
def ta (f:al) (F:List Fact):Prop:=∀ k a,bu (bT f k a) (bT { f with facts:=F } k a)
theorem zK (r:ah) (fo q:Int) {f:al} {F:List Fact} (s h e due y:Int) (hm:ta f F) :
  SLe (qZ r fo q ⟨f,s,h,e,due,y⟩) (qZ r fo q ⟨{ f with facts:=F },s,h,e,due,y⟩):=by
 have hF:=Qz y hm
 unfold SLe
 rw [Xn,Xn,find_eq,find_eq]
 dsimp only
 rw [Ap f F y] at hF ⊢
 rw [Nu r fo (ai f y)]
 have hv:=Vf r (ai f y) _ s h e due y y hF
 obtain ⟨h1,h2⟩:=SG r fo q (qz r fo ⟨ai f y,s,h,e,due,y⟩) hv
 rw [h1]
 generalize (findF r fo q (qz r fo ⟨ai f y,s,h,e,due,y⟩) (oW r ⟨ai f y,s,h,e,due,y⟩))=w at h2 ⊢
 cases w.1.order != -1 with
 | true =>
  rw [cond_true,cond_true]
  rcases QB (r.aE.getD w.1.order.toNat default) q h2.2 with k | k
  ·rw [k]; exact .inl (Eq.refl _)
  ·exact .inr k
 | false =>
  rw [cond_false,cond_false]
  exact .inl (Eq.refl _)
theorem QC {a:lW} (h:a.err=0∧a.cell.known=false):iA a=2:=by
 have e:iA a=bif a.err != 0 then 0 else bif !a.cell.known then 2 else bif a.cell.n != 0 then 1 else 0:=by kernel_rfl
 rw [e,h.1,h.2]; rfl
theorem SLe.tri {a b:lW} (h:SLe a b):mU (iA a) (iA b):=by
 rcases h with h | h
 ·rw [h]; exact mU.rfl' _
 ·exact .op (QC h)
def sF (f:al) (F:List Fact) (d:Int):List Fact:=F.filter (fun x=>decide (x.at_≥0)&&decide (x.at_ < ((ai f d).af.length:Int)))
theorem Gs (f:al) (F:List Fact) (d:Int):ai { f with facts:=F } d = { ai f d with facts:=sF f F d }:=Ap f F d
theorem ta.at {f:al} {F:List Fact} (h:ta f F) (d:Int):ta (ai f d) (sF f F d):=by
 have:=Qz d h
 rw [Gs f F d] at this
 exact this
def vF (v:cy) (F:List Fact):cy:={ v with f:={ v.f with facts:=F } }
theorem wJ {v:cy} {F:List Fact} (h:ta v.f F) (q:Int):SLe (bw v q) (bw (vF v F) q):=by
 have e:∀ v,bw v q=qZ v.r v.forum q ⟨v.f,v.sign,v.sign,-1,v.due,v.day⟩:=fun v=>by kernel_rfl
 rw [e,e]
 exact zK v.r v.forum q v.sign v.sign (-1) v.due v.day h
theorem Nx (v:cy) (a:lW) (fr:Int):cp v a fr=bif a.err != 0 then ⟨true,9223372036854775807⟩ else bif !a.cell.known then ⟨false,0⟩ else bif (vu (v.r.aI.getD v.f.aR.yo.toNat default) fr a.cell.n).2 != 0 then ⟨true,9223372036854775807⟩ else ⟨true,(vu (v.r.aI.getD v.f.aR.yo.toNat default) fr a.cell.n).1⟩:=by kernel_rfl
theorem Ny (v:cy) (F:List Fact) (a:lW) (fr:Int):cp (vF v F) a fr=cp v a fr:=by rw [Nx,Nx]; rfl
theorem ES (v:cy) {a:lW} (h:a.err=0∧a.cell.known=false) (fr:Int):cp v a fr=⟨false,0⟩:=by rw [Nx,h.1,h.2]; rfl
theorem ET (v:cy) (on:Int) (t:qj):cx v on t=bif !t.known then 2 else bif (on != (-1))&&(decide (on≤t.last)) then 1 else bif (on != (-1))||(decide (v.day > t.last)) then 0 else 2:=by kernel_rfl
theorem EU (v:cy) (F:List Fact) (on:Int) (t:qj):cx (vF v F) on t=cx v on t:=by rw [ET,ET]; rfl
theorem QD (v:cy) (F:List Fact) (k fr:Int):dq (vF v F) k fr=dq v k fr:=by kernel_rfl
theorem SK (v:cy) (F:List Fact):cP (vF v F)=cP v:=by kernel_rfl
theorem Dy (v:cy) (F:List Fact):bC (vF v F)=bC v:=by kernel_rfl
theorem Ze (v:cy) (F:List Fact):fq (vF v F)=fq v:=by
 have e:∀ v,fq v=(fun x1:lW=>bif x1.err != 0 then (⟨true,9223372036854775807⟩:qj) else bif !x1.cell.known then ⟨false,0⟩ else bif decide ((au (v.f.aR.day+x1.cell.n)) > 100000) then ⟨true,9223372036854775807⟩ else ⟨true,au (v.f.aR.day+x1.cell.n)⟩) (rP v.r v.forum 7 v.f v.day):=fun v=>by kernel_rfl
 rw [e,e]
 rw [show rP (vF v F).r (vF v F).forum 7 (vF v F).f (vF v F).day=rP v.r v.forum 7 v.f v.day from B1 v.r v.forum 7 v.f F v.day]
 rfl
theorem JC (l:List Int):cW l=if (0:Int)∈l then 0 else if (2:Int)∈l then 2 else 1:=by
 have e:cW l=bif bD l 0 then 0 else bif bD l 2 then 2 else 1:=by kernel_rfl
 rw [e]
 have h0:=contains_iff l 0
 have h2:=contains_iff l 2
 by_cases a:(0:Int)∈l
 ·rw [if_pos a,h0.2 a]; rfl
 ·rw [if_neg a,Bool.eq_false_iff.2 (fun x=>a (h0.1 x))]
  by_cases b:(2:Int)∈l
  ·rw [if_pos b,h2.2 b]; rfl
  ·rw [if_neg b,Bool.eq_false_iff.2 (fun x=>b (h2.1 x))]; rfl
theorem GS {a a' b b' c c':Int} (ha:mU a a') (hb:mU b b') (hc:mU c c'):mU (cW [a,b,c]) (cW [a',b',c']):=by
 unfold mU at *
 rw [JC,JC]
 simp only [List.mem_cons,List.not_mem_nil,or_false]
 intro k
 by_cases z:0=a∨0=b∨0=c
 ·have z':0=a'∨0=b'∨0=c':=by
   rcases z with z | z | z
   ·exact .inl (by rw [ha (by omega)]; exact z)
   ·exact .inr (.inl (by rw [hb (by omega)]; exact z))
   ·exact .inr (.inr (by rw [hc (by omega)]; exact z))
  rw [if_pos z,if_pos z']
 ·rw [if_neg z] at k ⊢
  by_cases t:2=a∨2=b∨2=c
  ·rw [if_pos t] at k; exact absurd rfl k
  ·rw [ha (by omega),hb (by omega),hc (by omega),if_neg z]
theorem Zf {a b b':Int} (hb:mU b b'):mU (cW [a,b]) (cW [a,b']):=by
 have e:∀ b,cW [a,b]=cW [a,a,b]:=fun b=>by rw [JC,JC]; simp
 rw [e,e]
 exact GS (mU.rfl' _) (mU.rfl' _) hb
def QE (k0 rf du:Bool) (t1 b5 t2:Int):Int:=bif k0 then t1 else bif rf then b5 else bif du then cW [b5,2] else cW [b5,t2]
theorem Dz (v:cy):cX v=QE (v.f.aR.cR.kind == 0) (cP v != (-1)) (v.due == (-1)) (cx v (dq v 2 0) (fq v)) (bif v.f.aR.cR.kind == 1 then cx v (lY v.f) (fq v) else 1) (cx v (dq v 2 v.due) (cp v (bw v 10) v.due)):=by
 unfold cX db QE
 dsimp +instances only [Sk.dh,Sk.eQ,Sk.iG,Sk.cO,gn.xS,kk,kp,bg.A2,bg.pq,dH,iD,eM,nA,ed,gw,aY,bK]
 cases v.f.aR.cR.kind == 0 <;> cases v.f.aR.cR.kind == 1 <;> rfl
theorem DA {v:cy} {F:List Fact} (h:ta v.f F):mU (cX v) (cX (vF v F)):=by
 rw [Dz,Dz,SK,Ze,QD,QD,EU,EU,EU,show lY (vF v F).f=lY v.f from Jz v.f F]
 have ht:mU (cx v (dq v 2 v.due) (cp v (bw v 10) v.due)) (cx v (dq v 2 v.due) (cp (vF v F) (bw (vF v F) 10) v.due)):=by
  rcases wJ h 10 with e | e
  ·rw [e,Ny]; exact mU.rfl' _
  ·rw [ES v e]; exact .op (by rw [ET]; rfl)
 show mU (QE (v.f.aR.cR.kind == 0) (cP v != (-1)) (v.due == (-1)) _ _ _) (QE (v.f.aR.cR.kind == 0) (cP v != (-1)) (v.due == (-1)) _ _ _)
 unfold QE
 cases v.f.aR.cR.kind == 0 with
 | true=>rw [cond_true,cond_true]; exact mU.rfl' _
 | false =>
  rw [cond_false,cond_false]
  cases cP v != (-1) with
  | true=>rw [cond_true,cond_true]; exact mU.rfl' _
  | false =>
   rw [cond_false,cond_false]
   cases v.due == (-1) with
   | true=>rw [cond_true,cond_true]; exact mU.rfl' _
   | false=>rw [cond_false,cond_false]; exact Zf ht
def DB (P:bh→Bool) (t:Int) (a:bh) (s:Int):Int ⊕ Int:=bif P a then .inr s else bif a.form == 1 then (bif t == 1 then .inl 1 else bif t == 2 then .inr 2 else .inr s) else .inl 1
def sG (P:bh→Bool) (t:Int) (l:List bh) (s:Int):Int:=walk (DB P t) (fun s=>s) l s
theorem xM (P:bh→Bool) (t:Int) (a:bh) (l:List bh) (s:Int):sG P t (a :: l) s=bif P a then sG P t l s else bif a.form == 1 then (bif t == 1 then 1 else bif t == 2 then sG P t l 2 else sG P t l s) else 1:=by
 unfold sG
 simp only [walk]
 unfold DB
 cases P a <;> cases a.form == 1 <;> cases t == 1 <;> cases t == 2 <;> rfl
theorem zL (P:bh→Bool) (t:Int):∀ (l:List bh) (s:Int),sG P 2 l 2=1→sG P t l s=1
 | [],s,h=>absurd (show (2:Int)=1 from h) (by decide)
 | a :: l,s,h=>by
  rw [xM] at h ⊢
  cases hp:P a with
  | true=>rw [hp] at h; exact zL P t l s h
  | false =>
   rw [hp] at h
   cases hq:a.form == 1 with
   | false=>rfl
   | true =>
    rw [hq] at h
    have h:=show sG P 2 l 2=1 from h
    cases t == 1 with
    | true=>rfl
    | false =>
     cases t == 2 with
     | true=>exact zL P t l 2 h
     | false=>exact zL P t l s h
theorem JD (P:bh→Bool):∀ (l:List bh),sG P 2 l 2≠2→sG P 2 l 2=1
 | [],h=>absurd rfl h
 | a :: l,h=>by
  rw [xM] at h ⊢
  cases hp:P a with
  | true=>rw [hp] at h; exact JD P l h
  | false =>
   rw [hp] at h
   cases hq:a.form == 1 with
   | false=>rfl
   | true=>rw [hq] at h; exact JD P l h
theorem TX (P:bh→Bool) (t:Int):∀ (l:List bh) (s:Int),mU (sG P 2 l s) (sG P t l s)
 | [],s=>mU.rfl' _
 | a :: l,s=>by
  rw [xM,xM]
  cases P a with
  | true=>exact TX P t l s
  | false =>
   cases a.form == 1 with
   | false=>exact mU.rfl' _
   | true =>
    intro h
    have h:=show sG P 2 l 2≠2 from h
    have h1:=JD P l h
    refine Eq.trans ?_ (show (1:Int)=sG P 2 l 2 from h1.symm)
    cases t == 1 with
    | true=>rfl
    | false =>
     cases t == 2 with
     | true=>exact zL P t l 2 h1
     | false=>exact zL P t l s h1
theorem DC (v:cy):cY v=(fun p:qj=>bif !p.known then 2 else sG (fun a=>(((a.kind != 4)||(a.cj != v.f.aR.na))||(decide (a.day < bC v)))||(decide (a.day > p.last))) (iA (bw v 9)) v.f.aA (bif decide (v.day≤p.last) then 2 else 0)) (cp v (bw v 10) (bC v)):=by
 unfold cY dc
 dsimp +instances only [Sk.dh,Sk.gd,Sk.iZ,Sk.eQ,Sk.iG,Sk.lU,Sk.cO,gn.xS,kk,kp,bg.A2,cw,bK,aY,fp]
 generalize cp v (bw v 10) (bC v)=p
 generalize iA (bw v 9)=t
 cases p.known with
 | false=>rfl
 | true =>
  have key:∀ (s0:Int) (d:Int ⊕ Int),gI (iter (fun i6:Int × Nat=>bif decide ((i6.2:Int) < ((v.f.aA.length:Nat):Int)) then
    bif ((((((v.f.aA.getD i6.2 default).kind) != 4)||(((v.f.aA.getD i6.2 default).cj) != v.f.aR.na))||(decide (((v.f.aA.getD i6.2 default).day) < bC v)))||(decide (((v.f.aA.getD i6.2 default).day) > p.last))) then Sum.inr (i6.1,i6.2+1) else
    gI (bif ((v.f.aA.getD i6.2 default).form) == 1 then (Sum.inr t:((Int ⊕ Int) ⊕ (Int × Nat)) ⊕ Int) else Sum.inr 1) fun b7=>bif b7 == 1 then Sum.inl (Sum.inl 1) else bif b7 == 2 then Sum.inr (2,i6.2+1) else Sum.inr (i6.1,i6.2+1)
    else Sum.inl (Sum.inr i6.1)) d (v.f.aA.length - 0+1) (s0,0)) (fun b=>b)=sG (fun a=>(((a.kind != 4)||(a.cj != v.f.aR.na))||(decide (a.day < bC v)))||(decide (a.day > p.last))) t v.f.aA s0:=by
   intro s0 d
   refine eX v.f.aA (fun s i=>(s,i)) (DB (fun a=>(((a.kind != 4)||(a.cj != v.f.aR.na))||(decide (a.day < bC v)))||(decide (a.day > p.last))) t) (fun s=>s) (fun b=>b) (fun s i hi=>?_) (fun s=>?_) (by omega) s0
   ·dsimp only
    rw [decide_eq_true (by omega),cond_true]
    unfold DB
    dsimp only
    cases ((((((v.f.aA.getD i default).kind) != 4)||(((v.f.aA.getD i default).cj) != v.f.aR.na))||(decide (((v.f.aA.getD i default).day) < bC v)))||(decide (((v.f.aA.getD i default).day) > p.last))) with
    | true=>rfl
    | false =>
     cases ((v.f.aA.getD i default).form) == 1 with
     | false=>rfl
     | true=>simp only [cond_true,cond_false,gI]; cases t == 1 <;> cases t == 2 <;> rfl
   ·dsimp only
    rw [decide_eq_false (by omega),cond_false]
  cases decide (v.day≤p.last) with
  | true=>exact key 2 _
  | false=>exact key 0 _
theorem Nz {v:cy} {F:List Fact} (h:ta v.f F):mU (cY v) (cY (vF v F)):=by
 rw [DC,DC,Dy]
 rcases wJ h 10 with e | e
 ·rw [e,Ny]
  generalize cp v (bw v 10) (bC v)=p
  cases hp:p.known with
  | false=>exact .op (by dsimp only; rw [hp]; rfl)
  | true =>
   dsimp only
   rw [hp,Bool.not_true,cond_false,cond_false]
   rcases wJ h 9 with e9 | e9
   ·rw [e9]; exact mU.rfl' _
   ·rw [QC e9]; exact TX _ _ _ _
 ·exact .op (by rw [ES v e]; rfl)
theorem LO {s s':lW} {a a':Int} (h:mU (iA s) (iA s')) (ha:mU a a'):mU (gV s a) (gV s' a'):=by
 have e:∀ s a,gV s a=bif (iA s == 0)||(a == 1) then 1 else bif iA s == 2 then 2 else a:=fun s a=>by kernel_rfl
 rw [e,e]
 generalize iA s=t at h
 generalize iA s'=t' at h
 intro k
 by_cases c:t=0∨a=1
 ·have c':t'=0∨a'=1:=by
   rcases c with c | c
   ·exact .inl (by rw [h (by omega)]; exact c)
   ·exact .inr (by rw [ha (by omega)]; exact c)
  rw [show ((t == 0)||(a == 1))=true by simpa using c,show ((t' == 0)||(a' == 1))=true by simpa using c']; rfl
 ·have cf:((t == 0)||(a == 1))=false:=by simpa using c
  rw [cf,cond_false] at k
  by_cases t2:t=2
  ·rw [t2] at k; exact absurd rfl k
  ·rw [show (t == 2)=false by simpa using t2,cond_false] at k
   rw [h t2,ha k]
theorem QF {v:cy} {F:List Fact} (h:ta v.f F):mU (df v) (df (vF v F)):=by
 rcases wJ h 12 with e | e
 ·intro _
  unfold df cM
  dsimp +instances only [Sk.dh,Sk.gd,Sk.iZ,Sk.eQ,Sk.iG,Sk.lU,Sk.cO,gn.xS,kk,kp,bg.Pq,cw,bK,aY]
  rw [e,Dy]
  simp only [Ny]
  rfl
 ·refine .op ?_
  unfold df cM
  dsimp +instances only [Sk.dh,Sk.gd,Sk.iZ,Sk.eQ,Sk.iG,Sk.lU,Sk.cO,gn.xS,kk,kp,bg.Pq,cw,bK,aY]
  rw [ES v e]
  rfl
theorem QG (r:ah) (fo:Int) (f:al) (s d:Int):(il r fo f s d).all=(fun v:cy=>bif (decide (s < 0))||(decide (s≥((v.f.af.length:Nat):Int))) then 0 else cW [cX v,bif v.due != (-1) then gV (bw v 8) (cY v) else 2,bif v.due != (-1) then gV (bw v 11) (df v) else 2]) (fj r fo f s d):=by
 unfold il jv
 dsimp +instances only [Sk.dh,Sk.eQ,Sk.iG,Sk.cO,gn.xS,kk,kp,bg.A2,bg.pq,qL,ig,aY,ij,kK,iK,gw]
 generalize fj r fo f s d=v
 cases (decide (s < 0))||(decide (s≥((v.f.af.length:Nat):Int))) <;> cases v.due != (-1) <;> rfl
theorem aa4 (r:ah) (fo:Int) (f:al) (F:List Fact) (s d:Int):fj r fo { f with facts:=F } s d=vF (fj r fo f s d) (sF f F d):=by
 have e:∀ f,fj r fo f s d=⟨r,fo,ai f d,s,d,cb r fo f d⟩:=fun f=>by kernel_rfl
 rw [e,e,Gs,qa]; rfl
theorem Zg (r:ah) (fo:Int) {f:al} {F:List Fact} (s d:Int) (h:ta f F):mU (il r fo f s d).all (il r fo { f with facts:=F } s d).all:=by
 rw [QG,QG,aa4 r fo f F s d]
 have hv:ta (fj r fo f s d).f (sF f F d):=by
  rw [show (fj r fo f s d).f=ai f d from by kernel_rfl]
  exact h.at d
 generalize fj r fo f s d=v at hv ⊢
 dsimp only
 rw [show (vF v (sF f F d)).f.af.length=v.f.af.length from rfl,show (vF v (sF f F d)).due=v.due from rfl]
 cases (decide (s < 0))||(decide (s≥((v.f.af.length:Nat):Int))) with
 | true=>rw [cond_true,cond_true]; exact mU.rfl' _
 | false =>
  rw [cond_false,cond_false]
  cases v.due != (-1) with
  | true=>simp only [cond_true]; exact GS (DA hv) (LO (wJ hv 8).tri (Nz hv)) (LO (wJ hv 11).tri (QF hv))
  | false=>simp only [cond_false]; exact GS (DA hv) (mU.rfl' _) (mU.rfl' _)
def bF (v:kT) (F:List Fact):kT:={ v with f:={ v.f with facts:=F } }
theorem JE {v:kT} {F:List Fact} (h:ta v.f F) (q s:Int):mU (dZ v q s) (dZ (bF v F) q s):=by
 have e:∀ v,dZ v q s=iA (qZ v.r v.forum q ⟨v.f,s,s,-1,v.due,v.day⟩):=fun v=>by kernel_rfl
 rw [e,e]
 exact (zK v.r v.forum q s s (-1) v.due v.day h).tri
theorem Zh (v:kT) (s:Int):dn v s=bif !(v.f.aN.foldl (fun b a=>b||decide (a.at_ > s)) false) then (0,kx v.f s) else
  (fun x4:Int=>bif x4 == 1 then (x4,(v.f.aN.getD ((au (((v.f.aN.length:Nat):Int) - 1)).toNat) default).sum) else bif x4 == 2 then (x4,bL (kx v.f s) ((v.f.aN.getD ((au (((v.f.aN.length:Nat):Int) - 1)).toNat) default).sum)) else (x4,kx v.f s)) (dZ v 4 s):=by
 unfold dn fg
 dsimp +instances only [Sk.dh,Sk.gd,Sk.iZ,Sk.eQ,Sk.iG,Sk.lU,Sk.cO,gn.xS,kk,kp,ri,dF]
 refine (eX v.f.aN (fun s i=>(s,i)) (fun a b=>.inr (b||decide (a.at_ > s))) (fun b=>b) _ (fun b i hi=>?_) (fun b=>?_) (by omega) false).trans ?_
 ·dsimp only
  rw [decide_eq_true (by omega),cond_true]
 ·dsimp only
  rw [decide_eq_false (by omega),cond_false]
 ·rw [j1]
def TY (b:Bool) (x y a:Int):Int × Int:=bif !b then (0,x) else bif a == 1 then (a,y) else bif a == 2 then (a,bL x y) else (a,x)
theorem XC (c:Bool) (x y:Int) {a b:Int} (hs:mU a b):(TY c x y a).2≤(TY c x y b).2:=by
 unfold TY
 cases !c with
 | true=>exact Int.le_refl _
 | false =>
  rw [cond_false,cond_false]
  by_cases k:a=2
  ·subst k
   show bL x y≤_
   have h1:bL x y≤x:=by unfold bL; split <;> omega
   have h2:bL x y≤y:=by unfold bL; split <;> omega
   cases h1':b == 1 with
   | true=>exact h2
   | false =>
    rw [cond_false]
    cases b == 2 with
    | true=>exact Int.le_refl _
    | false=>exact h1
  ·rw [hs k]; exact Int.le_refl _
theorem Zi {v:kT} {F:List Fact} (h:ta v.f F) (s:Int):(dn v s).2≤(dn (bF v F) s).2:=by
 have e:∀ v,dn v s=TY (v.f.aN.foldl (fun b a=>b||decide (a.at_ > s)) false) (kx v.f s) (v.f.aN.getD ((au (((v.f.aN.length:Nat):Int) - 1)).toNat) default).sum (dZ v 4 s):=fun v=>Zh v s
 have e2:kx (bF v F).f s=kx v.f s:=by kernel_rfl
 rw [e,e,e2]
 exact XC _ _ _ (JE h 4 s)
theorem XD (f:al) (F:List Fact) (s d:Int):jm { f with facts:=F } s d=jm f s d:=by kernel_rfl
theorem Aq (v:kT) (s:Int):bR v s = { sign:=s,kind:=(v.f.af.getD s.toNat default).kind,fA:=(v.f.af.getD s.toNat default).dt,binds:=bif !(jm v.f s v.day) then bind_join [v.form,dZ v 1 s,dZ v 2 s] else 0,text:=(dn v s).1,sum:=bif (((v.f.af.getD s.toNat default).kind) == 1)||(((v.f.af.getD s.toNat default).kind) == 4) then bL (dn v s).2 ((v.f.af.getD s.toNat default).sum) else (dn v s).2,eI:=(((v.f.af.getD s.toNat default).kind) != 1)&&((dP .i64 ((v.f.af.getD s.toNat default).flags) 1) == 0) }:=by
 unfold bR dT
 dsimp +instances only [Sk.dh,Sk.eQ,Sk.iG,Sk.cO,gn.xS,kk,kp,bg.A2,bg.pq,pS,dF,oK,mN]
 cases jm v.f s v.day <;> cases (((v.f.af.getD s.toNat default).kind) == 1)||(((v.f.af.getD s.toNat default).kind) == 4) <;> rfl
theorem Z6:∀ (l:List Int) (o:Int),jn l o=if (0:Int)∈l then 0 else if (2:Int)∈l then 2 else o
 | [],o=>by simp [jn]
 | x :: r,o=>by
  simp only [jn,Z6 r,List.mem_cons]
  by_cases h0:x=0
  ·simp [h0]
  ·by_cases h2:x=2
   ·subst h2; simp
   ·have a:¬ (0:Int)=x:=fun e=>h0 e.symm
    have b:¬ (2:Int)=x:=fun e=>h2 e.symm
    simp [h0,h2,a,b]
def NA (st:Bool) (a b c:Int):Int:=bif !st then bind_join [a,b,c] else 0
theorem Vi (st:Bool) (a:Int) {b b' c c':Int} (hb:mU b b') (hc:mU c c'):mU (NA st a b c) (NA st a b' c'):=by
 have e:∀ l,bind_join l=cW l:=fun l=>by rw [show bind_join l=jn l 1 from HV l,Z6,JC]
 unfold NA
 cases st with
 | true=>rw [Bool.not_true,cond_false,cond_false]; exact mU.rfl' _
 | false =>
  rw [Bool.not_false,cond_true,cond_true,e,e]
  exact GS (mU.rfl' _) hb hc
theorem NB {v:kT} {F:List Fact} (h:ta v.f F) (s:Int):mU (bR v s).binds (bR (bF v F) s).binds:=by
 have e:∀ v,(bR v s).binds=NA (jm v.f s v.day) v.form (dZ v 1 s) (dZ v 2 s):=fun v=>congrArg cC.binds (Aq v s)
 have e2:jm (bF v F).f s (bF v F).day=jm v.f s v.day:=XD v.f F s v.day
 rw [e,e,e2]
 exact Vi _ v.form (JE h 1 s) (JE h 2 s)
theorem SL {v:kT} {F:List Fact} (h:ta v.f F) (s:Int):(bR v s).sum≤(bR (bF v F) s).sum:=by
 have e:∀ v,(bR v s).sum=(fun (k:Bool) (t x:Int)=>bif k then bL t x else t) ((((v.f.af.getD s.toNat default).kind) == 1)||(((v.f.af.getD s.toNat default).kind) == 4)) (dn v s).2 ((v.f.af.getD s.toNat default).sum):=fun v=>congrArg cC.sum (Aq v s)
 rw [e,e]
 have ht:=Zi h s
 show (fun (k:Bool) (t x:Int)=>bif k then bL t x else t) ((((v.f.af.getD s.toNat default).kind) == 1)||(((v.f.af.getD s.toNat default).kind) == 4)) _ ((v.f.af.getD s.toNat default).sum)≤(fun (k:Bool) (t x:Int)=>bif k then bL t x else t) ((((v.f.af.getD s.toNat default).kind) == 1)||(((v.f.af.getD s.toNat default).kind) == 4)) _ ((v.f.af.getD s.toNat default).sum)
 dsimp only
 cases (((v.f.af.getD s.toNat default).kind) == 1)||(((v.f.af.getD s.toNat default).kind) == 4) with
 | true=>rw [cond_true,cond_true]; unfold bL; split <;> split <;> omega
 | false=>rw [cond_false,cond_false]; exact ht
theorem SM (v:kT) (F:List Fact) (s:Int):(bR (bF v F) s).eI=(bR v s).eI:=by rw [Aq,Aq]; rfl
theorem JF (r:ah) (fo:Int) (f:al) (d:Int):gT r fo f d=⟨r,fo,d,ai f d,iA (rP r fo 0 (ai f d) d),cb r fo (ai f d) d⟩:=by kernel_rfl
theorem TZ (r:ah) (fo:Int) (f:al) (F:List Fact) (d:Int):gT r fo { f with facts:=F } d=bF (gT r fo f d) (sF f F d):=by
 rw [JF,JF,Gs,B1,qa]; rfl
theorem JG {r:ah} {fo:Int} {f:al} {F:List Fact} {d:Int} (h:ta f F):ta (gT r fo f d).f (sF f F d):=by
 rw [JF]; exact h.at d
theorem Fp (r:ah) (fo:Int) (f:al) (d:Int) {i:Nat} (hi:i < (ai f d).af.length):(aQ r fo f d).getD i default=bR (gT r fo f d) ((i:Nat):Int):=by
 have e:aQ r fo f d=(List.range (ai f d).af.length).map fun j=>bR (gT r fo f d) ((j:Nat):Int):=by
  unfold aQ iR
  dsimp +instances only [Sk.dh,Sk.gd,Sk.iZ,Sk.eQ,Sk.iG,Sk.lU,Sk.cO,gn.xS,kk,kp,bg.WK,bg.pq,l5,eB]
  rw [show (gT r fo f d).f=ai f d from (I2 r fo f d).1]
  refine congrArg (fun q=>gI q fun b=>b) (Ah (ai f d).af.length (fun k=>(List.range k).map fun j=>bR (gT r fo f d) ((j:Nat):Int)) (fun s i=>(s,i)) (fun s=>Sum.inr s) (fun i hi=>?_) ?_ (by omega))
  ·dsimp only
   rw [decide_eq_true (by omega),cond_true,List.range_succ,List.map_append]
   rfl
  ·dsimp only
   rw [decide_eq_false (by omega),cond_false]
 rw [e]
 simp [List.getD,hi]
theorem Vj {a b c:Int} (ha:0≤a∧a≤9223372036854775807) (hb:0≤b∧b≤9223372036854775807) (hc:0 < c∧c≤9223372036854775807):((l8 a b c).2.2=true∧(l8 a b c).1=a * b / c∧a * b / c≤1099511627776)∨((l8 a b c).2.2=false∧1099511627776 < a * b / c):=by
 have e:l8 a b c=(fun x1:Int × Int=>bif decide (x1.1≥(IntKind.u64.wrap c)) then (0,0,false) else (fun x2:Int × Int=>bif decide (x2.1 > 1099511627776) then (0,0,false) else (au (x2.1),au (x2.2),true)) (uk x1.1 x1.2 (IntKind.u64.wrap c))) (qB (IntKind.u64.wrap a) (IntKind.u64.wrap b)):=by kernel_rfl
 rw [e,dA (n:=a) ha.1 (by omega),dA (n:=b) hb.1 (by omega),dA (n:=c) (by omega) (by omega)]
 obtain ⟨x1,x2,x3⟩:=sh a b ⟨⟨ha.1,by omega⟩,hb.1,by omega⟩
 generalize qB a b=x at x1 x2 x3 ⊢
 dsimp only
 by_cases h:x.1≥c
 ·rw [decide_eq_true h]
  refine .inr ⟨rfl,?_⟩
  have:18446744073709551616≤a * b / c:=Int.le_ediv_of_mul_le hc.1 (by omega)
  omega
 ·rw [decide_eq_false h]
  have hy:=sq x.1 x.2 c ⟨x1.1,by omega,by omega,x2.1,x2.2⟩
  generalize uk x.1 x.2 c=y at hy ⊢
  rw [x3] at hy
  have q0:0≤a * b / c:=Int.ediv_nonneg (Int.mul_nonneg ha.1 hb.1) (by omega)
  rw [cond_false]
  by_cases k:y.1 > 1099511627776
  ·rw [decide_eq_true k]; exact .inr ⟨rfl,by omega⟩
  ·rw [decide_eq_false k]; exact .inl ⟨rfl,by show au y.1=_; rw [aG (by omega) (by omega)]; exact hy.1,by omega⟩
theorem QH {s s' p p':Int} (fr t:Int) (hs:0≤s∧s≤s'∧s'≤1099511627776) (hp:p'=p∨(0≤p∧p≤p'∧p'≤1000)):eo s p fr t≤eo s' p' fr t:=by
 have e:∀ s p,eo s p fr t=bif (pY s p fr t 360).2 == 3 then 1099511627776 else (pY s p fr t 360).1:=fun s p=>by kernel_rfl
 have ei:∀ s p,pY s p fr t 360=bif (((((!(cQ s 1099511627776))||(!(cQ p 1000)))||(!(cQ fr 100000)))||(!(cQ t 100000)))||(decide (t < fr)))||(((360:Int) != 360)&&((360:Int) != 365)) then (0,1) else bif !(l8 s (au (p * (au (t - fr)))) (au ((1000:Int) * 360))).2.2 then (0,3) else ((l8 s (au (p * (au (t - fr)))) (au ((1000:Int) * 360))).1,0):=fun s p=>by kernel_rfl
 have hw:∀ n m,cQ n m=(decide (n≥0)&&decide (n≤m)):=fun n m=>by rw [so]
 have h0:=l9 s' p' fr t
 by_cases c:(0≤p∧p≤1000)∧(0≤fr∧fr≤100000)∧(0≤t∧t≤100000)∧fr≤t
 ·have hp2:0≤p'∧p≤p'∧p'≤1000:=by omega
  have acJ:∀ s p,0≤s→s≤1099511627776→0≤p→p≤1000→eo s p fr t=if s * (p * (t - fr)) / 360000≤1099511627776 then s * (p * (t - fr)) / 360000 else 1099511627776:=by
   intro s p a1 a2 a3 a4
   have hp0:0≤p * (t - fr):=Int.mul_nonneg (by omega) (by omega)
   have hp1:p * (t - fr)≤1000 * (t - fr):=Int.mul_le_mul_of_nonneg_right (by omega) (by omega)
   have hc:((((((!(cQ s 1099511627776))||(!(cQ p 1000)))||(!(cQ fr 100000)))||(!(cQ t 100000)))||(decide (t < fr)))||(((360:Int) != 360)&&((360:Int) != 365)))=false:=by
    simp only [hw]
    rw [decide_eq_true (show s≥0 by omega),decide_eq_true (show s≤1099511627776 by omega),decide_eq_true (show p≥0 by omega),decide_eq_true (show p≤1000 by omega),decide_eq_true (show fr≥0 by omega),decide_eq_true (show fr≤100000 by omega),decide_eq_true (show t≥0 by omega),decide_eq_true (show t≤100000 by omega),decide_eq_false (show ¬ t < fr by omega)]
    rfl
   rw [e,ei,hc,cond_false,aG (n:=t - fr) (by omega) (by omega),aG (n:=p * (t - fr)) (by omega) (by omega),show au ((1000:Int) * 360)=360000 from by rw [aG (by omega) (by omega)]; rfl]
   rcases Vj (a:=s) (b:=p * (t - fr)) (c:=360000) ⟨a1,by omega⟩ ⟨hp0,by omega⟩ ⟨by omega,by omega⟩ with ⟨k1,k2,k3⟩ | ⟨k1,k2⟩
   ·rw [k1,if_pos k3]; exact k2
   ·rw [k1,if_neg (by omega)]; rfl
  rw [acJ s p hs.1 (by omega) (by omega) (by omega),acJ s' p' (by omega) (by omega) (by omega) (by omega)]
  have m1:p * (t - fr)≤p' * (t - fr):=Int.mul_le_mul_of_nonneg_right hp2.2.1 (by omega)
  have m2:s * (p * (t - fr))≤s' * (p' * (t - fr)):=Int.mul_le_mul hs.2.1 m1 (Int.mul_nonneg (by omega) (by omega)) (by omega)
  have m3:s * (p * (t - fr)) / 360000≤s' * (p' * (t - fr)) / 360000:=Int.ediv_le_ediv (by omega) m2
  split <;> split <;> omega
 ·refine Int.le_trans (Int.le_of_eq ?_) h0.1
  have hc:((((((!(cQ s 1099511627776))||(!(cQ p 1000)))||(!(cQ fr 100000)))||(!(cQ t 100000)))||(decide (t < fr)))||(((360:Int) != 360)&&((360:Int) != 365)))=true:=by
   simp only [hw]
   simp only [Bool.or_eq_true,Bool.not_eq_true',Bool.and_eq_false_iff,decide_eq_false_iff_not,decide_eq_true_eq]
   omega
  rw [e,ei,hc]; rfl
theorem Zj {s s':Int} {a b:kV} (hs:0≤s∧s≤s'∧s'≤1099511627776) (ha:(1≤a.num∧a.num≤1073741824)∧1≤a.den∧a.den≤1073741824) (hb:(1≤b.num∧b.num≤1073741824)∧1≤b.den∧b.den≤1073741824):mb s a b≤mb s' a b:=by
 obtain ⟨hk,ek⟩:=EN (a:=a.num) (b:=b.num) ha.1 hb.1
 obtain ⟨hw,ew⟩:=EN (a:=a.den) (b:=b.den) ha.2 hb.2
 have val:∀ s,0≤s→s≤1099511627776→mb s a b=if a.num * b.num≥a.den * b.den then 0 else s * (a.den * b.den - a.num * b.num) / (a.den * b.den):=by
  intro s s0 s1
  have e:mb s a b=bif decide ((IntKind.u64.wrap ((IntKind.u64.wrap (a.num)) * (IntKind.u64.wrap (b.num))))≥(IntKind.u64.wrap ((IntKind.u64.wrap (a.den)) * (IntKind.u64.wrap (b.den))))) then 0 else (fun x1:Int × Int=>au (uk x1.1 x1.2 (IntKind.u64.wrap ((IntKind.u64.wrap (a.den)) * (IntKind.u64.wrap (b.den))))).1) (qB (IntKind.u64.wrap (s)) (IntKind.u64.wrap ((IntKind.u64.wrap ((IntKind.u64.wrap (a.den)) * (IntKind.u64.wrap (b.den)))) - (IntKind.u64.wrap ((IntKind.u64.wrap (a.num)) * (IntKind.u64.wrap (b.num))))))):=by kernel_rfl
  rw [e,ek,ew]
  by_cases hc:a.num * b.num≥a.den * b.den
  ·rw [decide_eq_true hc,if_pos hc]; rfl
  ·rw [decide_eq_false hc,if_neg hc,cond_false,dA (n:=s) s0 (by omega),dA (n:=a.den * b.den - a.num * b.num) (by omega) (by omega)]
   obtain ⟨h1,h2,h3⟩:=sh s (a.den * b.den - a.num * b.num) ⟨⟨s0,by omega⟩,by omega,by omega⟩
   generalize qB s (a.den * b.den - a.num * b.num)=x at h1 h2 h3 ⊢
   obtain ⟨l1,l2,l3⟩:=Jn ⟨s0,s1⟩ (D:=a.den * b.den - a.num * b.num) (by omega) hw h1.1 h2.1 h3
   have hy:=(sq x.1 x.2 (a.den * b.den) ⟨h1.1,l1,by omega,h2.1,h2.2⟩).1
   rw [h3] at hy
   dsimp only
   rw [hy,aG (by omega) (by omega)]
 rw [val s hs.1 (by omega),val s' (by omega) hs.2.2]
 split
 ·exact Int.le_refl _
 ·exact Int.ediv_le_ediv (by omega) (Int.mul_le_mul_of_nonneg_right hs.2.1 (by omega))
theorem QI {r:ah} (b:qd) (dt:Int) {s s':Int} (fr t:Int) (hs:0≤s∧s≤s'∧s'≤1099511627776) (hR:r.dj):iU r b dt s fr t≤iU r b dt s' fr t:=by
 have e:∀ s,iU r b dt s fr t=bif ((r.aI.getD (((r.bm.getD dt.toNat default).bZ).toNat) default).az) == b.az then 0 else
   bif (!(kz r b.az ((r.aI.getD (((r.bm.getD dt.toNat default).bZ).toNat) default).az) fr).2)||(!(kz r ((r.aI.getD (((r.bm.getD dt.toNat default).bZ).toNat) default).az) b.az t).2) then 0 else
   mb s (kz r b.az ((r.aI.getD (((r.bm.getD dt.toNat default).bZ).toNat) default).az) fr).1 (kz r ((r.aI.getD (((r.bm.getD dt.toNat default).bZ).toNat) default).az) b.az t).1:=fun s=>by kernel_rfl
 rw [e,e]
 have h1:=qP r b.az ((r.aI.getD (((r.bm.getD dt.toNat default).bZ).toNat) default).az) fr hR
 have h2:=qP r ((r.aI.getD (((r.bm.getD dt.toNat default).bZ).toNat) default).az) b.az t hR
 generalize kz r b.az ((r.aI.getD (((r.bm.getD dt.toNat default).bZ).toNat) default).az) fr=x at h1 ⊢
 generalize kz r ((r.aI.getD (((r.bm.getD dt.toNat default).bZ).toNat) default).az) b.az t=y at h2 ⊢
 cases ((r.aI.getD (((r.bm.getD dt.toNat default).bZ).toNat) default).az) == b.az with
 | true=>rw [cond_true,cond_true]; exact Int.le_refl _
 | false =>
  rw [cond_false,cond_false]
  cases hx:x.2 with
  | false=>rw [Bool.not_false,Bool.true_or,cond_true,cond_true]; exact Int.le_refl _
  | true =>
   cases hy:y.2 with
   | false=>rw [Bool.not_false,Bool.or_true,cond_true,cond_true]; exact Int.le_refl _
   | true=>rw [Bool.not_true,Bool.or_self,cond_false,cond_false]; exact Zj hs (h1 hx) (h2 hy)
def wK (a:bh) (s:Int):Int:=bif (a.kind == 4)||(a.kind == 5) then bL 1099511627776 (au (s+a.sum)) else s
def GU (l:List bh):Int:=l.foldl (fun s a=>wK a s) 0
theorem Vk (l:List bh) (h:∀ a,a∈l→jK a.sum):∀ s,jK s→jK (l.foldl (fun s a=>wK a s) s):=by
 induction l with
 | nil=>exact fun s hs=>hs
 | cons a r ih =>
  intro s hs
  refine ih (fun x hx=>h x (by simp [hx])) _ ?_
  have ha:=h a (by simp)
  show jK (wK a s)
  clear ih
  unfold wK
  unfold jK at *
  cases (a.kind == 4)||(a.kind == 5) with
  | false=>rw [cond_false]; exact hs
  | true=>rw [cond_true,aG (by omega) (by omega)]; unfold bL; split <;> omega
def sr (r:ah) (fo:Int) (f:al) (s d m:Int):Int:=bif f.aR.lg == 0 then bL 1000 (cg 0 (qC (qZ r fo 16 ⟨f,s,s,-1,m,d⟩))) else f.aR.lg
def QJ (r:ah) (fo:Int) (f:al) (s d m:Int) (dt x:Int):Int:=bif iA (qZ r fo 17 ⟨f,s,s,-1,m,d⟩) == 1 then iU r f.aR dt x m (bL d 100000) else 0
theorem LP (r:ah) (fo:Int) (f:al) (s d:Int):(gj r fo f s d).rest=bif ((!(dr r fo f s d).2)||(decide (s < 0)))||(decide (s≥(((ai f d).af.length:Nat):Int))) then 0 else
  bL 1099511627776 (au ((au ((au ((dr r fo f s d).1.sum+(bif (cb r fo f d != (-1))&&(decide (cb r fo f d≤(bL d 100000))) then eo (dr r fo f s d).1.sum (sr r fo f s d (cb r fo f d)) (cb r fo f d) (bL d 100000) else 0)))+GU (ai f d).aA))+(bif (cb r fo f d != (-1))&&(decide (cb r fo f d≤(bL d 100000))) then QJ r fo f s d (cb r fo f d) ((ai f d).af.getD s.toNat default).dt (dr r fo f s d).1.sum else 0))):=by
 unfold gj iu
 dsimp +instances only [Sk.dh,Sk.gd,Sk.iZ,Sk.eQ,Sk.iG,Sk.lU,Sk.cO,gn.xS,kk,kp,bg.A2,bg.pq,ch,rl,cK,gS,mJ,lN,fp,lO]
 cases ((!(dr r fo f s d).2)||(decide (s < 0)))||(decide (s≥(((ai f d).af.length:Nat):Int))) with
 | true=>rfl
 | false =>
  rw [cond_false,cond_false]
  have key:∀ b4:AQ,b4.xZ=0→∀ (dd:AQ ⊕ Int),(gI (iter (fun i15:Nat × Int=>bif decide ((i15.1:Int) < (((ai f d).aA.length:Nat):Int)) then bif ((((ai f d).aA.getD i15.1 default).kind) == 4)||((((ai f d).aA.getD i15.1 default).kind) == 5) then Sum.inr (i15.1+1,bL 1099511627776 (au (i15.2+(((ai f d).aA.getD i15.1 default).sum)))) else Sum.inr (i15.1+1,i15.2) else Sum.inl (Sum.inr i15.2)) dd ((ai f d).aA.length - 0+1) (0,b4.xZ)) fun GN=>({ b4 with xZ:=GN,rest:=bL 1099511627776 (au ((au ((au (b4.sum+b4.kU))+GN))+b4.exchange)) }:AQ)).rest=bL 1099511627776 (au ((au ((au (b4.sum+b4.kU))+GU (ai f d).aA))+b4.exchange)):=by
   intro b4 h0 dd
   rw [h0]
   refine (congrArg AQ.rest (eX (ai f d).aA (fun s i=>(i,s)) (fun a s=>.inr (wK a s)) (fun s=>s) _ (fun s i hi=>?_) (fun s=>?_) (by omega) 0)).trans ?_
   ·dsimp only
    rw [decide_eq_true (by omega),cond_true]
    unfold wK
    cases ((((ai f d).aA.getD i default).kind) == 4)||((((ai f d).aA.getD i default).kind) == 5) <;> rfl
   ·dsimp only
    rw [decide_eq_false (by omega),cond_false]
   ·rw [j1]; rfl
  unfold sr QJ
  cases (cb r fo f d != (-1))&&(decide (cb r fo f d≤(bL d 100000))) with
  | false=>exact key _ rfl _
  | true =>
   cases f.aR.lg == 0 <;> cases iA (qZ r fo 17 ⟨f,s,s,-1,cb r fo f d,d⟩) == 1 <;> exact key _ rfl _
theorem Vl {a b:lW} (h:SLe a b):bL 1000 (cg 0 (qC a))≤bL 1000 (cg 0 (qC b)):=by
 rcases h with h | h
 ·rw [h]; exact Int.le_refl _
 ·have e:qC a=bif (a.err != 0)||(!a.cell.known) then (-1) else a.cell.n:=by kernel_rfl
  rw [e,h.1,h.2]
  show (0:Int)≤_
  unfold bL cg; split <;> split <;> omega
def XE (c:Bool) (e:cC):cC × Bool:=bif c then (({ sign:=0,kind:=0,fA:=0,binds:=0,text:=0,sum:=0,eI:=false }:cC),false) else (e,true)
theorem Zk (c:Bool) {x y:cC} (h:x.sum≤y.sum):(XE c y).2=(XE c x).2∧(XE c x).1.sum≤(XE c y).1.sum:=by
 cases c with
 | true=>exact ⟨rfl,Int.le_refl _⟩
 | false=>exact ⟨rfl,h⟩
theorem Vm {r:ah} {fo:Int} {f:al} {F:List Fact} (s d:Int) (h:ta f F):(dr r fo { f with facts:=F } s d).2=(dr r fo f s d).2∧(dr r fo f s d).1.sum≤(dr r fo { f with facts:=F } s d).1.sum:=by
 have e:∀ f,dr r fo f s d=XE ((decide (s < 0))||(decide (s≥(((gT r fo f d).f.af.length:Nat):Int)))) (bR (gT r fo f d) s):=fun f=>by kernel_rfl
 rw [e f,e { f with facts:=F },TZ r fo f F d]
 have hm:=JG (r:=r) (fo:=fo) (d:=d) h
 generalize gT r fo f d=v at hm ⊢
 have el:(bF v (sF f F d)).f.af.length=v.f.af.length:=rfl
 rw [el]
 exact Zk _ (SL hm s)
def LQ (z:Bool) (rt n:Int):Int:=bif z then bL 1000 (cg 0 n) else rt
theorem XF (z:Bool) (rt:Int) {a b:Int} (h:bL 1000 (cg 0 a)≤bL 1000 (cg 0 b)):LQ z rt b=LQ z rt a∨(0≤LQ z rt a∧LQ z rt a≤LQ z rt b∧LQ z rt b≤1000):=by
 cases z with
 | false=>exact .inl rfl
 | true =>
  refine .inr ⟨?_,h,?_⟩
  ·show 0≤bL _ _; unfold bL cg; split <;> split <;> omega
  ·show bL _ _≤1000; unfold bL; split <;> omega
def exT (t e:Int):Int:=bif t == 1 then e else 0
theorem aa5 {t t' e e':Int} (h:mU t t') (he:e≤e') (h0:0≤e) (h1:0≤e'∧e'≤1099511627776):exT t e≤exT t' e'∧0≤exT t e∧exT t' e'≤1099511627776:=by
 unfold exT
 cases k:t == 1 with
 | true =>
  have k:t=1:=by simpa using k
  rw [show (t' == 1)=true by rw [h (by omega),k]; rfl]
  exact ⟨he,h0,h1.2⟩
 | false =>
  rw [cond_false]
  cases t' == 1 with
  | true=>exact ⟨h1.1,by omega,h1.2⟩
  | false=>exact ⟨Int.le_refl 0,Int.le_refl 0,(by decide:(0:Int)≤1099511627776)⟩
theorem Zl {r:ah} {fo:Int} {f:al} {F:List Fact} (s d:Int) (h:ta f F) (hF:cm r f) (T1:cm r { f with facts:=F }) (hR:r.dj):(gj r fo f s d).rest≤(gj r fo { f with facts:=F } s d).rest:=by
 obtain ⟨e1,e2⟩:=Vm (r:=r) (fo:=fo) s d h
 have p1:=qN r fo f s d ⟨hF.UK,hF.small⟩
 have p2:=qN r fo { f with facts:=F } s d ⟨T1.UK,T1.small⟩
 have hc:jK (GU (ai f d).aA):=Vk _ (tM.1 fun q hq=>(hF.MX d).2.2.2 q hq) 0 ⟨by omega,by omega⟩
 rw [LP,LP,e1,qa r fo f F d,Gs f F d]
 generalize (dr r fo f s d).1.sum=x at e2 p1 ⊢
 generalize (dr r fo { f with facts:=F } s d).1.sum=x' at e2 p2 ⊢
 dsimp only at *
 cases ((!(dr r fo f s d).2)||(decide (s < 0)))||(decide (s≥(((ai f d).af.length:Nat):Int))) with
 | true=>rw [cond_true,cond_true]; exact Int.le_refl _
 | false =>
  rw [cond_false,cond_false]
  generalize GU (ai f d).aA=c at hc ⊢
  generalize cb r fo f d=m
  unfold jK at hc
  cases (m != (-1))&&(decide (m≤(bL d 100000))) with
  | false =>
   simp only [cond_false]
   simp (disch:=omega) only [aG]
   unfold bL; split <;> split <;> omega
  | true =>
   simp only [cond_true]
   have hr:sr r fo { f with facts:=F } s d m=sr r fo f s d m∨(0≤sr r fo f s d m∧sr r fo f s d m≤sr r fo { f with facts:=F } s d m∧sr r fo { f with facts:=F } s d m≤1000) :=
    XF (f.aR.lg == 0) f.aR.lg (Vl (zK r fo 16 s s (-1) m d h))
   have hi:=QH m (bL d 100000) ⟨p1.1,e2,p2.2⟩ hr
   have hx:QJ r fo f s d m ((ai f d).af.getD s.toNat default).dt x≤QJ r fo { f with facts:=F } s d m ((ai f d).af.getD s.toNat default).dt x'∧0≤QJ r fo f s d m ((ai f d).af.getD s.toNat default).dt x∧QJ r fo { f with facts:=F } s d m ((ai f d).af.getD s.toNat default).dt x'≤1099511627776:=by
    have ht:=(zK r fo 17 s s (-1) m d h).tri
    have q1:=mc r f.aR ((ai f d).af.getD s.toNat default).dt x m (bL d 100000) ⟨p1,hR⟩
    have q2:=mc r f.aR ((ai f d).af.getD s.toNat default).dt x' m (bL d 100000) ⟨p2,hR⟩
    have q3:=QI (r:=r) f.aR ((ai f d).af.getD s.toNat default).dt m (bL d 100000) ⟨p1.1,e2,p2.2⟩ hR
    exact aa5 ht q3 q1.1 q2
   have i1:=l9 x (sr r fo f s d m) m (bL d 100000)
   have i2:=l9 x' (sr r fo { f with facts:=F } s d m) m (bL d 100000)
   dsimp only at i1 i2
   generalize eo x (sr r fo f s d m) m (bL d 100000)=y at *
   generalize eo x' (sr r fo { f with facts:=F } s d m) m (bL d 100000)=y' at *
   generalize QJ r fo f s d m ((ai f d).af.getD s.toNat default).dt x=z at *
   generalize QJ r fo { f with facts:=F } s d m ((ai f d).af.getD s.toNat default).dt x'=z' at *
   simp (disch:=omega) only [aG]
   unfold bL; split <;> split <;> omega
theorem QK (v:View) (h:v.jD) (P:Int→Prop) (hP:∀ s,0≤s→s < (v.now.af.length:Int)→P s→((v.now.af.getD s.toNat default).kind=3∨(v.now.af.getD s.toNat default).kind=4)→P ((v.now.af.getD s.toNat default).for_)):∀ (fu:Nat) (sign:Int),0≤sign→sign < (v.now.af.length:Int)→sign.toNat < fu→P sign→P (aW fu v sign)∧¬ ((v.now.af.getD (aW fu v sign).toNat default).kind=3∨(v.now.af.getD (aW fu v sign).toNat default).kind=4)
 | 0,_,_,_,h3,_=>absurd h3 (by omega)
 | fu+1,s,h1,h2,h3,h4=>by
  have e:aW (fu+1) v s=bif (((v.now.af.getD s.toNat default).kind) == 3)||(((v.now.af.getD s.toNat default).kind) == 4) then aW fu v ((v.now.af.getD s.toNat default).for_) else s:=by kernel_rfl
  rw [e]
  cases hk:(((v.now.af.getD s.toNat default).kind) == 3)||(((v.now.af.getD s.toNat default).kind) == 4) with
  | false =>
   refine ⟨h4,fun h=>?_⟩
   rw [cond_false] at h
   rw [Bool.or_eq_false_iff,beq_eq_false_iff_ne,beq_eq_false_iff_ne] at hk
   exact h.elim hk.1 hk.2
  | true =>
   rw [cond_true]
   have hk:(v.now.af.getD s.toNat default).kind=3∨(v.now.af.getD s.toNat default).kind=4:=by simpa using hk
   have hb:=h s.toNat (by omega) hk
   exact QK v h P hP fu _ hb.1 (by omega) (by omega) (hP s h1 h2 h4 hk)
theorem Zm {v:View} (h:v.jD) {part cz:Int} {links:List Int} {s:Int} (hs:s∈pW v part cz links v.now.af.length):aw v s∈pW v part cz links v.now.af.length∧¬ ((v.now.af.getD (aw v s).toNat default).kind=3∨(v.now.af.getD (aw v s).toNat default).kind=4):=by
 have hm:=rT hs
 refine QK v h (·∈pW v part cz links v.now.af.length) (fun s h0 h1 hs hk=>?_) (s.toNat+1) s hm.1 hm.2.1 (by omega) hs
 have hm:=rT hs
 have hl:=hm.2.2.2.1
 unfold Nn at hl
 have e0:((v.now.af.getD s.toNat default).kind == 0)=false:=by rw [beq_eq_false_iff_ne]; omega
 have e1:((v.now.af.getD s.toNat default).kind == 1)=false:=by rw [beq_eq_false_iff_ne]; omega
 have e2:((v.now.af.getD s.toNat default).kind == 2)=false:=by rw [beq_eq_false_iff_ne]; omega
 rw [e0,e1,e2,Bool.or_false,cond_false,cond_false] at hl
 exact hm.2.2.2.2 _ ((contains_iff _ _).1 hl)
theorem XG {links:List Int} {lo hi:Int} (h:lo∈links) (h2:lo≤hi):1≤yi links lo hi:=by
 unfold yi
 exact List.length_pos_of_mem (a:=lo) (List.mem_filter.2 ⟨h,by simp [h2]⟩)
theorem QL (links:List Int) (lo hi:Int):yi links lo hi≤EP links hi:=by
 unfold yi EP
 have e:(links.filter fun l=>decide (l≤hi)&&decide (l≥lo))=(links.filter fun l=>decide (l≤hi)).filter fun l=>decide (l≥lo):=by rw [List.filter_filter]; congr 1; funext l; rw [Bool.and_comm]
 rw [e]
 exact List.length_filter_le ..
theorem T2 {links:List Int} {x y hi:Int} (hx:x∈links) (h1:x≤hi) (h2:x < y):yi links y hi < yi links x hi:=by
 unfold yi
 have e:(links.filter fun l=>decide (l≤hi)&&decide (l≥y))=(links.filter fun l=>decide (l≤hi)&&decide (l≥x)).filter fun l=>decide (l≥y):=by
  rw [List.filter_filter]; congr 1; funext l
  by_cases c1:l≤hi <;> by_cases c2:l≥y
  ·have:l≥x:=by omega
   simp [c1,c2,this]
  ·simp [c1,c2]
  ·simp [c1]
  ·simp [c1]
 rw [e,List.length_filter_lt_length_iff_exists]
 exact ⟨x,List.mem_filter.2 ⟨hx,by simp [h1]⟩,by simpa using h2⟩
theorem JH {r:ah} {forum:Int} {f:al} {day:Int} {c:Claim} (hF:cm r f) (h:c∈bV r forum f day) :
  ∃ b,b=aw (aB f day) c.sign∧(0≤b∧b < ((ai f day).af.length:Int))∧(0≤c.sign∧c.sign < ((ai f day).af.length:Int)) ∧
   (((ai f day).af.getD b.toNat default).kind=1∧c.dR=0∨((ai f day).af.getD b.toNat default).kind=0∧b=0∧c.dR=1+(EP (aj (aB f day) c.part) c.cz:Int) ∨
    ((ai f day).af.getD b.toNat default).kind=2∧b≤c.cz∧b∈aj (aB f day) c.part∧c.dR=(yi (aj (aB f day) c.part) b c.cz:Int)):=by
 obtain ⟨he,part,o,sign,k⟩:=va h
 have hlen:=mG f day
 have hl:=BS k.li
 have hm:=rT hl.2
 have hB:(aB f day).jD:=by unfold View.jD; rw [iw]; exact hF.MY day
 have hb:=Zm hB hl.2
 have hbm:=rT hb.1
 rw [iw] at hm hb hbm
 have hll:(aj (aB f day) part).length≤1000000:=by have:=ER (f:=f) (day:=day) (part:=part); have:=hF.2.1.1; omega
 have kj:=k.st
 obtain rfl:=k.eq
 refine ⟨aw (aB f day) sign,rfl,⟨hbm.1,hbm.2.1⟩,⟨hm.1,hm.2.1⟩,?_⟩
 have hv:(aC r forum f day).1.view=aB f day:=by rw [he]
 have hk:=(hF.2.2.1 (aw (aB f day) sign).toNat (by omega)).2.2.2.2.2
 unfold PA at hk
 rw [← v7 f day (aw (aB f day) sign).toNat (by omega)] at hk
 have JQ:=hbm.2.2.2.1
 have hnk:=hb.2
 dsimp only
 rw [Dx _ _ _ _ _ hll,hv,iw] at kj ⊢
 generalize aw (aB f day) sign=b at *
 generalize hs:(ai f day).af.getD b.toNat default=s at *
 by_cases h1:s.kind=1
 ·refine .inl ⟨h1,?_⟩
  rw [show (s.kind == 1)=true by simpa using h1,cond_true]
  cases mf (aC r forum f day).1 <;> rfl
 ·rw [show (s.kind == 1)=false by simpa using h1,cond_false] at kj ⊢
  cases hc:((!(mf (aC r forum f day).1))&&(!(cD (ai f day).aA)))||(!(((aQ r forum f day).getD b.toNat default).eI)) with
  | true=>rw [hc,cond_true] at kj; exact absurd rfl kj
  | false =>
   rw [cond_false]
   by_cases h2:s.kind=2
   ·unfold Nn at JQ
    rw [iw,hs,show (s.kind == 0)=false by rw [h2]; rfl,show (s.kind == 1)=false by rw [h2]; rfl,show (s.kind == 2)=true by rw [h2]; rfl,Bool.or_false,cond_false,cond_true,Bool.and_eq_true,Bool.and_eq_true,decide_eq_true_eq] at JQ
    have e:((b.toNat:Nat):Int)=b:=by omega
    rw [e] at JQ
    have Q5:=(contains_iff _ _).1 JQ.2
    refine .inr (.inr ⟨h2,JQ.1.1,Q5,?_⟩)
    rw [JQ.2]; rfl
   ·have h0:s.kind=0:=by omega
    have hb0:b=0:=by have:=hk.2.2.1.1 h0; omega
    refine .inr (.inl ⟨h0,hb0,?_⟩)
    have hn:bD (aj (aB f day) part) b=false:=by
     cases hcb:bD (aj (aB f day) part) b with
     | false=>rfl
     | true =>
      have hm2:=EM ((contains_iff _ _).1 hcb)
      rw [rU] at hm2
      rw [v7 f day b.toNat (by omega)] at hs
      rw [hs] at hm2
      omega
    rw [hn]; rfl
theorem QM {r:ah} {forum:Int} {f:al} {day:Int} (hF:cm r f) {c:Claim} (h:c∈bV r forum f day):∃ b,b=aw (aB f day) c.sign∧(0≤b∧b < ((ai f day).af.length:Int))∧(0≤c.sign∧c.sign < ((ai f day).af.length:Int))∧(c.dR=0↔((ai f day).af.getD b.toNat default).kind=1)∧0≤c.dR ∧
  ∀ d,d∈bV r forum f day→c.part=d.part→c.cz=d.cz→c.dR≠0→d.dR≠0→∀ y,y=aw (aB f day) d.sign→(b=y→c.dR=d.dR)∧(b < y→d.dR < c.dR)∧(y < b→c.dR < d.dR):=by
 obtain ⟨b,e,h1,h2,h3⟩:=JH hF h
 refine ⟨b,e,h1,h2,?_,?_,fun d hd e1 e2 t1 t2 y ey=>?_⟩
 ·rcases h3 with h3 | h3 | h3
  ·exact ⟨fun _=>h3.1,fun _=>h3.2⟩
  ·rw [h3.1,h3.2.2]; exact ⟨fun h=>absurd h (by omega),fun h=>absurd h (by decide)⟩
  ·rw [h3.1]
   have:=XG h3.2.2.1 h3.2.1
   exact ⟨fun h=>absurd h (by omega),fun h=>absurd h (by decide)⟩
 ·omega
 ·obtain ⟨b',e',h1',h2',SN⟩:=JH hF hd
  have Xy:b'=y:=by rw [e',ey]
  subst Xy
  rw [← e1,← e2] at SN
  rcases h3 with h3 | h3 | h3
  ·exact absurd h3.2 t1
  ·rcases SN with SN | SN | SN
   ·exact absurd SN.2 t2
   ·exact ⟨fun _=>by omega,fun h=>by omega,fun h=>by omega⟩
   ·have:=QL (aj (aB f day) c.part) b' c.cz
    refine ⟨fun h=>?_,fun _=>by omega,fun h=>by omega⟩
    subst h
    rw [h3.1] at SN
    omega
  ·rcases SN with SN | SN | SN
   ·exact absurd SN.2 t2
   ·have:=QL (aj (aB f day) c.part) b c.cz
    refine ⟨fun h=>?_,fun h=>by omega,fun _=>by omega⟩
    subst h
    rw [h3.1] at SN
    omega
   ·refine ⟨fun h=>by subst h; omega,fun h=>?_,fun h=>?_⟩
    ·have:=T2 (hi:=c.cz) h3.2.2.1 h3.2.1 h; omega
    ·have:=T2 (hi:=c.cz) SN.2.2.1 SN.2.1 h; omega
theorem JI {k s:Int}:∀ (l:List Fact) (i:Nat),i < l.length→((l.getD i default).kind=k∧(l.getD i default).at_=s)→(∀ q,q < i→¬ ((l.getD q default).kind=k∧(l.getD q default).at_=s))→walk (dX k s) (fun _=>(⟨false,0⟩:aH)) l ()=sV ((l.getD i default).n != 0)
 | [],i,h,_,_=>absurd h (by simp)
 | x :: l,0,_,h2,_=>by
  have h2:x.kind=k∧x.at_=s:=h2
  simp only [walk]
  unfold dX
  rw [h2.1,h2.2,beq_self_eq_true,beq_self_eq_true]; rfl
 | x :: l,i+1,h,h2,h3=>by
  have h0:¬ (x.kind=k∧x.at_=s):=h3 0 (by omega)
  have:dX k s x ()=.inr ():=by
   unfold dX
   have:((x.kind == k)&&(x.at_ == s))=false:=by
    cases e:((x.kind == k)&&(x.at_ == s)) with
    | false=>rfl
    | true=>rw [Bool.and_eq_true,beq_iff_eq,beq_iff_eq] at e; exact absurd e h0
   rw [this]; rfl
  simp only [walk,this]
  exact JI l i (by simpa using h) h2 fun q hq=>h3 (q+1) (by omega)
theorem T3 (v:View) (k s:Int):jH v k s=(fun c:aH=>bif !c.known then 2 else bif c.n == 0 then 0 else 1) (bT v.now k s):=by
 have e:jH v k s=(fun x1:Int=>bif decide (x1 < 0) then 2 else bif ((v.now.facts.getD x1.toNat default).n) == 0 then 0 else 1) (jt v.now.facts k s):=by kernel_rfl
 have hc:∀ x:Fact,cL x k s=true↔(x.kind=k∧x.at_=s):=fun x=>by rw [jT,Bool.and_eq_true,beq_iff_eq,beq_iff_eq]
 rw [e,uR]
 rcases uw v.now.facts k s with ⟨h1,h2⟩ | ⟨h1,h2,h3,h4⟩
 ·rw [h1,oZ _ _ (fun x hx u=>?_)]
  ·rfl
  ·obtain ⟨i,hi,rfl⟩:=List.getElem_of_mem hx
   have:=h2 i hi
   rw [jT,show v.now.facts.getD i default=v.now.facts[i] by simp [List.getD,hi]] at this
   unfold dX
   rw [this]; rfl
 ·generalize jt v.now.facts k s=x at *
  rw [JI v.now.facts x.toNat (by omega) ((hc _).1 h3) (fun q hq hh=>by have e4:=h4 q hq; rw [(hc _).2 hh] at e4; exact absurd e4 (by decide)),Qy]
  dsimp only
  rw [decide_eq_false (by omega),cond_false]
  generalize (v.now.facts.getD x.toNat default).n=m
  cases hm:m == 0 with
  | true=>rw [show (m != 0)=false by rw [bne,hm]; rfl]; rfl
  | false=>rw [show (m != 0)=true by rw [bne,hm]; rfl]; rfl
theorem NC {a a' b b':Int} (ha:mU a a') (hb:mU b b'):mU (eK a b) (eK a' b'):=by
 have e:∀ a b,eK a b=bif (a == 0)||(b == 0) then 0 else bif (a == 2)||(b == 2) then 2 else 1:=fun a b=>by kernel_rfl
 have i:∀ a b,eK a b=if a=0∨b=0 then 0 else if a=2∨b=2 then 2 else 1:=fun a b=>by
  rw [e]; simp only [Bool.cond_eq_ite,Bool.or_eq_true,beq_iff_eq]
 rw [i,i]
 intro k
 unfold mU at *
 by_cases z:a=0∨b=0
 ·have z':a'=0∨b'=0:=by
   rcases z with z | z
   ·exact .inl (by rw [ha (by omega)]; exact z)
   ·exact .inr (by rw [hb (by omega)]; exact z)
  rw [if_pos z,if_pos z']
 ·rw [if_neg z] at k ⊢
  by_cases t:a=2∨b=2
  ·rw [if_pos t] at k; exact absurd rfl k
  ·rw [ha (by omega),hb (by omega),if_neg z]
theorem Vn {a a' b b':Int} (ha:mU a a') (hb:mU b b'):mU (qK a b) (qK a' b'):=by
 have e:∀ a b,qK a b=bif (a == 1)||(b == 1) then 1 else bif (a == 2)||(b == 2) then 2 else 0:=fun a b=>by kernel_rfl
 have i:∀ a b,qK a b=if a=1∨b=1 then 1 else if a=2∨b=2 then 2 else 0:=fun a b=>by
  rw [e]; simp only [Bool.cond_eq_ite,Bool.or_eq_true,beq_iff_eq]
 rw [i,i]
 intro k
 unfold mU at *
 by_cases z:a=1∨b=1
 ·have z':a'=1∨b'=1:=by
   rcases z with z | z
   ·exact .inl (by rw [ha (by omega)]; exact z)
   ·exact .inr (by rw [hb (by omega)]; exact z)
  rw [if_pos z,if_pos z']
 ·rw [if_neg z] at k ⊢
  by_cases t:a=2∨b=2
  ·rw [if_pos t] at k; exact absurd rfl k
  ·rw [ha (by omega),hb (by omega),if_neg z]
def cF (c:eu) (F G:List Fact):eu:={ c with view:={ c.view with all:={ c.view.all with facts:=F },now:={ c.view.now with facts:=G } } }
theorem LR {c:eu} {F G:List Fact} (h:ta c.view.now G) (link last:Int):mU (bj c link last) (bj (cF c F G) link last):=by
 have e:∀ c,bj c link last=qK (eK (jH c.view 0 link) (jH c.view 2 link)) (iA (qZ c.r c.forum 3 ⟨c.view.now,link,last,-1,c.due,c.view.day⟩)):=fun c=>by kernel_rfl
 have hs:∀ k,mU (jH c.view k link) (jH (cF c F G).view k link):=fun k=>by
  rw [T3,T3]
  have hk:=h k link
  show mU _ ((fun c:aH=>bif !c.known then 2 else bif c.n == 0 then 0 else 1) (bT { c.view.now with facts:=G } k link))
  cases hc:(bT c.view.now k link).known with
  | true=>rw [hk hc]; exact mU.rfl' _
  | false=>exact .op (by dsimp only; rw [hc]; rfl)
 rw [e,e]
 exact Vn (NC (hs 0) (hs 2)) (zK c.r c.forum 3 link last (-1) c.due c.view.day h).tri
theorem Fq {c:eu} {F G:List Fact} (h:ta c.view.now G) (last:Int):∀ (links:List Int) (o z:ke),z∈dG c last links o→z.state=1→z∈dG (cF c F G) last links o
 | [],o,z,hz,_=>hz
 | l :: r,o,z,hz,h1=>by
  have hp:=LR (F:=F) h l last
  simp only [dG] at hz ⊢
  generalize bj c l last=p at hp hz
  generalize bj (cF c F G) l last=p' at hp ⊢
  by_cases p2:p=2
  ·subst p2
   have hz:=show z∈{ o with state:=2 } :: dG c last r { fA:=(c.view.now.af.getD l.toNat default).cj,sign:=l,state:=2 } from hz
   rcases List.mem_cons.1 hz with rfl | hz
   ·exact absurd h1 (show ¬ (2:Int)=1 by decide)
   ·rcases (uZ c last r _ z hz).2 with k | k <;> (have k:z.state=2:=k; omega)
  ·have e:=hp p2
   subst e
   cases h0:p' == 0 with
   | true=>rw [h0,cond_true] at hz; exact hz
   | false =>
    rw [h0,cond_false,show (p' == 2)=false by simpa using p2,cond_false] at hz
    rw [cond_false,show (p' == 2)=false by simpa using p2,cond_false]
    exact Fq h last r _ z hz h1
theorem zM {c:eu} {F G:List Fact} (h:ta c.view.now G) (last:Int):∀ (links:List Int) (o o' z':ke),o'.fA=o.fA→o'.sign=o.sign→mU o.state o'.state→z'∈dG (cF c F G) last links o'→∃ z,z∈dG c last links o∧z'.fA=z.fA∧z'.sign=z.sign∧mU z.state z'.state
 | [],o,o',z',a,b,t,hz=>by
  have hz:z'∈[o']:=hz
  rw [List.mem_singleton] at hz
  subst hz
  exact ⟨o,by simp [dG],a,b,t⟩
 | l :: r,o,o',z',a,b,t,hz=>by
  have hp:=LR (F:=F) h l last
  simp only [dG] at hz ⊢
  generalize bj c l last=p at hp ⊢
  generalize bj (cF c F G) l last=p' at hp hz
  by_cases p2:p=2
  ·subst p2
   show ∃ z,z∈{ o with state:=2 } :: dG c last r { fA:=(c.view.now.af.getD l.toNat default).cj,sign:=l,state:=2 }∧_
   cases h0:p' == 0 with
   | true =>
    rw [h0,cond_true,List.mem_singleton] at hz
    subst hz
    exact ⟨_,List.mem_cons_self,a,b,.op rfl⟩
   | false =>
    rw [h0,cond_false] at hz
    have tail:∀ o2:ke,o2.fA=(c.view.now.af.getD l.toNat default).cj→o2.sign=l→z'∈dG (cF c F G) last r o2→∃ z,z∈{ o with state:=2 } :: dG c last r { fA:=(c.view.now.af.getD l.toNat default).cj,sign:=l,state:=2 }∧z'.fA=z.fA∧z'.sign=z.sign∧mU z.state z'.state:=fun o2 q1 q2 hz=>by
     obtain ⟨z,k1,k2⟩:=zM h last r { fA:=(c.view.now.af.getD l.toNat default).cj,sign:=l,state:=2 } o2 z' q1 q2 (.op rfl) hz
     exact ⟨z,List.mem_cons_of_mem _ k1,k2⟩
    cases h2:p' == 2 with
    | true =>
     rw [h2,cond_true] at hz
     rcases List.mem_cons.1 hz with rfl | hz
     ·exact ⟨_,List.mem_cons_self,a,b,.op rfl⟩
     ·exact tail _ rfl rfl hz
    | false=>rw [h2,cond_false] at hz; exact tail _ rfl rfl hz
  ·have e:=hp p2
   subst e
   cases h0:p' == 0 with
   | true =>
    rw [h0,cond_true,List.mem_singleton] at hz
    subst hz
    exact ⟨o,by simp,a,b,t⟩
   | false =>
    rw [h0,cond_false,show (p' == 2)=false by simpa using p2,cond_false] at hz
    rw [cond_false,show (p' == 2)=false by simpa using p2,cond_false]
    exact zM h last r { fA:=(c.view.now.af.getD l.toNat default).cj,sign:=l,state:=o.state } { fA:=(c.view.now.af.getD l.toNat default).cj,sign:=l,state:=o'.state } z' rfl rfl t hz
theorem aa6 (v:View) (A G:al) (hs:G.af=v.now.af) (s:Int):aw { v with all:=A,now:=G } s=aw v s:=by
 have key:∀ (fu:Nat) (s:Int),aW fu { v with all:=A,now:=G } s=aW fu v s:=by
  intro fu
  induction fu with
  | zero=>intro s; rfl
  | succ n ih =>
   intro s
   have bq:∀ (v:View) (fu:Nat) (s:Int),aW (fu+1) v s=bif (((v.now.af.getD s.toNat default).kind) == 3)||(((v.now.af.getD s.toNat default).kind) == 4) then aW fu v ((v.now.af.getD s.toNat default).for_) else s:=fun v fu s=>by kernel_rfl
   rw [bq,bq]; show (bif (((G.af.getD s.toNat default).kind) == 3)||(((G.af.getD s.toNat default).kind) == 4) then aW n { v with all:=A,now:=G } ((G.af.getD s.toNat default).for_) else s)=_; rw [hs,ih]
 exact key _ s
def Z7 (k1 yo has ND:Bool) (a kp tn:Int):Int × Int:=bif k1 then (bif !yo then (0,0) else (a,0)) else bif ((!yo)&&(!has))||(!ND) then (0,0) else (eK a kp,tn)
theorem aa7 (k1 yo has ND:Bool) {a a' kp kp':Int} (tn:Int) (ha:mU a a') (hk:mU kp kp'):mU (Z7 k1 yo has ND a kp tn).1 (Z7 k1 yo has ND a' kp' tn).1∧((Z7 k1 yo has ND a kp tn).1≠0→(Z7 k1 yo has ND a' kp' tn).1≠0→(Z7 k1 yo has ND a' kp' tn).2=(Z7 k1 yo has ND a kp tn).2):=by
 have hb:=NC ha hk
 unfold Z7
 generalize eK a kp=x at hb ⊢
 generalize eK a' kp'=x' at hb ⊢
 cases k1 <;> cases yo <;> cases has <;> cases ND <;> first | exact ⟨ha,fun _ _=>rfl⟩ | exact ⟨hb,fun _ _=>rfl⟩ | exact ⟨mU.rfl' _,fun _ _=>rfl⟩
theorem XH (c:eu) (o:ke) (sign:Int) (links:List Int) (eff:List cC) (hl:links.length≤1000000):aK c o sign links eff =
  Z7 ((c.view.now.af.getD (aw c.view sign).toNat default).kind == 1) (mf c) (cD c.view.now.aA) ((eff.getD (aw c.view sign).toNat default).eI) (eK o.state (eff.getD sign.toNat default).binds)
   (il c.r c.forum c.view.all (aw c.view sign) c.view.day).all (bif !(bD links (aw c.view sign)) then (1+(EP links o.sign:Int)) else (yi links (aw c.view sign) o.sign:Int)):=Dx c o sign links eff hl
theorem QN {c:eu} {F G:List Fact} {o o':ke} {sign:Int} {links:List Int} {eff eff':List cC} (hl:links.length≤1000000) (ha:ta c.view.all F) (ho:o'.sign=o.sign∧mU o.state o'.state)
  (hb:mU (eff.getD sign.toNat default).binds (eff'.getD sign.toNat default).binds) (hr:(eff'.getD (aw c.view sign).toNat default).eI=(eff.getD (aw c.view sign).toNat default).eI) :
  mU (aK c o sign links eff).1 (aK (cF c F G) o' sign links eff').1∧((aK c o sign links eff).1≠0→(aK (cF c F G) o' sign links eff').1≠0→(aK (cF c F G) o' sign links eff').2=(aK c o sign links eff).2):=by
 have acK:aw (cF c F G).view sign=aw c.view sign:=aa6 c.view { c.view.all with facts:=F } { c.view.now with facts:=G } rfl sign
 have e1:=XH c o sign links eff hl
 have e2:=XH (cF c F G) o' sign links eff' hl
 rw [acK,hr,ho.1] at e2
 rw [e1,e2]
 exact aa7 _ _ _ _ _ (NC ho.2 hb) (Zg c.r c.forum (aw c.view sign) c.view.day ha)
theorem QO {r:ah} {forum:Int} {f:al} {day:Int} {c:Claim} {part:Int} {o:ke} {sign:Int} (ht:(aC r forum f day).2=true) (h:aa3 r forum f day c part o sign):c∈bV r forum f day:=by
 rw [wI,ht,Bool.not_true,cond_false]
 unfold zJ
 rw [show (aC r forum f day).1.view=aB f day by rw [BX ht]]
 refine List.mem_flatMap.2 ⟨part,h.lead,List.mem_flatMap.2 ⟨o,h.own,List.mem_flatMap.2 ⟨sign,h.li,?_⟩⟩⟩
 unfold n3
 rw [show (aC r forum f day).1.view=aB f day by rw [BX ht],iw]
 have hc:((aK (aC r forum f day).1 o sign (aj (aB f day) part) (aQ r forum f day)).1 == 0||((ai f day).af.getD sign.toNat default).dt == o.fA)=false:=by
  simp only [Bool.or_eq_false_iff,beq_eq_false_iff_ne,ne_eq]
  exact ⟨h.st,h.ne⟩
 rw [hc,cond_false,List.mem_singleton]
 exact h.eq
theorem XI {r:ah} {forum:Int} {f:al} {day:Int} {c:Claim} (h:c∈bV r forum f day):(aC r forum f day).2=true:=by
 rw [wI] at h
 cases ht:(aC r forum f day).2 with
 | true=>rfl
 | false=>rw [ht] at h; cases h
theorem XJ (r:ah) (forum:Int) (f:al) (F:List Fact) (day:Int):(aC r forum { f with facts:=F } day).2=(aC r forum f day).2:=by
 have e:∀ f,(aC r forum f day).2 = !((decide (forum < 0))||(decide (forum≥((r.aE.length:Nat):Int)))):=fun f=>by
  unfold aC qH
  dsimp +instances only [Sk.eQ,Sk.iG,Sk.cO,gn.xS,kk,kp,bg.A2]
  cases (decide (forum < 0))||(decide (forum≥((r.aE.length:Nat):Int))) <;> rfl
 rw [e,e]
theorem NF (f:al) (F:List Fact) (day:Int):aB { f with facts:=F } day = { aB f day with all:={ f with facts:=F },now:={ ai f day with facts:=sF f F day } }:=by
 rw [Aj,Aj,Gs]; rfl
theorem Ar {r:ah} {forum:Int} {f:al} (F:List Fact) {day:Int} (ht:(aC r forum f day).2=true):(aC r forum { f with facts:=F } day).1=cF (aC r forum f day).1 F (sF f F day):=by
 rw [BX ht,BX (by rw [XJ]; exact ht),qa r forum f F day,NF f F day]
 have a:=rU f day
 have b:=iw f day
 unfold cF
 dsimp only
 rw [a,b]
theorem vb (f:al) (F:List Fact) (day part:Int):aj (aB { f with facts:=F } day) part=aj (aB f day) part:=by
 have e:∀ v,aj v part=(ky v.all part v.day).af:=fun v=>rfl
 rw [e,e,rU,rU,Ju,Ju]
 exact congrArg I4.af (show ky { f with facts:=F } part day=ky f part day by kernel_rfl)
theorem QP (f:al) (F:List Fact) (day part cz:Int) (links:List Int):aZ (aB { f with facts:=F } day) part cz links=aZ (aB f day) part cz links:=by
 rw [NF]
 have b:=iw f day
 generalize aB f day=v at b ⊢
 rw [← b]
 rw [Ai,Ai]
 have key:∀ n,pW { v with all:={ f with facts:=F },now:={ v.now with facts:=sF f F day } } part cz links n=pW v part cz links n:=by
  intro n
  induction n with
  | zero=>rfl
  | succ n ih =>
   simp only [pW]
   rw [ih]
   have hp:eV { v with all:={ f with facts:=F },now:={ v.now with facts:=sF f F day } } ((n:Nat):Int)=eV v ((n:Nat):Int):=by kernel_rfl
   unfold vx
   rw [hp]
   rfl
 rw [key]
theorem Vo {r:ah} {forum:Int} {f:al} {F:List Fact} {day:Int} (h:ta f F) (hF:cm r f) (T1:cm r { f with facts:=F }) (hR:r.dj) :
  (∀ c,c∈bV r forum f day→c.state=1→∃ c',c'∈bV r forum { f with facts:=F } day∧yS c' c∧c'.state=1∧c.sum≤c'.sum)∧∀ c',c'∈bV r forum { f with facts:=F } day→∃ c,c∈bV r forum f day∧yS c' c:=by
 have Jq:=h.at day
 have vc:∀ part,(aj (aB f day) part).length≤1000000:=fun part=>by have:=ER (f:=f) (day:=day) (part:=part); have:=hF.2.1.1; omega
 have eb:∀ i:Int,0≤i→i < ((ai f day).af.length:Int)→mU ((aQ r forum f day).getD i.toNat default).binds ((aQ r forum { f with facts:=F } day).getD i.toNat default).binds∧((aQ r forum { f with facts:=F } day).getD i.toNat default).eI=((aQ r forum f day).getD i.toNat default).eI:=by
  intro i h0 h1
  rw [Fp r forum f day (by omega),Fp r forum { f with facts:=F } day (by rw [Gs]; show i.toNat < (ai f day).af.length; omega),TZ r forum f F day]
  exact ⟨NB (JG h) _,SM _ _ _⟩
 have bs:∀ {c part o sign},aa3 r forum f day c part o sign∨sign∈aZ (aB f day) part o.sign (aj (aB f day) part)→0≤sign∧sign < ((ai f day).af.length:Int)∧0≤aw (aB f day) sign∧aw (aB f day) sign < ((ai f day).af.length:Int):=by
  intro c part o sign hf
  have JQ:sign∈aZ (aB f day) part o.sign (aj (aB f day) part):=hf.elim (fun q=>q.li) (fun q=>q)
  have hm:=rT (BS JQ).2
  rw [iw] at hm
  have hB:(aB f day).jD:=by unfold View.jD; rw [iw]; exact hF.MY day
  have:=nf (aB f day) hB (sign.toNat+1) sign hm.1 (by rw [iw]; exact hm.2.1) (by omega)
  have e:aw (aB f day) sign=aW (sign.toNat+1) (aB f day) sign:=by kernel_rfl
  rw [e]
  have h2:=hm.2.1
  exact ⟨hm.1,h2,this.1,by omega⟩
 refine ⟨fun c hc h1=>?_,fun c' Tb=>?_⟩
 ·have ht:=XI hc
  obtain ⟨he,part,o,sign,k⟩:=va hc
  have hb:=bs (.inl k)
  have e1:=congrArg Claim.state k.eq
  rw [h1] at e1
  have e1:(aK (aC r forum f day).1 o sign (aj (aB f day) part) (aQ r forum f day)).1=1:=e1.symm
  have hv:(aC r forum f day).1.view=aB f day:=by rw [he]
  have ho1:o.state=1:=by
   rcases (Jc k.own).2 with q | q
   ·exact q
   ·exfalso
    rw [Dx _ _ _ _ _ (vc part)] at e1
    have e:∀ a b,eK a b=bif (a == 0)||(b == 0) then 0 else bif (a == 2)||(b == 2) then 2 else 1:=fun a b=>by kernel_rfl
    have nb:∀ b,eK 2 b≠1:=fun b=>by
     rw [e]; cases b == 0 with
     | true=>exact (by decide:(0:Int)≠1)
     | false=>exact (by decide:(2:Int)≠1)
    have nb2:∀ a b,eK a b=1→a=1∨(a≠0∧a≠2):=fun a b Zy=>by
     rw [e] at Zy
     by_cases a0:a=0
     ·subst a0; exact absurd Zy (by show (0:Int)≠1; decide)
     ·by_cases a2:a=2
      ·subst a2; rw [← e] at Zy; exact absurd Zy (nb b)
      ·exact .inr ⟨a0,a2⟩
    rw [q] at e1
    generalize aw (aC r forum f day).1.view sign=b at e1
    cases hk:((aC r forum f day).1.view.now.af.getD b.toNat default).kind == 1 with
    | true =>
     rw [hk,cond_true] at e1
     cases hp:mf (aC r forum f day).1 with
     | false=>rw [hp] at e1; exact absurd e1 (by show (0:Int)≠1; decide)
     | true=>rw [hp] at e1; exact nb _ e1
    | false =>
     rw [hk,cond_false] at e1
     cases hp:((!(mf (aC r forum f day).1))&&(!(cD (aC r forum f day).1.view.now.aA)))||(!(((aQ r forum f day).getD b.toNat default).eI)) with
     | true=>rw [hp] at e1; exact absurd e1 (by show (0:Int)≠1; decide)
     | false =>
      rw [hp,cond_false] at e1
      have r2:=Jt 2 ((aQ r forum f day).getD sign.toNat default).binds
      rcases nb2 _ _ e1 with w | ⟨w1,w2⟩
      ·exact nb _ w
      ·rcases r2 with r2 | r2 | r2
       ·exact w1 r2
       ·exact nb _ r2
       ·exact w2 r2
  have kj:=QN (c:=(aC r forum f day).1) (F:=F) (G:=sF f F day) (o:=o) (o':=o) (links:=aj (aB f day) part) (eff:=aQ r forum f day) (eff':=aQ r forum { f with facts:=F } day) (sign:=sign) (vc part) (by rw [hv,rU]; exact h) ⟨rfl,mU.rfl' _⟩ (eb sign hb.1 hb.2.1).1 (by rw [hv]; exact (eb _ hb.2.2.1 hb.2.2.2).2)
  have s1:=kj.1 (by rw [e1]; decide)
  rw [e1] at s1
  have acL:=kj.2 (by rw [e1]; decide) (by rw [s1]; decide)
  have DL:o∈bn (aC r forum { f with facts:=F } day).1 (aj (aB { f with facts:=F } day) part):=by
   rw [Ar F ht,vb]
   exact Fq (by rw [hv,iw]; exact Jq) _ _ _ _ k.own ho1
  refine ⟨{ c with dR:=(aK (cF (aC r forum f day).1 F (sF f F day)) o sign (aj (aB f day) part) (aQ r forum { f with facts:=F } day)).2,sum:=(gj r forum { f with facts:=F } sign day).rest,state:=1 },QO (part:=part) (o:=o) (sign:=sign) (by rw [XJ]; exact ht) ⟨?_,DL,?_,?_,?_,?_⟩,⟨⟨rfl,rfl,rfl,rfl,rfl⟩,?_,rfl⟩,rfl,?_⟩
  ·rw [NF]; exact k.lead
  ·rw [QP,vb]; exact k.li
  ·rw [Ar F ht,vb,s1]; decide
  ·rw [Gs]; exact k.ne
  ·rw [k.eq,Ar F ht,vb f F day part,Gs f F day,s1]
  ·rw [k.eq]; exact acL
  ·rw [k.eq]; exact Zl sign day h hF T1 hR
 ·have ht':=XI Tb
  have ht:(aC r forum f day).2=true:=by rw [← XJ r forum f F day]; exact ht'
  obtain ⟨-,part,o',sign,k⟩:=va Tb
  have he:=BX ht
  have hv:(aC r forum f day).1.view=aB f day:=by rw [he]
  have DL:=k.own
  rw [Ar F ht,vb] at DL
  obtain ⟨o,ko,k1,k2,k3⟩:=zM (c:=(aC r forum f day).1) (by rw [hv,iw]; exact Jq) _ _ _ _ o' rfl rfl (mU.rfl' _) DL
  have JQ:=k.li
  rw [QP,vb,k2] at JQ
  have hb:=bs (c:=c') (.inr JQ)
  have kj:=QN (c:=(aC r forum f day).1) (F:=F) (G:=sF f F day) (o:=o) (o':=o') (links:=aj (aB f day) part) (eff:=aQ r forum f day) (eff':=aQ r forum { f with facts:=F } day) (sign:=sign) (vc part) (by rw [hv,rU]; exact h) ⟨k2,k3⟩ (eb sign hb.1 hb.2.1).1 (by rw [hv]; exact (eb _ hb.2.2.1 hb.2.2.2).2)
  have s1:=k.st
  rw [Ar F ht,vb] at s1
  have s0:(aK (aC r forum f day).1 o sign (aj (aB f day) part) (aQ r forum f day)).1≠0:=fun e=>s1 (by rw [kj.1 (by rw [e]; decide),e])
  have xN:=k.ne
  rw [Gs,k1] at xN
  refine ⟨_,QO (part:=part) (o:=o) (sign:=sign) ht ⟨?_,ko,JQ,s0,xN,rfl⟩,?_⟩
  ·have:=k.lead; rw [NF] at this; exact this
  ·rw [k.eq,Ar F ht,vb,Gs]
   exact ⟨⟨rfl,k1,rfl,rfl,k2⟩,kj.2 s0 s1,rfl⟩
theorem XK {α:Type} (g:α→α) (l:List α) (n:Nat):((l.take n).map g++l.drop n).length=l.length:=by
 simp only [List.length_append,List.length_map,List.length_take,List.length_drop]
 omega
theorem QQ {α:Type} [Inhabited α] (g:α→α) {l:List α} {n:Nat} (h:n < l.length):((l.take n).map g++l.drop n).getD n default=l.getD n default:=by
 simp only [List.getD]
 rw [List.getElem?_append_right (by simp; omega)]
 have:n - ((l.take n).map g).length=0:=by simp; omega
 rw [this,List.getElem?_drop,Nat.add_zero]
theorem QR {α:Type} [Inhabited α] (g:α→α) {l:List α} {n:Nat} (h:n < l.length):((l.take n).map g++l.drop n).set n (g (l.getD n default))=(l.take (n+1)).map g++l.drop (n+1):=by
 have h1:((l.take n).map g).length=n:=by simp; omega
 have h2:l[n]?.toList=[l.getD n default]:=by simp [List.getD,h]
 rw [List.set_append_right _ _ (by omega),h1,Nat.sub_self,List.take_add_one,h2,List.drop_eq_getElem_cons h,List.set_cons_zero,List.map_append,List.append_assoc,List.map_cons,List.map_nil,List.singleton_append]
theorem Vp {α:Type} [Inhabited α] (g:α→α) {l:List α} {n:Nat} (h:n < l.length) (hg:g (l.getD n default)=l.getD n default):(l.take n).map g++l.drop n=(l.take (n+1)).map g++l.drop (n+1):=by
 rw [← QR g h,hg,← QQ g h]
 have h2:n < ((l.take n).map g++l.drop n).length:=by rw [XK]; exact h
 generalize (l.take n).map g++l.drop n=m at h2
 refine List.ext_getElem (by simp) (fun i h3 h4=>?_)
 rw [List.getElem_set]
 split
 ·rename_i e
  subst e
  simp [List.getD,h2]
 ·rfl
def keyOf (c:Claim):Int × Int × Int × Int × Int:=(c.aF,c.ak,c.part,c.sign,c.cz)
theorem gr {x y:Claim}:dw x y↔keyOf x=keyOf y:=by
 unfold dw keyOf
 simp only [Prod.mk.injEq]
def lk (L:List Claim) (k:Int × Int × Int × Int × Int):Option Claim:=L.find? fun x=>decide (keyOf x=k)
theorem aa8 (k:Int × Int × Int × Int × Int):lk [] k=none:=rfl
theorem tc (x:Claim) (r:List Claim) (k:Int × Int × Int × Int × Int):lk (x :: r) k=if keyOf x=k then some x else lk r k:=by
 unfold lk
 rw [List.find?_cons]
 by_cases h:keyOf x=k <;> simp [h]
theorem oB {L:List Claim} {k:Int × Int × Int × Int × Int} {x:Claim} (h:lk L k=some x):x∈L∧keyOf x=k:=by
 unfold lk at h
 exact ⟨List.mem_of_find?_eq_some h,by have:=List.find?_some h; simpa using this⟩
theorem Fs {L:List Claim} (h:L.Pairwise fun x y=>¬ dw x y) {x:Claim} (hx:x∈L):lk L (keyOf x)=some x:=by
 induction L with
 | nil=>cases hx
 | cons y r ih =>
  rw [List.pairwise_cons] at h
  rw [tc]
  rcases List.mem_cons.1 hx with rfl | hx
  ·rw [if_pos rfl]
  ·rw [if_neg (fun e=>h.1 x hx (gr.2 e)),ih h.2 hx]
def lq (f:Claim→Claim) (c:Claim):List Claim→List Claim
 | []=>[c]
 | x :: r=>if keyOf x=keyOf c then f x :: r else x :: lq f c r
theorem QS {f:Claim→Claim} {c:Claim}:∀ (l:List Claim),(∀ i,i < l.length→¬ dw (l.getD i default) c)→lq f c l=l++[c]
 | [],_=>rfl
 | x :: r,h=>by
  have h0:¬ keyOf x=keyOf c:=fun e=>h 0 (by simp) (gr.2 e)
  simp only [lq,if_neg h0,List.cons_append]
  rw [QS r fun i hi=>h (i+1) (by simpa using hi)]
theorem LS {f:Claim→Claim} {c:Claim}:∀ (l:List Claim) (i:Nat),l.Pairwise (fun x y=>¬ dw x y)→i < l.length→dw (l.getD i default) c→lq f c l=l.set i (f (l.getD i default))
 | [],i,_,h,_=>absurd h (by simp)
 | x :: r,0,_,_,hk=>by
  have hk:keyOf x=keyOf c:=gr.1 hk
  simp only [lq,if_pos hk]; rfl
 | x :: r,i+1,hp,h,hk=>by
  rw [List.pairwise_cons] at hp
  have hi:i < r.length:=by simpa using h
  have hk:dw (r.getD i default) c:=hk
  have h0:¬ keyOf x=keyOf c:=fun e=>hp.1 _ (j2 hi) ((gr.2 e).tr hk.comm)
  simp only [lq,if_neg h0]
  rw [LS r i hp.2 hi hk]; rfl
theorem rY.eq {f:Claim→Claim} {l x:List Claim} {c:Claim} (h:rY f l c x) (hp:l.Pairwise fun x y=>¬ dw x y):x=lq f c l:=by
 rcases h with ⟨i,hi,hk,rfl⟩ | ⟨hn,rfl⟩
 ·exact (LS l i hp hi hk).symm
 ·exact (QS l hn).symm
theorem JJ {f:Claim→Claim} {c:Claim} (hf:∀ x,keyOf (f x)=keyOf x) (k:Int × Int × Int × Int × Int):∀ l,lk (lq f c l) k=if keyOf c=k then some ((lk l k).elim c f) else lk l k
 | []=>by
  show lk [c] k=_
  rw [tc,aa8]; rfl
 | x :: r=>by
  by_cases hx:keyOf x=keyOf c
  ·simp only [lq,if_pos hx]
   rw [tc,tc,hf,hx]
   by_cases hk:keyOf c=k
   ·rw [if_pos hk,if_pos hk,if_pos hk]; rfl
   ·rw [if_neg hk,if_neg hk,if_neg hk]
  ·simp only [lq,if_neg hx]
   rw [tc,tc,JJ hf k r]
   by_cases hk:keyOf c=k
   ·have:¬ keyOf x=k:=fun e=>hx (e.trans hk.symm)
    rw [if_neg this,if_neg this]
   ·rw [if_neg hk,if_neg hk]
theorem LU {f:Claim→Claim} {c z:Claim}:∀ {l:List Claim},z∈lq f c l→z=c∨z∈l∨∃ x,x∈l∧keyOf x=keyOf c∧z=f x
 | [],h=>.inl (List.mem_singleton.1 h)
 | x :: r,h=>by
  by_cases hx:keyOf x=keyOf c
  ·simp only [lq,if_pos hx] at h
   rcases List.mem_cons.1 h with rfl | h
   ·exact .inr (.inr ⟨x,by simp,hx,rfl⟩)
   ·exact .inr (.inl (by simp [h]))
  ·simp only [lq,if_neg hx] at h
   rcases List.mem_cons.1 h with rfl | h
   ·exact .inr (.inl (by simp))
   ·rcases LU h with h | h | ⟨y,h1,h2⟩
    ·exact .inl h
    ·exact .inr (.inl (by simp [h]))
    ·exact .inr (.inr ⟨y,by simp [h1],h2⟩)
theorem B2 {f:Claim→Claim} {c:Claim} (hf:∀ x,keyOf (f x)=keyOf x):∀ {l:List Claim},l.Pairwise (fun x y=>¬ dw x y)→(lq f c l).Pairwise fun x y=>¬ dw x y
 | [],_=>List.pairwise_singleton _ _
 | x :: r,h=>by
  have h':=h
  rw [List.pairwise_cons] at h
  by_cases hx:keyOf x=keyOf c
  ·simp only [lq,if_pos hx]
   rw [List.pairwise_cons]
   exact ⟨fun y hy e=>h.1 y hy (gr.2 ((hf x).symm.trans (gr.1 e))),h.2⟩
  ·simp only [lq,if_neg hx]
   rw [List.pairwise_cons]
   refine ⟨fun y hy e=>?_,B2 hf h.2⟩
   rcases LU hy with rfl | hy | ⟨z,h1,h2,rfl⟩
   ·exact hx (gr.1 e)
   ·exact h.1 y hy e
   ·exact h.1 z h1 (gr.2 ((gr.1 e).trans (hf z)))
theorem XL (c x:Claim):keyOf (fG c x)=keyOf x:=rfl
theorem XM (c x:Claim):keyOf (fJ c x)=keyOf x:=rfl
def mh (a:bh) (x:Claim):Claim:={ x with ak:=a.dt,cz:=a.at_,sum:=iJ a x }
def LV (a:bh) (kind:Int) (st:Bool) (x:Claim):Bool:=dE a st x&&(((kind != 1)&&((x.dR == 0)||(decide (x.sign < a.at_))))&&(x.aF != a.dt))
def fB (a:bh) (kind:Int) (st:Bool) (mn:List Claim) (x:Claim):List Claim:=bif LV a kind st x then oL mn (mh a x) else mn
def stepOf (a:bh) (st:Bool) (x:Claim):List Step:=bif dE a st x then [{ aF:=x.aF,ak:=x.ak,sign:=x.sign,sum:=iJ a x }] else []
theorem JK (l:List Claim) (a:bh) (kind:Int) (st:Bool):(gQ l a kind st).1=(l.foldl (fB a kind st) []).foldl jb (l.map (gh a st)):=by
 unfold gQ kC
 dsimp +instances only [Sk.dh,Sk.gd,Sk.iZ,Sk.eQ,Sk.iG,Sk.lU,Sk.Mv,Sk.cO,gn.xS,kk,kp,bg.pq,yO.xS,iY.xS,nH,uL,mq,oO]
 have yx:pz l=l:=(uK l).2
 rw [yx]
 have h1:=Ah l.length (fun n=>((l.take n).map (gh a st)++l.drop n,(l.take n).flatMap (stepOf a st),(l.take n).foldl (fB a kind st) [])) (fun s i=>(s.1,s.2.1,s.2.2,i))
  (f:=fun i3:List Claim × List Step × List Claim × Nat=>bif decide ((i3.2.2.2:Int) < ((l.length:Nat):Int)) then
   bif !(dE a st (l.getD i3.2.2.2 default)) then Sum.inr (i3.1,i3.2.1,i3.2.2.1,i3.2.2.2+1) else
   bif (((kind != 1)&&((((l.getD i3.2.2.2 default).dR) == 0)||(decide (((l.getD i3.2.2.2 default).sign) < a.at_))))&&(((l.getD i3.2.2.2 default).aF) != a.dt)) then
    Sum.inr (i3.1.set i3.2.2.2 ({ i3.1.getD i3.2.2.2 default with sum:=au ((cg 0 ((l.getD i3.2.2.2 default).sum)) - (bL (cg 0 a.sum) (cg 0 ((l.getD i3.2.2.2 default).sum)))) }),i3.2.1++[({ aF:=(l.getD i3.2.2.2 default).aF,ak:=(l.getD i3.2.2.2 default).ak,sign:=(l.getD i3.2.2.2 default).sign,sum:=bL (cg 0 a.sum) (cg 0 ((l.getD i3.2.2.2 default).sum)) }:Step)],oL i3.2.2.1 ({ l.getD i3.2.2.2 default with ak:=a.dt,cz:=a.at_,sum:=bL (cg 0 a.sum) (cg 0 ((l.getD i3.2.2.2 default).sum)) }),i3.2.2.2+1)
   else Sum.inr (i3.1.set i3.2.2.2 ({ i3.1.getD i3.2.2.2 default with sum:=au ((cg 0 ((l.getD i3.2.2.2 default).sum)) - (bL (cg 0 a.sum) (cg 0 ((l.getD i3.2.2.2 default).sum)))) }),i3.2.1++[({ aF:=(l.getD i3.2.2.2 default).aF,ak:=(l.getD i3.2.2.2 default).ak,sign:=(l.getD i3.2.2.2 default).sign,sum:=bL (cg 0 a.sum) (cg 0 ((l.getD i3.2.2.2 default).sum)) }:Step)],i3.2.2.1,i3.2.2.2+1)
   else Sum.inl (Sum.inr (i3.1,i3.2.1,i3.2.2.1)))
  (d:=(default:(List Claim × List Step) ⊕ (List Claim × List Step × List Claim)))
  (fun s=>Sum.inr s) (fun i hi=>by
   have et:l.take (i+1)=l.take i++[l.getD i default]:=by
    rw [List.take_succ_eq_append_getElem hi]; simp [List.getD,hi]
   have e2:(l.take (i+1)).flatMap (stepOf a st)=(l.take i).flatMap (stepOf a st)++stepOf a st (l.getD i default):=by rw [et]; simp
   have e3:(l.take (i+1)).foldl (fB a kind st) []=fB a kind st ((l.take i).foldl (fB a kind st) []) (l.getD i default):=by rw [et,List.foldl_append]; rfl
   dsimp only
   rw [decide_eq_true (by omega),cond_true,e2,e3]
   cases hm:dE a st (l.getD i default) with
   | false =>
    have er:gh a st (l.getD i default)=l.getD i default:=by unfold gh; rw [hm]; rfl
    have es:stepOf a st (l.getD i default)=[]:=by unfold stepOf; rw [hm]; rfl
    have ei:∀ s,fB a kind st s (l.getD i default)=s:=fun s=>by unfold fB LV; rw [hm]; rfl
    rw [Vp _ hi er,es,ei,List.append_nil]; rfl
   | true =>
    have er:gh a st (l.getD i default) = { l.getD i default with sum:=au ((cg 0 ((l.getD i default).sum)) - (bL (cg 0 a.sum) (cg 0 ((l.getD i default).sum)))) }:=by unfold gh iJ; rw [hm]; rfl
    have es:stepOf a st (l.getD i default)=[({ aF:=(l.getD i default).aF,ak:=(l.getD i default).ak,sign:=(l.getD i default).sign,sum:=bL (cg 0 a.sum) (cg 0 ((l.getD i default).sum)) }:Step)]:=by unfold stepOf iJ; rw [hm]; rfl
    have ei:∀ s,fB a kind st s (l.getD i default)=bif (((kind != 1)&&((((l.getD i default).dR) == 0)||(decide (((l.getD i default).sign) < a.at_))))&&(((l.getD i default).aF) != a.dt)) then oL s (mh a (l.getD i default)) else s:=fun s=>by unfold fB LV; rw [hm,Bool.true_and]
    rw [QQ _ hi,← er,QR _ hi,es,ei,Bool.not_true,cond_false]
    cases (((kind != 1)&&((((l.getD i default).dR) == 0)||(decide (((l.getD i default).sign) < a.at_))))&&(((l.getD i default).aF) != a.dt)) <;> rfl)
  (by dsimp only; rw [decide_eq_false (by omega),cond_false]) (m:=l.length - 0+1) (by omega)
 rw [List.take_length,List.drop_length,List.append_nil] at h1
 refine (congrArg (fun q=>(gI q fun b2:List Claim × List Step × List Claim=>gI (iter (fun i7:List Claim × Nat=>bif decide ((i7.2:Int) < ((b2.2.2.length:Nat):Int)) then Sum.inr (jb i7.1 (b2.2.2.getD i7.2 default),i7.2+1) else Sum.inl (Sum.inr i7.1)) (default:(List Claim × List Step) ⊕ List Claim) (b2.2.2.length - 0+1) (b2.1,0)) fun b6=>(b6,b2.2.1)).1) h1).trans ?_
 refine (congrArg Prod.fst (eX (l.foldl (fB a kind st) []) (fun s i=>(s,i)) (fun c v=>.inr (jb v c)) (fun v=>v) (fun b6=>(b6,l.flatMap (stepOf a st))) (fun s i hi=>?_) (fun s=>?_) (by dsimp only; omega) (l.map (gh a st)))).trans ?_
 ·dsimp only
  rw [decide_eq_true (by omega),cond_true]
 ·dsimp only
  rw [decide_eq_false (by omega),cond_false]
 ·rw [j1 (fun c v=>jb v c)]
def T4 (a:bh) (kind:Int) (st:Bool) (P:List Claim) (k:Int × Int × Int × Int × Int):Option Claim→Prop
 | none=>∀ x,x∈P→LV a kind st x=true→keyOf (mh a x)≠k
 | some c=>((c.state=1∨c.state=2)∧keyOf c=k∧∃ x,x∈P∧LV a kind st x=true∧keyOf (mh a x)=k∧c.dR=x.dR)∧(∃ x,x∈P∧LV a kind st x=true∧keyOf (mh a x)=k∧c.sum=iJ a x)∧(∀ x,x∈P→LV a kind st x=true→keyOf (mh a x)=k→iJ a x≤c.sum)∧(c.state=1↔∀ x,x∈P→LV a kind st x=true→keyOf (mh a x)=k→x.state=1)
def Spec (a:bh) (kind:Int) (st:Bool) (P mn:List Claim):Prop:=(mn.Pairwise fun x y=>¬ dw x y)∧∀ k,T4 a kind st P k (lk mn k)
theorem NG {a b:Int} (ha:a=1∨a=2) (hb:b=1∨b=2):nk a b=1↔a=1∧b=1:=by
 have e11:nk 1 1=1:=by kernel_rfl
 have e12:nk 1 2=2:=by kernel_rfl
 have e21:nk 2 1=2:=by kernel_rfl
 have e22:nk 2 2=2:=by kernel_rfl
 rcases ha with rfl | rfl <;> rcases hb with rfl | rfl <;> simp [e11,e12,e21,e22]
theorem T4.acM {a:bh} {kind:Int} {st:Bool} {P:List Claim} {k:Int × Int × Int × Int × Int} {o:Option Claim} (h:T4 a kind st P k o) {x:Claim} (hx:LV a kind st x=true→keyOf (mh a x)≠k):T4 a kind st (P++[x]) k o:=by
 have hm:∀ y,y∈P++[x]→LV a kind st y=true→keyOf (mh a y)=k→y∈P:=fun y hy h1 h2=>by
  rcases List.mem_append.1 hy with hy | hy
  ·exact hy
  ·rw [List.mem_singleton.1 hy] at h1 h2; exact absurd h2 (hx h1)
 cases o with
 | none=>exact fun y hy h1 h2=>h y (hm y hy h1 h2) h1 h2
 | some c =>
  obtain ⟨⟨h1,h2,y,hy,k1,k2⟩,⟨z,hz,k3⟩,k4,k5⟩:=h
  refine ⟨⟨h1,h2,y,List.mem_append_left _ hy,k1,k2⟩,⟨z,List.mem_append_left _ hz,k3⟩,fun y hy q1 q2=>k4 y (hm y hy q1 q2) q1 q2,k5.trans ⟨fun q y hy q1 q2=>q y (hm y hy q1 q2) q1 q2,fun q y hy q1 q2=>q y (List.mem_append_left _ hy) q1 q2⟩⟩
theorem Spec.step {a:bh} {kind:Int} {st:Bool} {P mn:List Claim} (h:Spec a kind st P mn) {x:Claim} (hx:x.state=1∨x.state=2):Spec a kind st (P++[x]) (fB a kind st mn x):=by
 unfold fB
 cases hs:LV a kind st x with
 | false=>exact ⟨h.1,fun k=>(h.2 k).acM (fun e=>absurd e (by rw [hs]; decide))⟩
 | true =>
  have e:oL mn (mh a x)=lq (fG (mh a x)) (mh a x) mn:=(yT mn (mh a x)).eq h.1
  rw [cond_true,e]
  refine ⟨B2 (XL _) h.1,fun k=>?_⟩
  rw [JJ (XL _)]
  by_cases hk:keyOf (mh a x)=k
  ·rw [if_pos hk]
   have hq:=h.2 k
   have hP:∀ (Q:Claim→Prop),(∀ y,y∈P++[x]→LV a kind st y=true→keyOf (mh a y)=k→Q y)↔(∀ y,y∈P→LV a kind st y=true→keyOf (mh a y)=k→Q y)∧Q x:=fun Q =>
    ⟨fun q=>⟨fun y hy=>q y (List.mem_append_left _ hy),q x (by simp) hs hk⟩,fun q y hy q1 q2=>by
     rcases List.mem_append.1 hy with hy | hy
     ·exact q.1 y hy q1 q2
     ·rw [List.mem_singleton.1 hy]; exact q.2⟩
   cases ho:lk mn k with
   | none =>
    rw [ho] at hq
    refine ⟨⟨hx,hk,x,by simp,hs,hk,rfl⟩,⟨x,by simp,hs,hk,rfl⟩,(hP _).2 ⟨fun y hy q1 q2=>absurd q2 (hq y hy q1),Int.le_refl _⟩,Iff.trans ⟨fun q=>⟨fun y hy q1 q2=>absurd q2 (hq y hy q1),q⟩,fun q=>q.2⟩ (hP _).symm⟩
   | some c =>
    rw [ho] at hq
    obtain ⟨⟨h1,h2,y,hy,k1,k1',k2⟩,⟨z,hz,k3,k3',aey⟩,k4,k5⟩:=hq
    have kj:(fG (mh a x) c).state=1↔x.state=1∧c.state=1:=NG (a:=x.state) (b:=c.state) hx h1
    have Vw:(fG (mh a x) c).sum=cg c.sum (iJ a x):=rfl
    refine ⟨⟨RY (a:=x.state) (b:=c.state) hx h1,h2,y,List.mem_append_left _ hy,k1,k1',k2⟩,?_,(hP _).2 ⟨fun y hy q1 q2=>?_,?_⟩,Iff.trans ?_ (hP _).symm⟩
    ·show ∃ w,w∈P++[x]∧_∧_∧(fG (mh a x) c).sum=_
     rw [Vw]
     unfold cg
     split
     ·exact ⟨x,by simp,hs,hk,rfl⟩
     ·exact ⟨z,List.mem_append_left _ hz,k3,k3',aey⟩
    ·have:=k4 y hy q1 q2
     show _≤(fG (mh a x) c).sum
     rw [Vw]; unfold cg; split <;> omega
    ·show _≤(fG (mh a x) c).sum
     rw [Vw]; unfold cg; split <;> omega
    ·exact kj.trans ⟨fun q=>⟨k5.1 q.2,q.1⟩,fun q=>⟨q.2,k5.2 q.1⟩⟩
  ·rw [if_neg hk]
   exact (h.2 k).acM (fun _=>hk)
theorem Spec.all {a:bh} {kind:Int} {st:Bool}:∀ (l P mn:List Claim),Spec a kind st P mn→(∀ x,x∈l→x.state=1∨x.state=2)→Spec a kind st (P++l) (l.foldl (fB a kind st) mn)
 | [],P,mn,h,_=>by rw [List.append_nil]; exact h
 | x :: r,P,mn,h,hl=>by
  have:=Spec.all r (P++[x]) _ (h.step (hl x (by simp))) (fun y hy=>hl y (by simp [hy]))
  rwa [List.append_assoc] at this
theorem Spec.of {a:bh} {kind:Int} {st:Bool} {l:List Claim} (hl:∀ x,x∈l→x.state=1∨x.state=2):Spec a kind st l (l.foldl (fB a kind st) []):=by
 have:=Spec.all (a:=a) (kind:=kind) (st:=st) l [] [] ⟨.nil,fun k x hx=>by simp at hx⟩ hl
 rwa [List.nil_append] at this
theorem JL {k:Int × Int × Int × Int × Int}:∀ (mn v:List Claim),(mn.Pairwise fun x y=>¬ dw x y)→(v.Pairwise fun x y=>¬ dw x y)→((mn.foldl jb v).Pairwise fun x y=>¬ dw x y)∧lk (mn.foldl jb v) k=(lk mn k).elim (lk v k) fun c=>some ((lk v k).elim c (fJ c))
 | [],v,_,hv=>⟨hv,rfl⟩
 | c :: r,v,hi,hv=>by
  rw [List.pairwise_cons] at hi
  have e:jb v c=lq (fJ c) c v:=(A5 v c).eq hv
  have h:=JL (k:=k) r (jb v c) hi.2 (by rw [e]; exact B2 (XM _) hv)
  rw [List.foldl_cons]
  refine ⟨h.1,h.2.trans ?_⟩
  rw [e,JJ (XM _),tc]
  by_cases hk:keyOf c=k
  ·rw [if_pos hk,if_pos hk]
   have:lk r k=none:=by
    cases hr:lk r k with
    | none=>rfl
    | some y =>
     obtain ⟨m1,m2⟩:=oB hr
     exact absurd (gr.2 (hk.trans m2.symm)) (hi.1 y m1)
   rw [this]; rfl
  ·rw [if_neg hk,if_neg hk]
theorem XN:∀ {mn v:List Claim} {z:Claim},(mn.Pairwise fun x y=>¬ dw x y)→(v.Pairwise fun x y=>¬ dw x y)→z∈mn.foldl jb v→z∈v∨z∈mn∨∃ x c,x∈v∧c∈mn∧z=fJ c x:=fun {mn v z} hi hv hz=>by
 obtain ⟨h1,h2⟩:=JL (k:=keyOf z) mn v hi hv
 have h3:=Fs h1 hz
 rw [h2] at h3
 cases hc:lk mn (keyOf z) with
 | none=>rw [hc] at h3; exact .inl (oB h3).1
 | some c =>
  rw [hc] at h3
  cases hx:lk v (keyOf z) with
  | none=>rw [hx] at h3; have h3:some c=some z:=h3; cases h3; exact .inr (.inl (oB hc).1)
  | some x=>rw [hx] at h3; have h3:some (fJ c x)=some z:=h3; cases h3; exact .inr (.inr ⟨x,c,(oB hx).1,(oB hc).1,rfl⟩)
structure SO (Z:Int→Prop) (L:List Claim):Prop where
 pair:L.Pairwise fun x y=>¬ dw x y
 cl:∀ x,x∈L→HW x
 dR:∀ x,x∈L→(x.dR=0↔Z x.sign)
structure Gr (L L':List Claim):Prop where
 old:∀ k x',lk L' k=some x'→∃ x,lk L k=some x
 yes:∀ k x,lk L k=some x→x.state=1→∃ x',lk L' k=some x'∧x'.state=1∧x.sum≤x'.sum
theorem NH (a:bh) (st:Bool) (x:Claim):keyOf (gh a st x)=keyOf x:=gr.1 (CG a st x).1
theorem SP (a:bh) (st:Bool) (k:Int × Int × Int × Int × Int):∀ l:List Claim,lk (l.map (gh a st)) k=(lk l k).map (gh a st)
 | []=>rfl
 | x :: r=>by
  rw [List.map_cons,tc,tc,NH,SP a st k r]
  split <;> rfl
theorem LW (a:bh) (st:Bool) (x:Claim):(gh a st x).state=x.state:=by unfold gh; cases dE a st x <;> rfl
theorem JM {a:bh} {st:Bool} {l:List Claim} (h:l.Pairwise fun x y=>¬ dw x y):(l.map (gh a st)).Pairwise fun x y=>¬ dw x y:=by
 rw [List.pairwise_map]
 exact h.imp fun h e=>h (gr.2 (by have:=gr.1 e; rwa [NH,NH] at this))
theorem JN {a:bh} {x:Claim} (h:HW x):jK (iJ a x):=by
 have h:=h.1
 unfold jK iJ bL cg at *
 (repeat' split) <;> omega
theorem SO.apply {Z:Int→Prop} {L:List Claim} (h:SO Z L) (a:bh) (kind:Int) (st:Bool):SO Z (gQ L a kind st).1:=by
 have hs:=Spec.of (a:=a) (kind:=kind) (st:=st) fun x hx=>(h.cl x hx).2
 have hv:=JM (a:=a) (st:=st) h.pair
 rw [JK]
 have ci:∀ c,c∈L.foldl (fB a kind st) []→HW c∧(c.dR=0↔Z c.sign):=fun c hc=>by
  have hk:=hs.2 (keyOf c)
  rw [Fs hs.1 hc] at hk
  obtain ⟨⟨h1,-,y,hy,-,k1,k2⟩,⟨z,hz,-,-,k3⟩,-,-⟩:=hk
  refine ⟨⟨by rw [k3]; exact JN (h.cl z hz),h1⟩,?_⟩
  have:y.sign=c.sign:=congrArg (fun q:Int × Int × Int × Int × Int=>q.2.2.2.1) k1
  rw [k2,← this]; exact h.dR y hy
 have cv:∀ c,c∈L.map (gh a st)→HW c∧(c.dR=0↔Z c.sign):=fun c hc=>by
  obtain ⟨x,hx,rfl⟩:=List.mem_map.1 hc
  have e:=CG a st x
  exact ⟨GL (h.cl x hx),by rw [e.2.1,e.1.2.2.2.1]; exact h.dR x hx⟩
 have all:∀ z,z∈(L.foldl (fB a kind st) []).foldl jb (L.map (gh a st))→HW z∧(z.dR=0↔Z z.sign):=fun z hz=>by
  rcases XN hs.1 hv hz with hz | hz | ⟨x,c,hx,hc,rfl⟩
  ·exact cv z hz
  ·exact ci z hz
  ·exact ⟨WY (ci c hc).1 (cv x hx).1,(cv x hx).2⟩
 exact ⟨(JL (k:=keyOf default) _ _ hs.1 hv).1,fun z hz=>(all z hz).1,fun z hz=>(all z hz).2⟩
theorem NI {Z:Int→Prop} {a:bh} {kind:Int} {st:Bool} {x y:Claim} (hk:keyOf x=keyOf y) (hx:x.dR=0↔Z x.sign) (hy:y.dR=0↔Z y.sign):LV a kind st x=LV a kind st y∧dE a st x=dE a st y:=by
 obtain ⟨e1,e2,e3,e4,e5⟩:=gr.2 hk
 have et:(x.dR == 0)=(y.dR == 0):=by
  have:x.dR=0↔y.dR=0:=by rw [hx,hy,e4]
  cases h:y.dR == 0 with
  | true=>rw [beq_iff_eq] at h ⊢; exact this.2 h
  | false=>rw [beq_eq_false_iff_ne] at h ⊢; exact fun q=>h (this.1 q)
 have em:dE a st x=dE a st y:=by rw [ja,ja,e2]
 unfold LV
 rw [em,et,e4,e1]
 exact ⟨rfl,rfl⟩
theorem GV {a:bh} {x y:Claim} (hk:keyOf x=keyOf y):keyOf (mh a x)=keyOf (mh a y):=by
 obtain ⟨e1,e2,e3,e4,e5⟩:=gr.2 hk
 exact gr.1 ⟨e1,rfl,e3,e4,rfl⟩
theorem Zn {a:bh} {x y:Claim} (h:x.sum≤y.sum):iJ a x≤iJ a y:=by
 unfold iJ bL cg; (repeat' split) <;> omega
theorem Gr.apply {Z:Int→Prop} {L L':List Claim} (h:SO Z L) (h':SO Z L') (hg:Gr L L') (a:bh) (kind:Int) (st:Bool):Gr (gQ L a kind st).1 (gQ L' a kind st).1:=by
 have hs:=Spec.of (a:=a) (kind:=kind) (st:=st) fun x hx=>(h.cl x hx).2
 have vK:=Spec.of (a:=a) (kind:=kind) (st:=st) fun x hx=>(h'.cl x hx).2
 have back:∀ x',x'∈L'→∃ x,x∈L∧keyOf x=keyOf x'∧LV a kind st x=LV a kind st x'∧(x.state=1→x'.state=1∧x.sum≤x'.sum):=fun x' Vs=>by
  have JY:=Fs h'.pair Vs
  obtain ⟨x,hx⟩:=hg.old _ _ JY
  obtain ⟨m1,m2⟩:=oB hx
  refine ⟨x,m1,m2,(NI m2 (h.dR x m1) (h'.dR x' Vs)).1,fun h1=>?_⟩
  obtain ⟨y,y1,y2,y3⟩:=hg.yes _ x hx h1
  rw [JY] at y1
  cases y1
  exact ⟨y2,y3⟩
 have fwd:∀ x,x∈L→x.state=1→∃ x',x'∈L'∧keyOf x'=keyOf x∧LV a kind st x'=LV a kind st x∧x.sum≤x'.sum:=fun x hx h1=>by
  obtain ⟨x',y1,y2,y3⟩:=hg.yes _ x (Fs h.pair hx) h1
  obtain ⟨m1,m2⟩:=oB y1
  exact ⟨x',m1,m2,(NI m2 (h'.dR x' m1) (h.dR x hx)).1,y3⟩
 have io:∀ k c',lk (L'.foldl (fB a kind st) []) k=some c'→∃ c,lk (L.foldl (fB a kind st) []) k=some c:=fun k c' Tb=>by
  have q:=vK.2 k
  rw [Tb] at q
  obtain ⟨-,⟨z,hz,z1,z2,-⟩,-,-⟩:=q
  obtain ⟨x,x1,x2,x3,-⟩:=back z hz
  have q:=hs.2 k
  cases hc:lk (L.foldl (fB a kind st) []) k with
  | some c=>exact ⟨c,rfl⟩
  | none=>rw [hc] at q; exact absurd ((GV x2).trans z2) (q x x1 (by rw [x3]; exact z1))
 have iy:∀ k c,lk (L.foldl (fB a kind st) []) k=some c→c.state=1→∃ c',lk (L'.foldl (fB a kind st) []) k=some c'∧c'.state=1∧c.sum≤c'.sum:=fun k c hc h1=>by
  have q:=hs.2 k
  rw [hc] at q
  obtain ⟨-,⟨z,hz,z1,z2,z3⟩,-,k5⟩:=q
  have pa:=k5.1 h1
  obtain ⟨z',w1,w2,w3,w4⟩:=fwd z hz (pa z hz z1 z2)
  have q:=vK.2 k
  cases Tb:lk (L'.foldl (fB a kind st) []) k with
  | none=>rw [Tb] at q; exact absurd ((GV w2).trans z2) (q z' w1 (by rw [w3]; exact z1))
  | some c' =>
   rw [Tb] at q
   obtain ⟨-,-,k4',k5'⟩:=q
   refine ⟨c',rfl,k5'.2 fun y hy q1 q2=>?_,?_⟩
   ·obtain ⟨x,x1,x2,x3,x4⟩:=back y hy
    exact (x4 (pa x x1 (by rw [x3]; exact q1) ((GV x2).trans q2))).1
   ·rw [z3]
    exact Int.le_trans (Zn w4) (k4' z' w1 (by rw [w3]; exact z1) ((GV w2).trans z2))
 have vo:∀ k x',lk (L'.map (gh a st)) k=some x'→∃ x,lk (L.map (gh a st)) k=some x:=fun k x' Vs=>by
  rw [SP] at Vs ⊢
  cases hy:lk L' k with
  | none=>rw [hy] at Vs; cases Vs
  | some y =>
   obtain ⟨x,hx⟩:=hg.old k y hy
   exact ⟨_,by rw [hx]; rfl⟩
 have vy:∀ k x,lk (L.map (gh a st)) k=some x→x.state=1→∃ x',lk (L'.map (gh a st)) k=some x'∧x'.state=1∧x.sum≤x'.sum:=fun k x hx h1=>by
  rw [SP] at hx ⊢
  cases hy:lk L k with
  | none=>rw [hy] at hx; cases hx
  | some y =>
   rw [hy] at hx
   have hx:some (gh a st y)=some x:=hx
   cases hx
   rw [LW] at h1
   obtain ⟨y',y1,y2,y3⟩:=hg.yes k y hy h1
   refine ⟨gh a st y',by rw [y1]; rfl,by rw [LW]; exact y2,?_⟩
   obtain ⟨m1,m2⟩:=oB hy
   obtain ⟨n1,n2⟩:=oB y1
   have em:=(NI (Z:=Z) (a:=a) (kind:=kind) (st:=st) (m2.trans n2.symm) (h.dR y m1) (h'.dR y' n1)).2
   have c1:=(h.cl y m1).1
   have c2:=(h'.cl y' n1).1
   unfold gh
   rw [em]
   cases dE a st y' with
   | false=>exact y3
   | true =>
    show au _≤au _
    unfold iJ jK at *
    have a0:0≤cg 0 a.sum:=by unfold cg; split <;> omega
    generalize cg 0 a.sum=A at a0 ⊢
    rw [show cg 0 y.sum=y.sum by unfold cg; split <;> omega,show cg 0 y'.sum=y'.sum by unfold cg; split <;> omega]
    have b1:0≤bL A y.sum∧bL A y.sum≤y.sum:=by unfold bL; split <;> omega
    have b2:0≤bL A y'.sum∧bL A y'.sum≤y'.sum:=by unfold bL; split <;> omega
    rw [aG (by omega) (by omega),aG (by omega) (by omega)]
    unfold bL; split <;> split <;> omega
 have hv:=JM (a:=a) (st:=st) h.pair
 have hv':=JM (a:=a) (st:=st) h'.pair
 have ci:∀ k c,lk (L.foldl (fB a kind st) []) k=some c→HW c:=fun k c hc=>by
  have q:=hs.2 k
  rw [hc] at q
  obtain ⟨⟨h1,-⟩,⟨z,hz,-,-,k3⟩,-⟩:=q
  exact ⟨by rw [k3]; exact JN (h.cl z hz),h1⟩
 have ci':∀ k c,lk (L'.foldl (fB a kind st) []) k=some c→HW c:=fun k c hc=>by
  have q:=vK.2 k
  rw [hc] at q
  obtain ⟨⟨h1,-⟩,⟨z,hz,-,-,k3⟩,-⟩:=q
  exact ⟨by rw [k3]; exact JN (h'.cl z hz),h1⟩
 have cv:∀ k c,lk (L.map (gh a st)) k=some c→HW c:=fun k c hc=>by
  obtain ⟨x,hx,e⟩:=List.mem_map.1 (oB hc).1
  rw [← e]; exact GL (h.cl x hx)
 have cv':∀ k c,lk (L'.map (gh a st)) k=some c→HW c:=fun k c hc=>by
  obtain ⟨x,hx,e⟩:=List.mem_map.1 (oB hc).1
  rw [← e]; exact GL (h'.cl x hx)
 rw [JK,JK]
 refine ⟨fun k z' hz'=>?_,fun k z hz h1=>?_⟩
 ·rw [(JL _ _ vK.1 hv').2] at hz'
  rw [(JL _ _ hs.1 hv).2]
  cases Tb:lk (L'.foldl (fB a kind st) []) k with
  | some c' =>
   obtain ⟨c,hc⟩:=io k c' Tb
   rw [hc]; exact ⟨_,rfl⟩
  | none =>
   rw [Tb] at hz'
   obtain ⟨x,hx⟩:=vo k z' hz'
   rw [hx]
   cases lk (L.foldl (fB a kind st) []) k <;> exact ⟨_,rfl⟩
 ·rw [(JL _ _ hs.1 hv).2] at hz
  rw [(JL _ _ vK.1 hv').2]
  cases hc:lk (L.foldl (fB a kind st) []) k with
  | none =>
   rw [hc] at hz
   obtain ⟨x',x1,x2,x3⟩:=vy k z hz h1
   cases Tb:lk (L'.foldl (fB a kind st) []) k with
   | none=>exact ⟨x',x1,x2,x3⟩
   | some c'=>obtain ⟨c0,DN⟩:=io k c' Tb; rw [hc] at DN; cases DN
  | some c =>
   rw [hc] at hz
   cases hx:lk (L.map (gh a st)) k with
   | none =>
    rw [hx] at hz
    have hz:some c=some z:=hz
    have hz:c=z:=Option.some.inj hz
    subst z
    obtain ⟨c',c1,c2,c3⟩:=iy k c hc h1
    rw [c1]
    cases Vs:lk (L'.map (gh a st)) k with
    | none=>exact ⟨c',rfl,c2,c3⟩
    | some x'=>obtain ⟨x,YB⟩:=vo k x' Vs; rw [hx] at YB; cases YB
   | some x =>
    rw [hx] at hz
    have hz:some (fJ c x)=some z:=hz
    cases hz
    have px:=cv k x hx
    have pc:=ci k c hc
    obtain ⟨s1,s2⟩:=(NG (a:=x.state) (b:=c.state) px.2 pc.2).1 h1
    obtain ⟨c',c1,c2,c3⟩:=iy k c hc s2
    obtain ⟨x',x1,x2,x3⟩:=vy k x hx s1
    have px':=cv' k x' x1
    have pc':=ci' k c' c1
    rw [c1,x1]
    refine ⟨_,rfl,(NG (a:=x'.state) (b:=c'.state) px'.2 pc'.2).2 ⟨x2,c2⟩,?_⟩
    show bL 1099511627776 (au (x.sum+c.sum))≤bL 1099511627776 (au (x'.sum+c'.sum))
    have p1:=px.1
    have p2:=pc.1
    have p3:=px'.1
    have p4:=pc'.1
    unfold jK at *
    rw [aG (by omega) (by omega),aG (by omega) (by omega)]
    unfold bL; split <;> split <;> omega
def oa (g:al) (l:List Claim) (a:bh):List Claim:=bif (((a.kind != 6)||(decide (a.at_ < 0)))||(decide (a.at_≥((g.af.length:Nat):Int)))) then l else (gQ l a (g.af.getD a.at_.toNat default).kind (!(kN g.af a))).1
theorem Bd (r:ah) (forum:Int) (f:al) (day:Int):oA r forum f day=(ai f day).aA.foldl (oa (ai f day)) (bV r forum f day):=by
 have e0:oA r forum f day=(Ao r forum f day).1:=by kernel_rfl
 rw [e0]
 unfold Ao oz
 dsimp +instances only [Sk.val,Sk.dh,Sk.gd,Sk.iZ,Sk.eQ,Sk.iG,Sk.lU,Sk.Mv,Sk.cO,Sk.aaL,Sk.aaK,Sk.Ty,Sk.Tz,gn.xS,kk,kp,bg.pq,ch,Nr,ga,iY.xS,sO]
 refine (congrArg Prod.fst (eX (ai f day).aA (fun s i=>(s,i)) (fun a l=>.inr (oa (ai f day) l a)) (fun l=>l) (fun b3=>(b3,())) (fun s i hi=>?_) (fun s=>?_) (by omega) (bV r forum f day))).trans ?_
 ·dsimp only
  rw [decide_eq_true (by omega),cond_true]
  unfold oa
  cases ((((((ai f day).aA.getD i default).kind) != 6)||(decide ((((ai f day).aA.getD i default).at_) < 0)))||(decide ((((ai f day).aA.getD i default).at_)≥(((ai f day).af.length:Nat):Int)))) with
  | true=>rfl
  | false =>
   rw [cond_false,cond_false]
   generalize gQ s ((ai f day).aA.getD i default) ((ai f day).af.getD ((ai f day).aA.getD i default).at_.toNat default).kind (!(kN (ai f day).af ((ai f day).aA.getD i default)))=w
   refine Eq.trans (congrArg (fun q=>gI (gI q _) _) (Ah w.2.length (fun k=>(w.2.take k).foldl (fun m (s:Step)=>sJ m s.ak true) ([]:List (Int × Bool))) (fun s i=>(i,s)) (fun s=>Sum.inr (((w.2.length:Nat):Int),s)) (fun k hk=>?_) ?_ (by omega))) ?_
   ·dsimp only
    rw [decide_eq_true (by omega),cond_true,List.take_succ_eq_append_getElem hk,List.foldl_append,show w.2.getD k default=w.2[k] by simp [List.getD,hk]]
    rfl
   ·dsimp only
    rw [decide_eq_false (by omega),cond_false,List.take_length]
   ·rfl
 ·dsimp only
  rw [decide_eq_false (by omega),cond_false]
 ·rw [j1 (fun a l=>oa (ai f day) l a)]
theorem XO {Z:Int→Prop} (g g':al) (hs:g'.af=g.af):∀ (aA:List bh) (L L':List Claim),SO Z L→SO Z L'→Gr L L'→SO Z (aA.foldl (oa g) L)∧SO Z (aA.foldl (oa g') L')∧Gr (aA.foldl (oa g) L) (aA.foldl (oa g') L')
 | [],L,L',h,h',hg=>⟨h,h',hg⟩
 | a :: r,L,L',h,h',hg=>by
  rw [List.foldl_cons,List.foldl_cons]
  have e:∀ l,oa g' l a=oa g l a:=fun l=>by unfold oa; rw [hs]
  rw [e]
  unfold oa
  cases (((a.kind != 6)||(decide (a.at_ < 0)))||(decide (a.at_≥((g.af.length:Nat):Int)))) with
  | true=>exact XO g g' hs r L L' h h' hg
  | false=>exact XO g g' hs r _ _ (h.apply _ _ _) (h'.apply _ _ _) (hg.apply h h' _ _ _)
def T5 (f:al) (day s:Int):Prop:=((ai f day).af.getD (aw (aB f day) s).toNat default).kind=1
theorem T6 {r:ah} {forum:Int} {f:al} {day:Int} (hF:cm r f) (hR:r.dj):SO (T5 f day) (bV r forum f day):=by
 refine ⟨(Qu r forum f day).imp fun h e=>h ⟨e.2.2.1,e.2.2.2.1,e.2.2.2.2⟩,fun c hc=>?_,fun c hc=>?_⟩
 ·have:=Qt hF hR hc
  exact ⟨this.2.2.2.2.2.2.1,this.2.2.2.2.2.1⟩
 ·obtain ⟨b,hb,-,-,h,-⟩:=QM hF hc
  rw [hb] at h
  exact h
theorem Vq {r:ah} {forum:Int} {f:al} {F:List Fact} {day:Int} (h:ta f F) (hF:cm r f) (T1:cm r { f with facts:=F }) (hR:r.dj) :
  SO (T5 f day) (oA r forum f day)∧SO (T5 f day) (oA r forum { f with facts:=F } day)∧Gr (oA r forum f day) (oA r forum { f with facts:=F } day):=by
 obtain ⟨g1,g2⟩:=Vo (forum:=forum) (day:=day) h hF T1 hR
 have o1:=T6 (forum:=forum) (day:=day) hF hR
 have o2:=T6 (forum:=forum) (day:=day) T1 hR
 have o3:SO (T5 f day) (bV r forum { f with facts:=F } day):=by
  refine ⟨o2.pair,o2.cl,fun c hc=>?_⟩
  obtain ⟨d,hd,e⟩:=g2 c hc
  rw [e.2.1,e.1.2.2.2.1]
  exact o1.dR d hd
 rw [Bd,Bd,show (ai { f with facts:=F } day).aA=(ai f day).aA by rw [Gs]]
 refine XO _ _ (by rw [Gs]) _ _ _ o1 o3 ⟨fun k x' Vs=>?_,fun k x hx h1=>?_⟩
 ·obtain ⟨m1,m2⟩:=oB Vs
  obtain ⟨c,hc,e⟩:=g2 x' m1
  exact ⟨c,by rw [← m2,gr.1 e.1]; exact Fs o1.pair hc⟩
 ·obtain ⟨m1,m2⟩:=oB hx
  obtain ⟨c',hc,e,s1,s2⟩:=g1 x m1 h1
  exact ⟨c',by rw [← m2,← gr.1 e.1]; exact Fs o2.pair hc,s1,s2⟩
theorem LX {r:ah} {f:al} (h:MT r f=true):f.facts.length≤220:=by
 have h1:GM r f=true:=by
  cases e:GM r f with
  | true=>rfl
  | false =>
   simp only [MT,qx,Sk.iG,Sk.eQ,Sk.cO,bg.A2,bg.Pq,gn.xS,kk,kp,Ab,e,Bool.false_and] at h
   exact absurd h (by decide)
 have h2:CI f=true:=by
  cases e:CI f with
  | true=>rfl
  | false =>
   simp only [GM,qv,Sk.dh,Sk.iG,Sk.eQ,Sk.cO,bg.A2,bg.Pq,gn.xS,kk,kp,Aa,e,Bool.not_false,Bool.or_true,cond_true] at h1
   exact absurd h1 (by decide)
 simp only [CI,qu,Sk.iG,Sk.cO,LN] at h2
 omega
def Vr (a b:Claim):Prop:=dw a b∧b.state=1∧a.sum≤b.sum
theorem JO {a b:Claim}:(((((a.aF == b.aF)&&(a.ak == b.ak))&&(a.part == b.part))&&(a.sign == b.sign))&&(a.cz == b.cz))=true↔dw a b:=by
 simp only [Bool.and_eq_true,beq_iff_eq,and_assoc]; rfl
theorem T7 {a b:Claim}:(((((((a.aF == b.aF)&&(a.ak == b.ak))&&(a.part == b.part))&&(a.sign == b.sign))&&(a.cz == b.cz))&&(b.state == 1))&&(decide (b.sum≥a.sum)))=true↔Vr a b:=by
 rw [Bool.and_eq_true,Bool.and_eq_true,JO,beq_iff_eq,decide_eq_true_eq]
 exact ⟨fun h=>⟨h.1.1,h.1.2,h.2⟩,fun h=>⟨⟨h.1,h.2.1⟩,h.2.2⟩⟩
theorem QT {L:List Claim} {x:Claim} (h:x∈L):∃ q,q < L.length∧L.getD q default=x:=by
 obtain ⟨i,hi,rfl⟩:=List.getElem_of_mem h
 exact ⟨i,hi,by simp [List.getD,hi]⟩
theorem XP {Z:Int→Prop} {L L':List Claim} (h:SO Z L) (hg:Gr L L') {i:Nat} (hi:i < L.length) (h1:(L.getD i default).state=1):∃ q,q < L'.length∧Vr (L.getD i default) (L'.getD q default):=by
 obtain ⟨x',y1,y2,y3⟩:=hg.yes _ _ (Fs h.pair (j2 hi)) h1
 obtain ⟨m1,m2⟩:=oB y1
 obtain ⟨q,hq,e⟩:=QT m1
 exact ⟨q,hq,by rw [e]; exact ⟨gr.2 m2.symm,y2,y3⟩⟩
theorem XQ {Z:Int→Prop} {L L':List Claim} (h:SO Z L') (hg:Gr L L') {i:Nat} (hi:i < L'.length):∃ q,q < L.length∧dw (L.getD q default) (L'.getD i default):=by
 obtain ⟨x,hx⟩:=hg.old _ _ (Fs h.pair (j2 hi))
 obtain ⟨m1,m2⟩:=oB hx
 obtain ⟨q,hq,e⟩:=QT m1
 exact ⟨q,hq,by rw [e]; exact gr.2 m2⟩
theorem JA.right {r:ah} {f g:al} (h:JA f g) (hF:cm r f) (hl:g.facts.length≤300):cm r g:=by
 obtain ⟨F,rfl,-⟩:=h
 exact ⟨hF.1,⟨hF.2.1.1,hF.2.1.2.1,hF.2.1.2.2.1,hF.2.1.2.2.2.1,hl⟩,hF.2.2.1,hF.2.2.2.1,hF.2.2.2.2⟩
def kW (r:ah) (forum:Int) (f:al) (day:Int) (facts:List Fact):Sk (Bool) :=
 .r 1 yU.c fun x1 =>
 .r 2 ((Ee r f).c) fun x2 =>
 .br ((!x2)||(decide (((facts.length:Nat):Int) > 60)))
 (.fin x1)
 (.bind true (fun b3=>JA f b3∧b3.facts.length≤f.facts.length+facts.length)
 (.loop (default:Sum (Bool) (al)) (fun i4=>i4.1≤facts.length∧JA f i4.2∧i4.2.facts.length≤f.facts.length+i4.1) (fun i4=>facts.length - i4.1) ((0,f):Nat × al)
 (fun (i4:Nat × al)=>⟨[(13,iv (i4.1:Int))],[(12,.box (i4.2.cells.map .d))]⟩) fun i4 =>
 .lt 4 0 i4.1 facts.length
 (.r 8 (.p (bG (i4.1:Int) facts.length)) fun _ =>
 .br ((((((decide (((facts.getD i4.1 default).kind)≥0))&&(decide (((facts.getD i4.1 default).kind) < 5)))&&(decide (((facts.getD i4.1 default).at_)≥0)))&&(decide (((facts.getD i4.1 default).at_) < ((f.af.length:Nat):Int))))&&(decide (((facts.getD i4.1 default).n)≥0)))&&(decide (((facts.getD i4.1 default).n)≤1)))
 (.r 10 ((Bx i4.2 (facts.getD i4.1 default)).c) fun x5 =>
 .nx 7 13 i4.1 (i4.1+1,x5))
 (.nx 7 13 i4.1 (i4.1+1,i4.2)))
 (.fin (.inl (.inr i4.2))))
 (fun (b3:al)=>⟨[],[(12,.box (b3.cells.map .d))]⟩) fun b3 =>
 .r 11 ((s9 r forum f day).c) fun x6 =>
 .r 12 ((s9 r forum b3 day).c) fun x7 =>
 .bt
 (.loop (default:Sum (Bool) (Unit)) (fun i9=>i9≤x6.length) (fun i9=>x6.length - i9) (0:Nat)
 (fun (i9:Nat)=>⟨[(17,iv (i9:Int))],[]⟩) fun i9 =>
 .lt 15 0 i9 x6.length
 (.bt
 (.r 16 (.p (bG (i9:Int) x6.length)) fun _ =>
 .bind true (fun UU=>((x6.getD i9 default).state≠1∨∃ q,q < x7.length∧Vr (x6.getD i9 default) (x7.getD q default))→UU.1=true)
 (.loop (default:Sum (Sum (Sum (Sum (Bool) (Unit)) (Nat)) (Unit)) (Bool × Int)) (fun i12=>i12.2≤x7.length∧(((x6.getD i9 default).state≠1∨∃ q,q < i12.2∧Vr (x6.getD i9 default) (x7.getD q default))→i12.1=true)) (fun i12=>x7.length - i12.2) ((((x6.getD i9 default).state) != 1,0):Bool × Nat)
 (fun (i12:Bool × Nat)=>⟨[(18,bv i12.1),(19,iv (i12.2:Int))],[]⟩) fun i12 =>
 .lt 16 0 i12.2 x7.length
 (.r 20 (.aq (.p (bG (i9:Int) x6.length)) (.aq (.p (bG (i12.2:Int) x7.length)) (.aq (.wh (((x6.getD i9 default).aF) == ((x7.getD i12.2 default).aF)) true (.p (bG (i9:Int) x6.length))) (.aq (.wh (((x6.getD i9 default).aF) == ((x7.getD i12.2 default).aF)) true (.p (bG (i12.2:Int) x7.length))) (.aq (.wh ((((x6.getD i9 default).aF) == ((x7.getD i12.2 default).aF))&&(((x6.getD i9 default).ak) == ((x7.getD i12.2 default).ak))) true (.p (bG (i9:Int) x6.length))) (.aq (.wh ((((x6.getD i9 default).aF) == ((x7.getD i12.2 default).aF))&&(((x6.getD i9 default).ak) == ((x7.getD i12.2 default).ak))) true (.p (bG (i12.2:Int) x7.length))) (.aq (.wh (((((x6.getD i9 default).aF) == ((x7.getD i12.2 default).aF))&&(((x6.getD i9 default).ak) == ((x7.getD i12.2 default).ak)))&&(((x6.getD i9 default).part) == ((x7.getD i12.2 default).part))) true (.p (bG (i9:Int) x6.length))) (.aq (.wh (((((x6.getD i9 default).aF) == ((x7.getD i12.2 default).aF))&&(((x6.getD i9 default).ak) == ((x7.getD i12.2 default).ak)))&&(((x6.getD i9 default).part) == ((x7.getD i12.2 default).part))) true (.p (bG (i12.2:Int) x7.length))) (.aq (.wh ((((((x6.getD i9 default).aF) == ((x7.getD i12.2 default).aF))&&(((x6.getD i9 default).ak) == ((x7.getD i12.2 default).ak)))&&(((x6.getD i9 default).part) == ((x7.getD i12.2 default).part)))&&(((x6.getD i9 default).sign) == ((x7.getD i12.2 default).sign))) true (.p (bG (i9:Int) x6.length))) (.wh ((((((x6.getD i9 default).aF) == ((x7.getD i12.2 default).aF))&&(((x6.getD i9 default).ak) == ((x7.getD i12.2 default).ak)))&&(((x6.getD i9 default).part) == ((x7.getD i12.2 default).part)))&&(((x6.getD i9 default).sign) == ((x7.getD i12.2 default).sign))) true (.p (bG (i12.2:Int) x7.length)))))))))))) fun _ =>
 .r 21 (.aq (.wh i12.1 false (.wh (((((((x6.getD i9 default).aF) == ((x7.getD i12.2 default).aF))&&(((x6.getD i9 default).ak) == ((x7.getD i12.2 default).ak)))&&(((x6.getD i9 default).part) == ((x7.getD i12.2 default).part)))&&(((x6.getD i9 default).sign) == ((x7.getD i12.2 default).sign)))&&(((x6.getD i9 default).cz) == ((x7.getD i12.2 default).cz))) true (.p (bG (i12.2:Int) x7.length)))) (.aq (.wh i12.1 false (.wh ((((((((x6.getD i9 default).aF) == ((x7.getD i12.2 default).aF))&&(((x6.getD i9 default).ak) == ((x7.getD i12.2 default).ak)))&&(((x6.getD i9 default).part) == ((x7.getD i12.2 default).part)))&&(((x6.getD i9 default).sign) == ((x7.getD i12.2 default).sign)))&&(((x6.getD i9 default).cz) == ((x7.getD i12.2 default).cz)))&&(((x7.getD i12.2 default).state) == 1)) true (.p (bG (i12.2:Int) x7.length)))) (.wh i12.1 false (.wh ((((((((x6.getD i9 default).aF) == ((x7.getD i12.2 default).aF))&&(((x6.getD i9 default).ak) == ((x7.getD i12.2 default).ak)))&&(((x6.getD i9 default).part) == ((x7.getD i12.2 default).part)))&&(((x6.getD i9 default).sign) == ((x7.getD i12.2 default).sign)))&&(((x6.getD i9 default).cz) == ((x7.getD i12.2 default).cz)))&&(((x7.getD i12.2 default).state) == 1)) true (.p (bG (i9:Int) x6.length)))))) fun _ =>
 .r 19 .z fun _ =>
 .wi 19 (au ((i12.2:Int)+1)) ((i12.2+1:Nat):Int) <|
 .fin (.inr (i12.1||(((((((((x6.getD i9 default).aF) == ((x7.getD i12.2 default).aF))&&(((x6.getD i9 default).ak) == ((x7.getD i12.2 default).ak)))&&(((x6.getD i9 default).part) == ((x7.getD i12.2 default).part)))&&(((x6.getD i9 default).sign) == ((x7.getD i12.2 default).sign)))&&(((x6.getD i9 default).cz) == ((x7.getD i12.2 default).cz)))&&(((x7.getD i12.2 default).state) == 1))&&(decide (((x7.getD i12.2 default).sum)≥((x6.getD i9 default).sum)))),i12.2+1)))
 (.fin (.inl (.inr (i12.1,(i12.2:Int))))))
 (fun (UU:Bool × Int)=>⟨[(18,bv UU.1),(19,iv UU.2)],[]⟩) fun UU =>
 .br (!UU.1)
 (.fin (.inl (.inl (.inl false))))
 (.fin (.inr ())))
 (fun (_:Unit)=>⟨[],[]⟩) fun _ =>
 .nx 15 17 i9 (i9+1))
 (.fin (.inl (.inr ()))))
 (fun (_:Unit)=>⟨[],[]⟩) fun _ =>
 .bt
 (.loop (default:Sum (Bool) (Unit)) (fun i14=>i14≤x7.length) (fun i14=>x7.length - i14) (0:Nat)
 (fun (i14:Nat)=>⟨[(21,iv (i14:Int))],[]⟩) fun i14 =>
 .lt 16 0 i14 x7.length
 (.bt
 (.bind true (fun b16=>(∃ q,q < x6.length∧dw (x6.getD q default) (x7.getD i14 default))→b16.1=true)
 (.loop (default:Sum (Sum (Sum (Sum (Bool) (Unit)) (Nat)) (Unit)) (Bool × Int)) (fun i17=>i17.2≤x6.length∧((∃ q,q < i17.2∧dw (x6.getD q default) (x7.getD i14 default))→i17.1=true)) (fun i17=>x6.length - i17.2) ((false,0):Bool × Nat)
 (fun (i17:Bool × Nat)=>⟨[(22,bv i17.1),(23,iv (i17.2:Int))],[]⟩) fun i17 =>
 .lt 15 0 i17.2 x6.length
 (.r 31 (.aq (.wh i17.1 false (.p (bG (i17.2:Int) x6.length))) (.aq (.wh i17.1 false (.p (bG (i14:Int) x7.length))) (.aq (.wh i17.1 false (.wh (((x6.getD i17.2 default).aF) == ((x7.getD i14 default).aF)) true (.p (bG (i17.2:Int) x6.length)))) (.aq (.wh i17.1 false (.wh (((x6.getD i17.2 default).aF) == ((x7.getD i14 default).aF)) true (.p (bG (i14:Int) x7.length)))) (.aq (.wh i17.1 false (.wh ((((x6.getD i17.2 default).aF) == ((x7.getD i14 default).aF))&&(((x6.getD i17.2 default).ak) == ((x7.getD i14 default).ak))) true (.p (bG (i17.2:Int) x6.length)))) (.aq (.wh i17.1 false (.wh ((((x6.getD i17.2 default).aF) == ((x7.getD i14 default).aF))&&(((x6.getD i17.2 default).ak) == ((x7.getD i14 default).ak))) true (.p (bG (i14:Int) x7.length)))) (.aq (.wh i17.1 false (.wh (((((x6.getD i17.2 default).aF) == ((x7.getD i14 default).aF))&&(((x6.getD i17.2 default).ak) == ((x7.getD i14 default).ak)))&&(((x6.getD i17.2 default).part) == ((x7.getD i14 default).part))) true (.p (bG (i17.2:Int) x6.length)))) (.aq (.wh i17.1 false (.wh (((((x6.getD i17.2 default).aF) == ((x7.getD i14 default).aF))&&(((x6.getD i17.2 default).ak) == ((x7.getD i14 default).ak)))&&(((x6.getD i17.2 default).part) == ((x7.getD i14 default).part))) true (.p (bG (i14:Int) x7.length)))) (.aq (.wh i17.1 false (.wh ((((((x6.getD i17.2 default).aF) == ((x7.getD i14 default).aF))&&(((x6.getD i17.2 default).ak) == ((x7.getD i14 default).ak)))&&(((x6.getD i17.2 default).part) == ((x7.getD i14 default).part)))&&(((x6.getD i17.2 default).sign) == ((x7.getD i14 default).sign))) true (.p (bG (i17.2:Int) x6.length)))) (.wh i17.1 false (.wh ((((((x6.getD i17.2 default).aF) == ((x7.getD i14 default).aF))&&(((x6.getD i17.2 default).ak) == ((x7.getD i14 default).ak)))&&(((x6.getD i17.2 default).part) == ((x7.getD i14 default).part)))&&(((x6.getD i17.2 default).sign) == ((x7.getD i14 default).sign))) true (.p (bG (i14:Int) x7.length))))))))))))) fun _ =>
 .r 30 .z fun _ =>
 .wi 23 (au ((i17.2:Int)+1)) ((i17.2+1:Nat):Int) <|
 .fin (.inr (i17.1||(((((((x6.getD i17.2 default).aF) == ((x7.getD i14 default).aF))&&(((x6.getD i17.2 default).ak) == ((x7.getD i14 default).ak)))&&(((x6.getD i17.2 default).part) == ((x7.getD i14 default).part)))&&(((x6.getD i17.2 default).sign) == ((x7.getD i14 default).sign)))&&(((x6.getD i17.2 default).cz) == ((x7.getD i14 default).cz))),i17.2+1)))
 (.fin (.inl (.inr (i17.1,(i17.2:Int))))))
 (fun (b16:Bool × Int)=>⟨[(22,bv b16.1),(23,iv b16.2)],[]⟩) fun b16 =>
 .br (!b16.1)
 (.fin (.inl (.inl (.inl false))))
 (.fin (.inr ())))
 (fun (_:Unit)=>⟨[],[]⟩) fun _ =>
 .nx 26 21 i14 (i14+1))
 (.fin (.inl (.inr ()))))
 (fun (_:Unit)=>⟨[],[]⟩) fun _ =>
 .fin x1)
def qb r forum f day facts:=(kW r forum f day facts).val
theorem wL (r:ah) (forum:Int) (f:al) (day:Int) (facts:List Fact):(kW r forum f day facts).cZ (fun (x:Bool)=>x=true):=by
 refine Sk.bp _ ?_
 unfold kW
 simp only [Sk.cV,Sk.aO,reduceCtorEq,ON,kk,kp,Ee,yU,Bx,s9,maxLen]
 intro x1 _ JT x2 YB XR
 refine ⟨fun _=>JT,fun hc=>⟨⟨⟨Nat.zero_le _,JA.refl f,Nat.le_refl _⟩,fun i hi=>⟨fun eC _=>⟨fun _ x hx _=>⟨⟨by simp only [LN] at eC; omega,by rw [hx]; exact hi.2.1.step _,?_⟩,by simp only [LN] at eC; omega⟩,fun _ _=>⟨⟨by simp only [LN] at eC; omega,hi.2.1,by omega⟩,by simp only [LN] at eC; omega⟩⟩,fun XW=>?_⟩⟩,fun b hb x6 h6 hP6 x7 h7 hP7=>?_⟩⟩
 ·have:=QA i.2 (facts.getD i.1 default)
  rw [hx]
  omega
 ·have e:i.1=facts.length:=by simp only [LN] at XW; omega
  rw [e] at hi
  exact hi.2
 simp only [LN] at hc
 obtain ⟨L7,DN⟩:=hc
 have hR:=XR L7
 have XX:=LX (r:=r) (f:=f) (by rw [← YB]; exact L7)
 have T1:cm r b:=hb.1.right hR.2.2.2.2.2 (by omega)
 obtain ⟨⟨F,rfl,hm⟩,-⟩:=hb
 obtain ⟨G1,G2,G3⟩:=Vq (forum:=forum) (day:=day) hm hR.2.2.2.2.2 T1 hR.2.2.2.2.1
 rw [← h6] at G1 G3
 rw [← h7] at G2 G3
 clear h6 h7 hP6 hP7 hm T1 XR YB hR
 have XS:∀ {p:Nat→Prop} {n:Nat},(∃ q,q < n+1∧p q)→¬ p n→∃ q,q < n∧p q:=fun ⟨q,h1,h2⟩ hn=>⟨q,by rcases Nat.lt_succ_iff_lt_or_eq.1 h1 with h | rfl; exact h; exact absurd h2 hn,h2⟩
 refine ⟨⟨Nat.zero_le _,fun i hi eC=>⟨fun _=>⟨⟨⟨Nat.zero_le _,fun h=>?_⟩,fun j hj=>⟨fun DK _ _ _=>⟨⟨by simp only [LN] at DK; omega,fun h=>?_⟩,by simp only [LN] at DK; omega⟩,fun DK h=>?_⟩⟩,fun b2 wN hf=>?_⟩,fun b2 _ _=>?_⟩⟩,?_⟩
 ·rcases h with h | ⟨q,h,-⟩
  ·simpa using h
  ·exact absurd h (by omega)
 ·rw [Bool.or_eq_true]
  by_cases hh:Vr (x6.getD i default) (x7.getD j.2 default)
  ·exact .inr (T7.2 hh)
  ·left
   refine hj.2 ?_
   rcases h with h | h
   ·exact .inl h
   ·exact .inr (XS h hh)
 ·have e:j.2=x7.length:=by simp only [LN] at DK; omega
  rw [← e] at h
  exact hj.2 h
 ·have hil:i < x6.length:=by simp only [LN] at eC; omega
  have:b2.1=true:=wN (by
   by_cases h1:(x6.getD i default).state=1
   ·exact .inr (XP G1 G3 hil h1)
   ·exact .inl h1)
  rw [this] at hf
  cases hf
 ·simp only [LN] at eC
  exact ⟨by omega,by omega⟩
 refine fun _=>⟨⟨Nat.zero_le _,fun i hi eC=>⟨⟨⟨⟨Nat.zero_le _,fun h=>?_⟩,fun j hj=>⟨fun DK _ _=>⟨⟨by simp only [LN] at DK; omega,fun h=>?_⟩,by simp only [LN] at DK; omega⟩,fun DK h=>?_⟩⟩,fun b2 wN hf=>?_⟩,fun b2 _ _=>?_⟩⟩,fun _=>JT⟩
 ·obtain ⟨q,h,-⟩:=h
  exact absurd h (by omega)
 ·rw [Bool.or_eq_true]
  by_cases hh:dw (x6.getD j.2 default) (x7.getD i default)
  ·exact .inr (JO.2 hh)
  ·exact .inl (hj.2 (XS h hh))
 ·have e:j.2=x6.length:=by simp only [LN] at DK; omega
  rw [← e] at h
  exact hj.2 h
 ·have hil:i < x7.length:=by simp only [LN] at eC; omega
  have:b2.1=true:=wN (XQ G2 G3 hil)
  rw [this] at hf
  cases hf
 ·simp only [LN] at eC
  exact ⟨by omega,by omega⟩
theorem DD (r:ah) (forum:Int) (f:al) (day:Int) (facts:List Fact):(fun (x:Bool)=>x=true) (qb r forum f day facts):=have h:=Sk.de _ (wL r forum f day facts); h
theorem Gt (r:ah) (forum:Int) (f:al) (day:Int) (facts:List Fact):(kW r forum f day facts).bz (fun _=>True):=by
 refine Sk.aX _ ?_
 unfold kW
 simp only [Sk.kq,Sk.aO,reduceCtorEq,ON,kk,kp,Ee,yU,Bx,s9,maxLen]
 intro x1 _ JT x2 YB XR hc
 simp only [LN] at hc
 obtain ⟨L7,DN⟩:=hc
 have hR:=XR L7
 have XX:=LX (r:=r) (f:=f) (by rw [← YB]; exact L7)
 have wn:∀ {i n:Nat},i < n→n≤2 ^ 63 - 1→au ((i:Int)+1)=((i+1:Nat):Int):=fun h h2=>(aG (by omega) (by omega)).trans (by omega)
 have nl:∀ {i n:Nat},decide ((i:Int) < (n:Int))=true→i < n:=fun h=>by simp only [LN] at h; omega
 have ng:∀ {i n:Nat},decide ((i:Int) < (n:Int))=false→i≤n→i=n:=fun h h2=>by simp only [LN] at h; omega
 refine ⟨⟨⟨Nat.zero_le _,JA.refl f,Nat.le_refl _⟩,fun i hi Vw=>⟨fun eC=>?_,fun XW=>?_⟩⟩,fun b hb=>?_⟩
 ·have eC:=nl eC
  refine ⟨by omega,fun _=>⟨fun _=>⟨by omega,fun x hx _=>⟨wn eC Vw,⟨by omega,by rw [hx]; exact hi.2.1.step _,?_⟩,by omega⟩⟩,fun _ _=>⟨wn eC Vw,⟨by omega,hi.2.1,by omega⟩,by omega⟩⟩⟩
  have:=QA i.2 (facts.getD i.1 default)
  rw [hx]
  omega
 ·rw [ng XW hi.1] at hi
  exact hi.2
 have T1:cm r b:=hb.1.right hR.2.2.2.2.2 (by omega)
 have hS:f.Small:=hR.2.2.2.2.2.small
 have hS2:b.Small:=T1.small
 refine ⟨⟨hR.2.2.2.2.2,hS,hR.2.1,hR.1,hR.2.2.2.1,hR.2.2.2.2.1⟩,fun x6 h6 _=>⟨⟨T1,hS2,hR.2.1,hR.1,hR.2.2.2.1,hR.2.2.2.2.1⟩,fun x7 h7 _=>?_⟩⟩
 clear T1 XR YB hR h6 h7
 have XS:∀ {p:Nat→Prop} {n:Nat},(∃ q,q < n+1∧p q)→¬ p n→∃ q,q < n∧p q:=fun ⟨q,h1,h2⟩ hn=>⟨q,by rcases Nat.lt_succ_iff_lt_or_eq.1 h1 with h | rfl; exact h; exact absurd h2 hn,h2⟩
 refine ⟨⟨Nat.zero_le _,fun i hi hm6 eC=>?_⟩,?_⟩
 ·have eC:=nl eC
  refine ⟨⟨by omega,fun _=>⟨⟨Nat.zero_le _,fun h=>?_⟩,fun j hj hm7=>⟨fun DK=>?_,fun DK h=>?_⟩⟩⟩,fun b2 _ _=>⟨wn eC hm6,by omega,by omega⟩⟩
  ·rcases h with h | ⟨q,h,-⟩
   ·simpa using h
   ·exact absurd h (by omega)
  ·have DK:=nl DK
   refine ⟨by (repeat' first | apply And.intro | intro _) <;> omega,fun _=>⟨by (repeat' first | apply And.intro | intro _) <;> omega,fun _ _=>⟨wn DK hm7,⟨by omega,fun h=>?_⟩,by omega⟩⟩⟩
   rw [Bool.or_eq_true]
   by_cases hh:Vr (x6.getD i default) (x7.getD j.2 default)
   ·exact .inr (T7.2 hh)
   ·left
    refine hj.2 ?_
    rcases h with h | h
    ·exact .inl h
    ·exact .inr (XS h hh)
  ·have e:=ng DK hj.1
   rw [← e] at h
   exact hj.2 h
 ·refine fun _=>⟨Nat.zero_le _,fun i hi hm7 eC=>?_⟩
  have eC:=nl eC
  refine ⟨⟨⟨Nat.zero_le _,fun h=>?_⟩,fun j hj hm6=>⟨fun DK=>?_,fun DK h=>?_⟩⟩,fun b2 _ _=>⟨wn eC hm7,by omega,by omega⟩⟩
  ·obtain ⟨q,h,-⟩:=h
   exact absurd h (by omega)
  ·have DK:=nl DK
   refine ⟨by (repeat' first | apply And.intro | intro _) <;> omega,fun _ _=>⟨wn DK hm6,⟨by omega,fun h=>?_⟩,by omega⟩⟩
   rw [Bool.or_eq_true]
   by_cases hh:dw (x6.getD j.2 default) (x7.getD i default)
   ·exact .inr (JO.2 hh)
   ·exact .inl (hj.2 (XS h hh))
  ·have e:=ng DK hj.1
   rw [← e] at h
   exact hj.2 h
def JP r forum f day facts:=kp tok mixed Tryz.func3 [av r.cells,iv forum,av f.cells,iv day,lv Fact.cells facts] (fun x=>bv x) true (qb r forum f day facts) (u0 (Gt r forum f day facts)) (wL r forum f day facts)
theorem Gu (r:ah) (forum:Int) (f:al) (day:Int) (facts:List Fact):gu Tryz.prog 3 [av r.cells,iv forum,av f.cells,iv day,lv Fact.cells facts] [] (bv (qb r forum f day facts)) []:=(JP r forum f day facts).pf trivial
theorem NJ {ds:List D} (h:dN TT 9 ds):∃ c:ByteArray,aL ds (jA c)∧(fun s:ByteArray=>s.size≤maxLen) c:=by
 obtain ⟨x,rfl,w⟩:=h.YE rfl rfl
 exact ⟨x,aL.refl _,w⟩
theorem aa9 {ds:List D} (h:dN TT 22 ds):∃ l:List ByteArray,aL ds [mW jA l]∧(fun l=>∀ x,x∈l→(fun s:ByteArray=>s.size≤maxLen) x) l:=by
 obtain ⟨n,f,rfl,g⟩:=h.fm rfl rfl
 obtain ⟨l,y,-,w⟩:=jM jA (fun s:ByteArray=>s.size≤maxLen) (fun ds h=>NJ h) g
 exact ⟨l,aL.one y,w⟩
theorem bS {ds:List D} (h:dN TT 3 ds):∃ c:Int,aL ds (bU c)∧(fun n=>dW n) c:=by
 obtain ⟨x,rfl,w⟩:=h.Cq rfl rfl
 exact ⟨x,aL.refl _,YF w⟩
theorem SQ {ds:List D} (h:dN TT 64 ds):∃ l:List Int,aL ds [mW bU l]∧(fun l=>∀ x,x∈l→(fun n=>dW n) x) l:=by
 obtain ⟨n,f,rfl,g⟩:=h.fm rfl rfl
 obtain ⟨l,y,-,w⟩:=jM bU (fun n=>dW n) (fun ds h=>bS h) g
 exact ⟨l,aL.one y,w⟩
structure jB.ok (c:jB):Prop where
 name:(fun s:ByteArray=>s.size≤maxLen) c.name
 order:(fun n=>dW n) c.order
 az:(fun n=>dW n) c.az
 rest:(fun l=>∀ x,x∈l→(fun n=>dW n) x) c.rest
 fO:(fun l=>∀ x,x∈l→(fun n=>dW n) x) c.fO
 shut:(fun l=>∀ x,x∈l→(fun n=>dW n) x) c.shut
theorem jB.of {ds:List D} (h:dN TT 159 ds):∃ c:jB,aL ds c.cells∧c.ok:=by
 have q0:=h.dg rfl rfl
 obtain ⟨p0,r0,rfl,h0,q1⟩:=q0.cons_inv
 obtain ⟨x0,y0,w0⟩:=NJ h0
 obtain ⟨p1,r1,rfl,h1,q2⟩:=q1.cons_inv
 obtain ⟨x1,y1,w1⟩:=bS h1
 obtain ⟨p2,r2,rfl,h2,q3⟩:=q2.cons_inv
 obtain ⟨x2,y2,w2⟩:=bS h2
 obtain ⟨p3,r3,rfl,h3,q4⟩:=q3.cons_inv
 obtain ⟨x3,y3,w3⟩:=SQ h3
 obtain ⟨p4,r4,rfl,h4,q5⟩:=q4.cons_inv
 obtain ⟨x4,y4,w4⟩:=SQ h4
 obtain ⟨p5,r5,rfl,h5,q6⟩:=q5.cons_inv
 obtain ⟨x5,y5,w5⟩:=SQ h5
 cases q6.iX
 refine ⟨⟨x0,x1,x2,x3,x4,x5⟩,?_,⟨w0,w1,w2,w3,w4,w5⟩⟩
 have hh:=(aL.append y0 (aL.append y1 (aL.append y2 (aL.append y3 (aL.append y4 (aL.append y5 aL.nil))))))
 simpa only [jB.cells,bU,jA,qf,List.append_assoc,List.cons_append,List.nil_append,List.append_nil] using hh
theorem aba {ds:List D} (h:dN TT 23 ds):∃ l:List jB,aL ds [mW jB.cells l]∧(fun l=>∀ x,x∈l→jB.ok x) l:=by
 obtain ⟨n,f,rfl,g⟩:=h.fm rfl rfl
 obtain ⟨l,y,-,w⟩:=jM jB.cells jB.ok (fun ds h=>jB.of h) g
 exact ⟨l,aL.one y,w⟩
structure mZ.ok (c:mZ):Prop where
 Px:(fun n=>dW n) c.Px
theorem mZ.of {ds:List D} (h:dN TT 169 ds):∃ c:mZ,aL ds c.cells∧c.ok:=by
 have q0:=h.dg rfl rfl
 obtain ⟨p0,r0,rfl,h0,q1⟩:=q0.cons_inv
 obtain ⟨x0,y0,w0⟩:=bS h0
 cases q1.iX
 refine ⟨⟨x0⟩,?_,⟨w0⟩⟩
 have hh:=(aL.append y0 aL.nil)
 simpa only [mZ.cells,bU,jA,qf,List.append_assoc,List.cons_append,List.nil_append,List.append_nil] using hh
theorem abb {ds:List D} (h:dN TT 24 ds):∃ l:List mZ,aL ds [mW mZ.cells l]∧(fun l=>∀ x,x∈l→mZ.ok x) l:=by
 obtain ⟨n,f,rfl,g⟩:=h.fm rfl rfl
 obtain ⟨l,y,-,w⟩:=jM mZ.cells mZ.ok (fun ds h=>mZ.of h) g
 exact ⟨l,aL.one y,w⟩
structure AA.ok (c:AA):Prop where
 name:(fun s:ByteArray=>s.size≤maxLen) c.name
 bZ:(fun n=>dW n) c.bZ
 group:(fun n=>dW n) c.group
theorem AA.of {ds:List D} (h:dN TT 171 ds):∃ c:AA,aL ds c.cells∧c.ok:=by
 have q0:=h.dg rfl rfl
 obtain ⟨p0,r0,rfl,h0,q1⟩:=q0.cons_inv
 obtain ⟨x0,y0,w0⟩:=NJ h0
 obtain ⟨p1,r1,rfl,h1,q2⟩:=q1.cons_inv
 obtain ⟨x1,y1,w1⟩:=bS h1
 obtain ⟨p2,r2,rfl,h2,q3⟩:=q2.cons_inv
 obtain ⟨x2,y2,w2⟩:=bS h2
 cases q3.iX
 refine ⟨⟨x0,x1,x2⟩,?_,⟨w0,w1,w2⟩⟩
 have hh:=(aL.append y0 (aL.append y1 (aL.append y2 aL.nil)))
 simpa only [AA.cells,bU,jA,qf,List.append_assoc,List.cons_append,List.nil_append,List.append_nil] using hh
theorem abc {ds:List D} (h:dN TT 25 ds):∃ l:List AA,aL ds [mW AA.cells l]∧(fun l=>∀ x,x∈l→AA.ok x) l:=by
 obtain ⟨n,f,rfl,g⟩:=h.fm rfl rfl
 obtain ⟨l,y,-,w⟩:=jM AA.cells AA.ok (fun ds h=>AA.of h) g
 exact ⟨l,aL.one y,w⟩
theorem T9 {ds:List D} (h:dN TT 4 ds):∃ c:Bool,aL ds (qf c)∧True:=by
 obtain ⟨x,rfl⟩:=h.Wt rfl rfl
 exact ⟨x,aL.refl _,trivial⟩
structure Choice.ok (c:Choice):Prop where
 ask:(fun n=>dW n) c.ask
 cz:(fun n=>dW n) c.cz
 whole:(fun _=>True) c.whole
theorem Choice.of {ds:List D} (h:dN TT 234 ds):∃ c:Choice,aL ds c.cells∧c.ok:=by
 have q0:=h.dg rfl rfl
 obtain ⟨p0,r0,rfl,h0,q1⟩:=q0.cons_inv
 obtain ⟨x0,y0,w0⟩:=bS h0
 obtain ⟨p1,r1,rfl,h1,q2⟩:=q1.cons_inv
 obtain ⟨x1,y1,w1⟩:=bS h1
 obtain ⟨p2,r2,rfl,h2,q3⟩:=q2.cons_inv
 obtain ⟨x2,y2,w2⟩:=T9 h2
 cases q3.iX
 refine ⟨⟨x0,x1,x2⟩,?_,⟨w0,w1,w2⟩⟩
 have hh:=(aL.append y0 (aL.append y1 (aL.append y2 aL.nil)))
 simpa only [Choice.cells,bU,jA,qf,List.append_assoc,List.cons_append,List.nil_append,List.append_nil] using hh
theorem Zo {ds:List D} (h:dN TT 108 ds):∃ l:List Choice,aL ds [mW Choice.cells l]∧(fun l=>∀ x,x∈l→Choice.ok x) l:=by
 obtain ⟨n,f,rfl,g⟩:=h.fm rfl rfl
 obtain ⟨l,y,-,w⟩:=jM Choice.cells Choice.ok (fun ds h=>Choice.of h) g
 exact ⟨l,aL.one y,w⟩
theorem Term.Zp {t:Nat} {ds:List D} (h:dN TT t ds):(t=163→∃ c:Term,aL ds c.kA)∧(t=161→∃ l:List Term,aL ds [mW Term.kA l]):=by
 refine dN.rec (motive_1:=fun t ds _=>(t=163→∃ c:Term,aL ds c.kA)∧(t=161→∃ l:List Term,aL ds [mW Term.kA l]))
  (motive_2:=fun ts ds _=>(ts=[]→ds=[])∧(ts=[161]→∃ l:List Term,aL ds [mW Term.kA l])∧(ts=[3,161]→∃ (n:Int) (l:List Term),aL ds [dI n,mW Term.kA l])∧(ts=[3,3,161]→∃ (m n:Int) (l:List Term),aL ds [dI m,dI n,mW Term.kA l])) ?_ ?_ ?_ ?_ ?_ ?_ ?_ h
 ·intro t i k hi hk n hw
  exact ⟨fun e=>(by subst e; cases hi; cases hk),fun e=>(by subst e; cases hi; cases hk)⟩
 ·intro t i hi hk b
  exact ⟨fun e=>(by subst e; cases hi; cases hk),fun e=>(by subst e; cases hi; cases hk)⟩
 ·intro t i hi hk s hw
  exact ⟨fun e=>(by subst e; cases hi; cases hk),fun e=>(by subst e; cases hi; cases hk)⟩
 ·intro t e i hi hk n f hh ih
  refine ⟨fun e=>(by subst e; cases hi; cases hk),fun e=>?_⟩
  subst e
  cases hi
  cases hk
  classical
  let g:Nat→Term:=fun j=>if hj:j < n then ((ih j hj).1 rfl).choose else default
  have hg:∀ j,j < n→aL (f j) (g j).kA:=fun j hj=>by
   simp only [g,hj,dif_pos]
   exact ((ih j hj).1 rfl).choose_spec
  refine ⟨(List.range n).map g,aL.one ?_⟩
  have e:mW Term.kA ((List.range n).map g)=.sl n fun i=>Term.kA (((List.range n).map g).getD i default):=by simp [mW]
  rw [e]
  refine rV.ZH fun i hi=>?_
  have:((List.range n).map g).getD i default=g i:=by simp [List.getD,hi]
  rw [this]
  exact hg i hi
 ·intro t i fs hi hk ds hs ih
  refine ⟨fun e=>?_,fun e=>(by subst e; cases hi; cases hk)⟩
  subst e
  cases hi
  cases hk
  obtain ⟨m,n,l,hl⟩:=ih.2.2.2 rfl
  refine ⟨⟨m,n,l⟩,?_⟩
  have h2:=(Term.Pz ⟨m,n,l⟩).2
  have:aL [dI m,dI n,mW Term.kA l] (Term.kA ⟨m,n,l⟩):=aL.cons rV.rfl' (aL.cons rV.rfl' (aL.one h2))
  exact ⟨hl.1.trans this.1,fun j hj=>(hl.2 j hj).trans (this.2 j (by rw [← hl.1]; exact hj))⟩
 ·exact ⟨fun _=>rfl,fun e=>(by cases e),fun e=>(by cases e),fun e=>(by cases e)⟩
 ·intro t ts p ds hp hs ih1 ih2
  refine ⟨fun e=>(by cases e),fun e=>?_,fun e=>?_,fun e=>?_⟩
  ·cases e
   obtain ⟨l,hl⟩:=ih1.2 rfl
   have:=ih2.1 rfl
   subst this
   exact ⟨l,by simpa using hl⟩
  ·cases e
   obtain ⟨x,rfl,w⟩:=hp.Cq rfl rfl
   obtain ⟨l,hl⟩:=ih2.2.1 rfl
   exact ⟨x,l,aL.append (aL.refl _) hl⟩
  ·cases e
   obtain ⟨x,rfl,w⟩:=hp.Cq rfl rfl
   obtain ⟨n,l,hl⟩:=ih2.2.2.1 rfl
   exact ⟨x,n,l,aL.append (aL.refl _) hl⟩
theorem Term.ofR {ds:List D} (h:dN TT 163 ds):∃ c:Term,aL ds c.kA∧True:=by
 obtain ⟨c,hc⟩:=(Term.Zp h).1 rfl
 exact ⟨c,hc,trivial⟩
theorem Term.of {ds:List D} (h:dN TT 163 ds):∃ c:Term,aL ds c.cells∧True:=by
 obtain ⟨c,hc,_⟩:=Term.ofR h
 have hu:=c.HT
 exact ⟨c,⟨hc.1.trans hu.1,fun j hj=>(hc.2 j hj).trans (hu.2 j (by rw [← hc.1]; exact hj))⟩,trivial⟩
structure tL.ok (c:tL):Prop where
 ask:(fun n=>dW n) c.ask
 term:(fun _=>True) c.term
theorem tL.of {ds:List D} (h:dN TT 165 ds):∃ c:tL,aL ds c.cells∧c.ok:=by
 have q0:=h.dg rfl rfl
 obtain ⟨p0,r0,rfl,h0,q1⟩:=q0.cons_inv
 obtain ⟨x0,y0,w0⟩:=bS h0
 obtain ⟨p1,r1,rfl,h1,q2⟩:=q1.cons_inv
 obtain ⟨x1,y1,w1⟩:=Term.of h1
 cases q2.iX
 refine ⟨⟨x0,x1⟩,?_,⟨w0,w1⟩⟩
 have hh:=(aL.append y0 (aL.append y1 aL.nil))
 simpa only [tL.cells,bU,jA,qf,List.append_assoc,List.cons_append,List.nil_append,List.append_nil] using hh
theorem Zq {ds:List D} (h:dN TT 109 ds):∃ l:List tL,aL ds [mW tL.cells l]∧(fun l=>∀ x,x∈l→tL.ok x) l:=by
 obtain ⟨n,f,rfl,g⟩:=h.fm rfl rfl
 obtain ⟨l,y,-,w⟩:=jM tL.cells tL.ok (fun ds h=>tL.of h) g
 exact ⟨l,aL.one y,w⟩
structure Order.ok (c:Order):Prop where
 name:(fun s:ByteArray=>s.size≤maxLen) c.name
 GK:(fun _=>True) c.GK
 aV:(fun l=>∀ x,x∈l→Choice.ok x) c.aV
 rules:(fun l=>∀ x,x∈l→tL.ok x) c.rules
theorem Order.of {ds:List D} (h:dN TT 111 ds):∃ c:Order,aL ds c.cells∧c.ok:=by
 have q0:=h.dg rfl rfl
 obtain ⟨p0,r0,rfl,h0,q1⟩:=q0.cons_inv
 obtain ⟨x0,y0,w0⟩:=NJ h0
 obtain ⟨p1,r1,rfl,h1,q2⟩:=q1.cons_inv
 obtain ⟨x1,y1,w1⟩:=T9 h1
 obtain ⟨p2,r2,rfl,h2,q3⟩:=q2.cons_inv
 obtain ⟨x2,y2,w2⟩:=Zo h2
 obtain ⟨p3,r3,rfl,h3,q4⟩:=q3.cons_inv
 obtain ⟨x3,y3,w3⟩:=Zq h3
 cases q4.iX
 refine ⟨⟨x0,x1,x2,x3⟩,?_,⟨w0,w1,w2,w3⟩⟩
 have hh:=(aL.append y0 (aL.append y1 (aL.append y2 (aL.append y3 aL.nil))))
 simpa only [Order.cells,bU,jA,qf,List.append_assoc,List.cons_append,List.nil_append,List.append_nil] using hh
theorem abd {ds:List D} (h:dN TT 26 ds):∃ l:List Order,aL ds [mW Order.cells l]∧(fun l=>∀ x,x∈l→Order.ok x) l:=by
 obtain ⟨n,f,rfl,g⟩:=h.fm rfl rfl
 obtain ⟨l,y,-,w⟩:=jM Order.cells Order.ok (fun ds h=>Order.of h) g
 exact ⟨l,aL.one y,w⟩
structure dC.ok (c:dC):Prop where
 from_:(fun n=>dW n) c.from_
 cj:(fun n=>dW n) c.cj
 days:(fun n=>dW n) c.days
theorem dC.of {ds:List D} (h:dN TT 173 ds):∃ c:dC,aL ds c.cells∧c.ok:=by
 have q0:=h.dg rfl rfl
 obtain ⟨p0,r0,rfl,h0,q1⟩:=q0.cons_inv
 obtain ⟨x0,y0,w0⟩:=bS h0
 obtain ⟨p1,r1,rfl,h1,q2⟩:=q1.cons_inv
 obtain ⟨x1,y1,w1⟩:=bS h1
 obtain ⟨p2,r2,rfl,h2,q3⟩:=q2.cons_inv
 obtain ⟨x2,y2,w2⟩:=bS h2
 cases q3.iX
 refine ⟨⟨x0,x1,x2⟩,?_,⟨w0,w1,w2⟩⟩
 have hh:=(aL.append y0 (aL.append y1 (aL.append y2 aL.nil)))
 simpa only [dC.cells,bU,jA,qf,List.append_assoc,List.cons_append,List.nil_append,List.append_nil] using hh
theorem abe {ds:List D} (h:dN TT 27 ds):∃ l:List dC,aL ds [mW dC.cells l]∧(fun l=>∀ x,x∈l→dC.ok x) l:=by
 obtain ⟨n,f,rfl,g⟩:=h.fm rfl rfl
 obtain ⟨l,y,-,w⟩:=jM dC.cells dC.ok (fun ds h=>dC.of h) g
 exact ⟨l,aL.one y,w⟩
structure oJ.ok (c:oJ):Prop where
 from_:(fun n=>dW n) c.from_
 cj:(fun n=>dW n) c.cj
 num:(fun n=>dW n) c.num
 den:(fun n=>dW n) c.den
 since:(fun n=>dW n) c.since
theorem oJ.of {ds:List D} (h:dN TT 175 ds):∃ c:oJ,aL ds c.cells∧c.ok:=by
 have q0:=h.dg rfl rfl
 obtain ⟨p0,r0,rfl,h0,q1⟩:=q0.cons_inv
 obtain ⟨x0,y0,w0⟩:=bS h0
 obtain ⟨p1,r1,rfl,h1,q2⟩:=q1.cons_inv
 obtain ⟨x1,y1,w1⟩:=bS h1
 obtain ⟨p2,r2,rfl,h2,q3⟩:=q2.cons_inv
 obtain ⟨x2,y2,w2⟩:=bS h2
 obtain ⟨p3,r3,rfl,h3,q4⟩:=q3.cons_inv
 obtain ⟨x3,y3,w3⟩:=bS h3
 obtain ⟨p4,r4,rfl,h4,q5⟩:=q4.cons_inv
 obtain ⟨x4,y4,w4⟩:=bS h4
 cases q5.iX
 refine ⟨⟨x0,x1,x2,x3,x4⟩,?_,⟨w0,w1,w2,w3,w4⟩⟩
 have hh:=(aL.append y0 (aL.append y1 (aL.append y2 (aL.append y3 (aL.append y4 aL.nil)))))
 simpa only [oJ.cells,bU,jA,qf,List.append_assoc,List.cons_append,List.nil_append,List.append_nil] using hh
theorem abf {ds:List D} (h:dN TT 28 ds):∃ l:List oJ,aL ds [mW oJ.cells l]∧(fun l=>∀ x,x∈l→oJ.ok x) l:=by
 obtain ⟨n,f,rfl,g⟩:=h.fm rfl rfl
 obtain ⟨l,y,-,w⟩:=jM oJ.cells oJ.ok (fun ds h=>oJ.of h) g
 exact ⟨l,aL.one y,w⟩
structure Halt.ok (c:Halt):Prop where
 order:(fun n=>dW n) c.order
 from_:(fun n=>dW n) c.from_
 cj:(fun n=>dW n) c.cj
theorem Halt.of {ds:List D} (h:dN TT 177 ds):∃ c:Halt,aL ds c.cells∧c.ok:=by
 have q0:=h.dg rfl rfl
 obtain ⟨p0,r0,rfl,h0,q1⟩:=q0.cons_inv
 obtain ⟨x0,y0,w0⟩:=bS h0
 obtain ⟨p1,r1,rfl,h1,q2⟩:=q1.cons_inv
 obtain ⟨x1,y1,w1⟩:=bS h1
 obtain ⟨p2,r2,rfl,h2,q3⟩:=q2.cons_inv
 obtain ⟨x2,y2,w2⟩:=bS h2
 cases q3.iX
 refine ⟨⟨x0,x1,x2⟩,?_,⟨w0,w1,w2⟩⟩
 have hh:=(aL.append y0 (aL.append y1 (aL.append y2 aL.nil)))
 simpa only [Halt.cells,bU,jA,qf,List.append_assoc,List.cons_append,List.nil_append,List.append_nil] using hh
theorem abg {ds:List D} (h:dN TT 29 ds):∃ l:List Halt,aL ds [mW Halt.cells l]∧(fun l=>∀ x,x∈l→Halt.ok x) l:=by
 obtain ⟨n,f,rfl,g⟩:=h.fm rfl rfl
 obtain ⟨l,y,-,w⟩:=jM Halt.cells Halt.ok (fun ds h=>Halt.of h) g
 exact ⟨l,aL.one y,w⟩
structure ah.ok (c:ah):Prop where
 ck:(fun l=>∀ x,x∈l→(fun s:ByteArray=>s.size≤maxLen) x) c.ck
 aI:(fun l=>∀ x,x∈l→jB.ok x) c.aI
 fP:(fun l=>∀ x,x∈l→mZ.ok x) c.fP
 bm:(fun l=>∀ x,x∈l→AA.ok x) c.bm
 aE:(fun l=>∀ x,x∈l→Order.ok x) c.aE
 aM:(fun l=>∀ x,x∈l→dC.ok x) c.aM
 bE:(fun l=>∀ x,x∈l→oJ.ok x) c.bE
 ep:(fun l=>∀ x,x∈l→Halt.ok x) c.ep
theorem ah.of {ds:List D} (h:dN TT 31 ds):∃ c:ah,aL ds c.cells∧c.ok:=by
 have q0:=h.dg rfl rfl
 obtain ⟨p0,r0,rfl,h0,q1⟩:=q0.cons_inv
 obtain ⟨x0,y0,w0⟩:=aa9 h0
 obtain ⟨p1,r1,rfl,h1,q2⟩:=q1.cons_inv
 obtain ⟨x1,y1,w1⟩:=aba h1
 obtain ⟨p2,r2,rfl,h2,q3⟩:=q2.cons_inv
 obtain ⟨x2,y2,w2⟩:=abb h2
 obtain ⟨p3,r3,rfl,h3,q4⟩:=q3.cons_inv
 obtain ⟨x3,y3,w3⟩:=abc h3
 obtain ⟨p4,r4,rfl,h4,q5⟩:=q4.cons_inv
 obtain ⟨x4,y4,w4⟩:=abd h4
 obtain ⟨p5,r5,rfl,h5,q6⟩:=q5.cons_inv
 obtain ⟨x5,y5,w5⟩:=abe h5
 obtain ⟨p6,r6,rfl,h6,q7⟩:=q6.cons_inv
 obtain ⟨x6,y6,w6⟩:=abf h6
 obtain ⟨p7,r7,rfl,h7,q8⟩:=q7.cons_inv
 obtain ⟨x7,y7,w7⟩:=abg h7
 cases q8.iX
 refine ⟨⟨x0,x1,x2,x3,x4,x5,x6,x7⟩,?_,⟨w0,w1,w2,w3,w4,w5,w6,w7⟩⟩
 have hh:=(aL.append y0 (aL.append y1 (aL.append y2 (aL.append y3 (aL.append y4 (aL.append y5 (aL.append y6 (aL.append y7 aL.nil))))))))
 simpa only [ah.cells,bU,jA,qf,List.append_assoc,List.cons_append,List.nil_append,List.append_nil] using hh
structure rF.ok (c:rF):Prop where
 kind:(fun n=>dW n) c.kind
 n:(fun n=>dW n) c.n
 unit:(fun n=>dW n) c.unit
theorem rF.of {ds:List D} (h:dN TT 33 ds):∃ c:rF,aL ds c.cells∧c.ok:=by
 have q0:=h.dg rfl rfl
 obtain ⟨p0,r0,rfl,h0,q1⟩:=q0.cons_inv
 obtain ⟨x0,y0,w0⟩:=bS h0
 obtain ⟨p1,r1,rfl,h1,q2⟩:=q1.cons_inv
 obtain ⟨x1,y1,w1⟩:=bS h1
 obtain ⟨p2,r2,rfl,h2,q3⟩:=q2.cons_inv
 obtain ⟨x2,y2,w2⟩:=bS h2
 cases q3.iX
 refine ⟨⟨x0,x1,x2⟩,?_,⟨w0,w1,w2⟩⟩
 have hh:=(aL.append y0 (aL.append y1 (aL.append y2 aL.nil)))
 simpa only [rF.cells,bU,jA,qf,List.append_assoc,List.cons_append,List.nil_append,List.append_nil] using hh
structure qd.ok (c:qd):Prop where
 Bs:(fun n=>dW n) c.Bs
 na:(fun n=>dW n) c.na
 kr:(fun n=>dW n) c.kr
 sum:(fun n=>dW n) c.sum
 az:(fun n=>dW n) c.az
 cR:rF.ok c.cR
 day:(fun n=>dW n) c.day
 bZ:(fun n=>dW n) c.bZ
 yo:(fun n=>dW n) c.yo
 need:(fun n=>dW n) c.need
 lg:(fun n=>dW n) c.lg
 flags:(fun n=>dW n) c.flags
 parts:(fun n=>dW n) c.parts
theorem qd.of {ds:List D} (h:dN TT 35 ds):∃ c:qd,aL ds c.cells∧c.ok:=by
 have q0:=h.dg rfl rfl
 obtain ⟨p0,r0,rfl,h0,q1⟩:=q0.cons_inv
 obtain ⟨x0,y0,w0⟩:=bS h0
 obtain ⟨p1,r1,rfl,h1,q2⟩:=q1.cons_inv
 obtain ⟨x1,y1,w1⟩:=bS h1
 obtain ⟨p2,r2,rfl,h2,q3⟩:=q2.cons_inv
 obtain ⟨x2,y2,w2⟩:=bS h2
 obtain ⟨p3,r3,rfl,h3,q4⟩:=q3.cons_inv
 obtain ⟨x3,y3,w3⟩:=bS h3
 obtain ⟨p4,r4,rfl,h4,q5⟩:=q4.cons_inv
 obtain ⟨x4,y4,w4⟩:=bS h4
 obtain ⟨p5,r5,rfl,h5,q6⟩:=q5.cons_inv
 obtain ⟨x5,y5,w5⟩:=rF.of h5
 obtain ⟨p6,r6,rfl,h6,q7⟩:=q6.cons_inv
 obtain ⟨x6,y6,w6⟩:=bS h6
 obtain ⟨p7,r7,rfl,h7,q8⟩:=q7.cons_inv
 obtain ⟨x7,y7,w7⟩:=bS h7
 obtain ⟨p8,r8,rfl,h8,q9⟩:=q8.cons_inv
 obtain ⟨x8,y8,w8⟩:=bS h8
 obtain ⟨p9,r9,rfl,h9,q10⟩:=q9.cons_inv
 obtain ⟨x9,y9,w9⟩:=bS h9
 obtain ⟨RZ,r10,rfl,h10,q11⟩:=q10.cons_inv
 obtain ⟨Oc,SA,w10⟩:=bS h10
 obtain ⟨UN,r11,rfl,h11,q12⟩:=q11.cons_inv
 obtain ⟨x11,y11,w11⟩:=bS h11
 obtain ⟨W7,r12,rfl,h12,q13⟩:=q12.cons_inv
 obtain ⟨Y0,y12,w12⟩:=bS h12
 cases q13.iX
 refine ⟨⟨x0,x1,x2,x3,x4,x5,x6,x7,x8,x9,Oc,x11,Y0⟩,?_,⟨w0,w1,w2,w3,w4,w5,w6,w7,w8,w9,w10,w11,w12⟩⟩
 have hh:=(aL.append y0 (aL.append y1 (aL.append y2 (aL.append y3 (aL.append y4 (aL.append y5 (aL.append y6 (aL.append y7 (aL.append y8 (aL.append y9 (aL.append SA (aL.append y11 (aL.append y12 aL.nil)))))))))))))
 simpa only [qd.cells,bU,jA,qf,List.append_assoc,List.cons_append,List.nil_append,List.append_nil] using hh
structure Sign.ok (c:Sign):Prop where
 kind:(fun n=>dW n) c.kind
 part:(fun n=>dW n) c.part
 dt:(fun n=>dW n) c.dt
 for_:(fun n=>dW n) c.for_
 cj:(fun n=>dW n) c.cj
 sum:(fun n=>dW n) c.sum
 day:(fun n=>dW n) c.day
 bZ:(fun n=>dW n) c.bZ
 flags:(fun n=>dW n) c.flags
theorem Sign.of {ds:List D} (h:dN TT 96 ds):∃ c:Sign,aL ds c.cells∧c.ok:=by
 have q0:=h.dg rfl rfl
 obtain ⟨p0,r0,rfl,h0,q1⟩:=q0.cons_inv
 obtain ⟨x0,y0,w0⟩:=bS h0
 obtain ⟨p1,r1,rfl,h1,q2⟩:=q1.cons_inv
 obtain ⟨x1,y1,w1⟩:=bS h1
 obtain ⟨p2,r2,rfl,h2,q3⟩:=q2.cons_inv
 obtain ⟨x2,y2,w2⟩:=bS h2
 obtain ⟨p3,r3,rfl,h3,q4⟩:=q3.cons_inv
 obtain ⟨x3,y3,w3⟩:=bS h3
 obtain ⟨p4,r4,rfl,h4,q5⟩:=q4.cons_inv
 obtain ⟨x4,y4,w4⟩:=bS h4
 obtain ⟨p5,r5,rfl,h5,q6⟩:=q5.cons_inv
 obtain ⟨x5,y5,w5⟩:=bS h5
 obtain ⟨p6,r6,rfl,h6,q7⟩:=q6.cons_inv
 obtain ⟨x6,y6,w6⟩:=bS h6
 obtain ⟨p7,r7,rfl,h7,q8⟩:=q7.cons_inv
 obtain ⟨x7,y7,w7⟩:=bS h7
 obtain ⟨p8,r8,rfl,h8,q9⟩:=q8.cons_inv
 obtain ⟨x8,y8,w8⟩:=bS h8
 cases q9.iX
 refine ⟨⟨x0,x1,x2,x3,x4,x5,x6,x7,x8⟩,?_,⟨w0,w1,w2,w3,w4,w5,w6,w7,w8⟩⟩
 have hh:=(aL.append y0 (aL.append y1 (aL.append y2 (aL.append y3 (aL.append y4 (aL.append y5 (aL.append y6 (aL.append y7 (aL.append y8 aL.nil)))))))))
 simpa only [Sign.cells,bU,jA,qf,List.append_assoc,List.cons_append,List.nil_append,List.append_nil] using hh
theorem abh {ds:List D} (h:dN TT 36 ds):∃ l:List Sign,aL ds [mW Sign.cells l]∧(fun l=>∀ x,x∈l→Sign.ok x) l:=by
 obtain ⟨n,f,rfl,g⟩:=h.fm rfl rfl
 obtain ⟨l,y,-,w⟩:=jM Sign.cells Sign.ok (fun ds h=>Sign.of h) g
 exact ⟨l,aL.one y,w⟩
structure di.ok (c:di):Prop where
 at_:(fun n=>dW n) c.at_
 sum:(fun n=>dW n) c.sum
theorem di.of {ds:List D} (h:dN TT 115 ds):∃ c:di,aL ds c.cells∧c.ok:=by
 have q0:=h.dg rfl rfl
 obtain ⟨p0,r0,rfl,h0,q1⟩:=q0.cons_inv
 obtain ⟨x0,y0,w0⟩:=bS h0
 obtain ⟨p1,r1,rfl,h1,q2⟩:=q1.cons_inv
 obtain ⟨x1,y1,w1⟩:=bS h1
 cases q2.iX
 refine ⟨⟨x0,x1⟩,?_,⟨w0,w1⟩⟩
 have hh:=(aL.append y0 (aL.append y1 aL.nil))
 simpa only [di.cells,bU,jA,qf,List.append_assoc,List.cons_append,List.nil_append,List.append_nil] using hh
theorem abi {ds:List D} (h:dN TT 37 ds):∃ l:List di,aL ds [mW di.cells l]∧(fun l=>∀ x,x∈l→di.ok x) l:=by
 obtain ⟨n,f,rfl,g⟩:=h.fm rfl rfl
 obtain ⟨l,y,-,w⟩:=jM di.cells di.ok (fun ds h=>di.of h) g
 exact ⟨l,aL.one y,w⟩
structure bh.ok (c:bh):Prop where
 kind:(fun n=>dW n) c.kind
 dt:(fun n=>dW n) c.dt
 cj:(fun n=>dW n) c.cj
 part:(fun n=>dW n) c.part
 at_:(fun n=>dW n) c.at_
 sum:(fun n=>dW n) c.sum
 day:(fun n=>dW n) c.day
 bZ:(fun n=>dW n) c.bZ
 form:(fun n=>dW n) c.form
theorem bh.of {ds:List D} (h:dN TT 62 ds):∃ c:bh,aL ds c.cells∧c.ok:=by
 have q0:=h.dg rfl rfl
 obtain ⟨p0,r0,rfl,h0,q1⟩:=q0.cons_inv
 obtain ⟨x0,y0,w0⟩:=bS h0
 obtain ⟨p1,r1,rfl,h1,q2⟩:=q1.cons_inv
 obtain ⟨x1,y1,w1⟩:=bS h1
 obtain ⟨p2,r2,rfl,h2,q3⟩:=q2.cons_inv
 obtain ⟨x2,y2,w2⟩:=bS h2
 obtain ⟨p3,r3,rfl,h3,q4⟩:=q3.cons_inv
 obtain ⟨x3,y3,w3⟩:=bS h3
 obtain ⟨p4,r4,rfl,h4,q5⟩:=q4.cons_inv
 obtain ⟨x4,y4,w4⟩:=bS h4
 obtain ⟨p5,r5,rfl,h5,q6⟩:=q5.cons_inv
 obtain ⟨x5,y5,w5⟩:=bS h5
 obtain ⟨p6,r6,rfl,h6,q7⟩:=q6.cons_inv
 obtain ⟨x6,y6,w6⟩:=bS h6
 obtain ⟨p7,r7,rfl,h7,q8⟩:=q7.cons_inv
 obtain ⟨x7,y7,w7⟩:=bS h7
 obtain ⟨p8,r8,rfl,h8,q9⟩:=q8.cons_inv
 obtain ⟨x8,y8,w8⟩:=bS h8
 cases q9.iX
 refine ⟨⟨x0,x1,x2,x3,x4,x5,x6,x7,x8⟩,?_,⟨w0,w1,w2,w3,w4,w5,w6,w7,w8⟩⟩
 have hh:=(aL.append y0 (aL.append y1 (aL.append y2 (aL.append y3 (aL.append y4 (aL.append y5 (aL.append y6 (aL.append y7 (aL.append y8 aL.nil)))))))))
 simpa only [bh.cells,bU,jA,qf,List.append_assoc,List.cons_append,List.nil_append,List.append_nil] using hh
theorem abj {ds:List D} (h:dN TT 38 ds):∃ l:List bh,aL ds [mW bh.cells l]∧(fun l=>∀ x,x∈l→bh.ok x) l:=by
 obtain ⟨n,f,rfl,g⟩:=h.fm rfl rfl
 obtain ⟨l,y,-,w⟩:=jM bh.cells bh.ok (fun ds h=>bh.of h) g
 exact ⟨l,aL.one y,w⟩
structure Fact.ok (c:Fact):Prop where
 kind:(fun n=>dW n) c.kind
 at_:(fun n=>dW n) c.at_
 n:(fun n=>dW n) c.n
theorem Fact.of {ds:List D} (h:dN TT 45 ds):∃ c:Fact,aL ds c.cells∧c.ok:=by
 have q0:=h.dg rfl rfl
 obtain ⟨p0,r0,rfl,h0,q1⟩:=q0.cons_inv
 obtain ⟨x0,y0,w0⟩:=bS h0
 obtain ⟨p1,r1,rfl,h1,q2⟩:=q1.cons_inv
 obtain ⟨x1,y1,w1⟩:=bS h1
 obtain ⟨p2,r2,rfl,h2,q3⟩:=q2.cons_inv
 obtain ⟨x2,y2,w2⟩:=bS h2
 cases q3.iX
 refine ⟨⟨x0,x1,x2⟩,?_,⟨w0,w1,w2⟩⟩
 have hh:=(aL.append y0 (aL.append y1 (aL.append y2 aL.nil)))
 simpa only [Fact.cells,bU,jA,qf,List.append_assoc,List.cons_append,List.nil_append,List.append_nil] using hh
theorem abk {ds:List D} (h:dN TT 39 ds):∃ l:List Fact,aL ds [mW Fact.cells l]∧(fun l=>∀ x,x∈l→Fact.ok x) l:=by
 obtain ⟨n,f,rfl,g⟩:=h.fm rfl rfl
 obtain ⟨l,y,-,w⟩:=jM Fact.cells Fact.ok (fun ds h=>Fact.of h) g
 exact ⟨l,aL.one y,w⟩
structure al.ok (c:al):Prop where
 aR:qd.ok c.aR
 af:(fun l=>∀ x,x∈l→Sign.ok x) c.af
 aN:(fun l=>∀ x,x∈l→di.ok x) c.aN
 aA:(fun l=>∀ x,x∈l→bh.ok x) c.aA
 facts:(fun l=>∀ x,x∈l→Fact.ok x) c.facts
theorem al.of {ds:List D} (h:dN TT 41 ds):∃ c:al,aL ds c.cells∧c.ok:=by
 have q0:=h.dg rfl rfl
 obtain ⟨p0,r0,rfl,h0,q1⟩:=q0.cons_inv
 obtain ⟨x0,y0,w0⟩:=qd.of h0
 obtain ⟨p1,r1,rfl,h1,q2⟩:=q1.cons_inv
 obtain ⟨x1,y1,w1⟩:=abh h1
 obtain ⟨p2,r2,rfl,h2,q3⟩:=q2.cons_inv
 obtain ⟨x2,y2,w2⟩:=abi h2
 obtain ⟨p3,r3,rfl,h3,q4⟩:=q3.cons_inv
 obtain ⟨x3,y3,w3⟩:=abj h3
 obtain ⟨p4,r4,rfl,h4,q5⟩:=q4.cons_inv
 obtain ⟨x4,y4,w4⟩:=abk h4
 cases q5.iX
 refine ⟨⟨x0,x1,x2,x3,x4⟩,?_,⟨w0,w1,w2,w3,w4⟩⟩
 have hh:=(aL.append y0 (aL.append y1 (aL.append y2 (aL.append y3 (aL.append y4 aL.nil)))))
 simpa only [al.cells,bU,jA,qf,List.append_assoc,List.cons_append,List.nil_append,List.append_nil] using hh
theorem AX (aaC:∀ (a0:ah) (a1:Int) (a2:al) (a3:Int) (a4:List Fact),qb a0 a1 a2 a3 a4=true) (Q9:List (List D)) (h:Mq TT [31,3,41,3,39] Q9):gu Tryz.prog 3 (xb TT [31,3,41,3,39] Q9) [] (.d (.v (.bool true))) []:=by
 obtain ⟨d0,d1,d2,d3,d4,rfl⟩:∃ d0 d1 d2 d3 d4,Q9=[d0,d1,d2,d3,d4]:=by
  match Q9,h with
  | [d0,d1,d2,d3,d4],_=>exact ⟨d0,d1,d2,d3,d4,rfl⟩
 obtain ⟨h0,h1,h2,h3,h4,-⟩:=h
 obtain ⟨x0,y0,w0⟩:=ah.of h0
 obtain ⟨x1,rfl,w1⟩:=h1.Cq rfl rfl
 obtain ⟨x2,y2,w2⟩:=al.of h2
 obtain ⟨x3,rfl,w3⟩:=h3.Cq rfl rfl
 obtain ⟨n4,f4,rfl,g4⟩:=h4.fm rfl rfl
 obtain ⟨x4,y4,-,w4⟩:=jM Fact.cells Fact.ok (fun ds h=>Fact.of h) g4
 have hf:=Gu x0 x1 x2 x3 x4
 rw [aaC] at hf
 exact gu.Tk hf ⟨tG.d y0.agg,tG.rfl',tG.d y2.agg,tG.rfl',tG.d y4,trivial⟩
theorem EV (a0:ah) (a1:Int) (a2:al) (a3:Int) (a4:List Fact):qb a0 a1 a2 a3 a4=true :=
 DD a0 a1 a2 a3 a4
end
end Go.Proofs.YtgmnlkccjlnnbaaGreatDoor
