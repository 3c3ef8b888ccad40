/- Functions, as sketches. -/
import Derived.Test.YtgmnlkccjlnnbaaGreatDoorLh
import Derived.Test.YtgmnlkccjlnnbaaGreatDoorLc
import Derived.Test.YtgmnlkccjlnnbaaGreatDoorLd
set_option linter.unusedSimpArgs false
set_option linter.unusedVariables false
set_option maxHeartbeats 1000000
set_option maxRecDepth 100000
namespace Go.Proofs.YtgmnlkccjlnnbaaGreatDoor
noncomputable section
open Go Go.Av
def bu (a b:aH):Prop:=a.known=true→b=a
theorem bu.rfl' (a:aH):bu a a:=fun _=>rfl
theorem bu.unknown {a b:aH} (h:a.known=false):bu a b:=fun h2=>by rw [h] at h2; exact absurd h2 (by decide)
theorem BV {op:Int} {cs zU:List aH} {ns ns':List (List Int)} (h:bu (bQ op cs) (bQ op zU)):bu (oX op cs ns).1 (oX op zU ns').1:=by
 unfold oX
 cases hk:(bQ op cs).known with
 | false=>exact bu.unknown rfl
 | true=>rw [h hk,hk]; exact bu.rfl' _
theorem Xx {a a':aH} (h:bu a a'):bu (bQ 3 [a]) (bQ 3 [a']):=by
 rw [Iz,Iz]
 cases hk:a.known with
 | false=>exact bu.unknown rfl
 | true=>rw [h hk,hk]; exact bu.rfl' _
theorem Va {op:Int} (wM:op=4∨op=5) {a a' b b':aH} (ha:bu a a') (hb:bu b b'):bu (bQ op [a,b]) (bQ op [a',b']):=by
 rw [Eo op wM,Eo op wM]
 dsimp only
 generalize (if op=5 then (1:Int) else 0)=z
 cases hka:a.known with
 | true =>
  have ea:=ha hka
  subst ea
  cases Z2:b.known with
  | true=>have eb:=hb Z2; subst eb; rw [hka,Z2]; exact bu.rfl' _
  | false =>
   rw [hka]
   cases a'.n == z with
   | true=>simp only [Bool.true_and,Bool.true_or,cond_true]; exact bu.rfl' _
   | false=>exact bu.unknown rfl
 | false =>
  cases Z2:b.known with
  | false=>exact bu.unknown rfl
  | true =>
   have eb:=hb Z2
   subst eb
   rw [Z2]
   cases b'.n == z with
   | true=>simp only [Bool.true_and,Bool.or_true,cond_true]; exact bu.rfl' _
   | false=>exact bu.unknown rfl
theorem SA {op:Int} (wM:7≤op) {a a' b b':aH} (ha:bu a a') (hb:bu b b'):bu (bQ op [a,b]) (bQ op [a',b']):=by
 rw [xp op wM,xp op wM]
 cases hka:a.known with
 | true =>
  have ea:=ha hka
  subst ea
  cases Z2:b.known with
  | true=>have eb:=hb Z2; subst eb; rw [hka,Z2]; exact bu.rfl' _
  | false=>exact bu.unknown rfl
 | false=>exact bu.unknown rfl
theorem SB {a b:aH} (h:bu a b) (n:Int):bu (KE a n) (KE b n):=by
 unfold KE
 cases hk:a.known with
 | false=>exact bu.unknown rfl
 | true=>rw [h hk,hk]; exact bu.rfl' _
theorem Za {a b:aH} (ha:a.known=true) (hb:b.known=true) (h:(a.n == b.n)=true):a=b:=by
 obtain ⟨k,n⟩:=a
 obtain ⟨k',n'⟩:=b
 simp only at ha hb h
 rw [ha,hb,beq_iff_eq.1 h]
theorem Xy {t:Term} {k:Int} (h:vE t k):∀ (fu:Nat) (m m':Machine),(∀ q:Nat,bu (m.eS.getD q default) (m'.eS.getD q default))→t.depth≤fu→t.depth≤8→bu (ae fu m t).1 (ae fu m' t).1:=by
 induction h with
 | int hn =>
  intro fu m m' _ hd _
  cases fu with
  | zero=>exact absurd hd (by simp [Term.depth,Term.eR])
  | succ fu=>rw [M1,M1]; exact bu.rfl' _
 | @bool n hn =>
  intro fu m m' _ hd _
  cases fu with
  | zero=>exact absurd hd (by simp [Term.depth,Term.eR])
  | succ fu=>rw [Iy,Iy]; exact bu.rfl' _
 | @var n hn =>
  intro fu m m' hm hd _
  cases fu with
  | zero=>exact absurd hd (by simp [Term.depth,Term.eR])
  | succ fu =>
   rw [M3,M3,IA m n hn,IA m' n hn]
   have h:=SB (hm n.toNat) n
   cases hk:(KE (m.eS.getD n.toNat default) n).known with
   | false=>exact bu.unknown rfl
   | true=>rw [h hk,hk]; exact bu.rfl' _
 | @not a _ ih =>
  intro fu m m' hm hd h8
  cases fu with
  | zero=>exact absurd hd (by simp [Term.depth,Term.eR])
  | succ fu =>
   rw [Xg] at hd h8
   rw [M4,M4]
   exact BV (Xx (ih fu m m' hm (by omega) (by omega)))
 | @W8 op a b wM _ _ E8 DC =>
  intro fu m m' hm hd h8
  cases fu with
  | zero=>exact absurd hd (by simp [Term.depth,Term.eR])
  | succ fu =>
   rw [Ep] at hd h8
   rw [uT _ _ _ _ (by omega),uT _ _ _ _ (by omega)]
   exact BV (Va wM (E8 fu m m' hm (by omega) (by omega)) (DC fu m m' hm (by omega) (by omega)))
 | @ite a b c k ha _ _ E8 DC ihc =>
  intro fu m m' hm hd h8
  cases fu with
  | zero=>exact absurd hd (by simp [Term.depth,Term.eR])
  | succ fu =>
   rw [Xh] at hd h8
   have ia:=E8 fu m m' hm (by omega) (by omega)
   have ib:=DC fu m m' hm (by omega) (by omega)
   have ic:=ihc fu m m' hm (by omega) (by omega)
   have t1:=(Ab ha fu m (by omega) (by omega)).1 rfl
   have t2:=(Ab ha fu m' (by omega) (by omega)).1 rfl
   rw [run_ite,run_ite]
   dsimp only
   cases hk:(ae fu m a).1.known with
   | true =>
    rw [ia hk,hk]
    simp only [cond_true]
    rcases t1 hk with e | e
    ·rw [e]; exact ic
    ·rw [e]; exact ib
   | false =>
    simp only [cond_false]
    unfold oX
    rw [M6]
    cases hb:(ae fu m b).1.known with
    | false=>exact bu.unknown rfl
    | true =>
     cases hc:(ae fu m c).1.known with
     | false=>exact bu.unknown rfl
     | true =>
      cases he:((ae fu m b).1.n == (ae fu m c).1.n) with
      | false=>exact bu.unknown rfl
      | true =>
       have eb:=ib hb
       have ec:=ic hc
       have ebc:=Za hb hc he
       simp only [Bool.and_self,cond_true,hb]
       cases XV:(ae fu m' a).1.known with
       | true =>
        simp only [cond_true]
        rcases t2 XV with e | e
        ·rw [e]
         show bu _ (ae fu m' c).1
         rw [ec,← ebc]; exact bu.rfl' _
        ·rw [e]
         show bu _ (ae fu m' b).1
         rw [eb]; exact bu.rfl' _
       | false =>
        simp only [cond_false]
        rw [M6,eb,ec,hb,hc,he]
        simp only [Bool.and_self,cond_true,hb]
        exact bu.rfl' _
 | _ =>
  intro fu m m' hm hd h8
  cases fu with
  | zero=>exact absurd hd (by simp [Term.depth,Term.eR])
  | succ fu =>
   rename_i a b _ _ E8 DC
   rw [Ep] at hd h8
   rw [uT _ _ _ _ (by omega),uT _ _ _ _ (by omega)]
   exact BV (SA (by omega) (E8 fu m m' hm (by omega) (by omega)) (DC fu m m' hm (by omega) (by omega)))
def Oa (l l':List aH):Prop:=l'.length=l.length∧∀ q:Nat,bu (l.getD q default) (l'.getD q default)
theorem Oa.rfl' (l:List aH):Oa l l:=⟨rfl,fun _=>bu.rfl' _⟩
theorem Oa.set {l l':List aH} (h:Oa l l') {x x':aH} (hx:bu x x') (i:Nat):Oa (l.set i x) (l'.set i x'):=by
 refine ⟨by simp [h.1],fun q=>?_⟩
 by_cases hi:i < l.length
 ·by_cases e:q=i
  ·subst e
   rw [oG l hi,oG l' (by rw [h.1]; exact hi)]
   exact hx
  ·rw [oH l e,oH l' e]
   exact h.2 q
 ·rw [List.set_eq_of_length_le (by omega),List.set_eq_of_length_le (by rw [h.1]; omega)]
  exact h.2 q
theorem Qt {α:Type} {R:α→α→Prop} (c:Bool) {x y x' y':α} (h1:R x x') (h2:R y y'):R (bif c then x else y) (bif c then x' else y'):=by cases c <;> assumption
theorem Ju {α β:Type} {R:α→α→Prop} (hR:∀ a,R a a) (x:α ⊕ β) {k k':β→α} (h:∀ b,R (k b) (k' b)):R (gH x k) (gH x k'):=by
 cases x with
 | inl a=>exact hR a
 | inr b=>exact h b
theorem Vb (s:List di) (v:fw):j3 s v=s.any (fun a=>decide (a.at_≤v.sign)):=by
 refine Bool.eq_iff_iff.2 (Iff.trans (rY s v) ?_)
 simp only [pD,List.any_eq_true]
 constructor
 ·rintro ⟨q,hq,e⟩; exact ⟨_,tI hq _,e⟩
 ·rintro ⟨x,hx,e⟩
  obtain ⟨i,hi,rfl⟩:=List.getElem_of_mem hx
  exact ⟨i,hi,by simpa [List.getD,hi] using e⟩
theorem Vc (r:ah) (f:al) (F:List Fact) (s h e due y y':Int) (hF:∀ k a,bu (bT f k a) (bT { f with facts:=F } k a)) :
  Oa (oV r ⟨f,s,h,e,due,y⟩) (oV r ⟨{ f with facts:=F },s,h,e,due,y'⟩):=by
 unfold oV j5
 simp only [Sk.iE,Sk.eQ,Sk.dh,Sk.cO,Sk.Tu,Sk.Tv,Sk.Mr,bg.AY,bg.Pn,bg.WH,bg.pn,gm.xP,kk,kp,fC,Vb,gK]
 refine Qt _ (Oa.rfl' _) (Qt _ (Oa.rfl' _) (Ju Oa.rfl' _ fun b=>Ju Oa.rfl' _ fun b2=>Ju Oa.rfl' _ fun b3=>?_))
 exact ((((Oa.set (Oa.rfl' _) (hF _ _) _).set (hF _ _) _).set (hF _ _) _).set (hF _ _) _).set (hF _ _) _
theorem Vd (t:Term) {l l':List aH} (h:∀ q:Nat,bu (l.getD q default) (l'.getD q default)):bu (kX t l) (kX t l'):=by
 have e:∀ l,kX t l=bif (xo t).2 != 0 then ⟨false,0⟩ else (mG ⟨l⟩ t).1:=fun l=>by kernel_rfl
 rw [e,e]
 cases hc:(xo t).2 != 0 with
 | true=>exact bu.rfl' _
 | false =>
  simp only [LN] at hc
  have hp:=FL t hc
  exact Xy hp.1 _ _ _ h (Nat.le_refl _) hp.2
def findF (r:ah) (fo q:Int) (p:List Int) (l:List aH):lV × List aH :=
 bif (l.length:Int) == 0 then ((⟨⟨false,0⟩,-1,[],1⟩:lV),[]) else bif !(xj q).2 then (⟨⟨false,0⟩,-1,[],1⟩,[]) else
   bif p.isEmpty then ((⟨⟨false,0⟩,-1,[],1⟩:lV),[]) else (fun w:List Int × Int=>bif w.2 == 0 then ((⟨⟨false,0⟩,w.1.getD (au ((w.1.length:Int) - 1)).toNat default,w.1,w.2⟩:lV),l) else (⟨⟨false,0⟩,-1,w.1,w.2⟩,l)) (xl r fo q p)
theorem find_eq (r:ah) (fo q:Int) (c:fw):nw r fo q c=findF r fo q (qy r fo { c with file:=ai c.file c.day }) (oV r { c with file:=ai c.file c.day }):=by kernel_rfl
theorem SC (r:ah) (fo q:Int) (p:List Int) {l l':List aH} (h:Oa l l'):(findF r fo q p l').1=(findF r fo q p l).1∧Oa (findF r fo q p l).2 (findF r fo q p l').2:=by
 unfold findF
 rw [h.1]
 cases (l.length:Int) == 0 with
 | true=>exact ⟨rfl,Oa.rfl' _⟩
 | false =>
  cases !(xj q).2 with
  | true=>exact ⟨rfl,Oa.rfl' _⟩
  | false =>
   cases p.isEmpty with
   | true=>exact ⟨rfl,Oa.rfl' _⟩
   | false =>
    simp only [cond_false]
    cases (xl r fo q p).2 == 0 with
    | true=>exact ⟨rfl,h⟩
    | false=>exact ⟨rfl,h⟩
theorem Nr (r:ah) (fo:Int) (f:al) (F:List Fact) (s h d u y:Int):qy r fo ⟨{ f with facts:=F },s,h,d,u,y⟩=qy r fo ⟨f,s,h,d,u,y⟩:=by kernel_rfl
theorem Al (f:al) (F:List Fact) (d:Int):ai { f with facts:=F } d = { ai f d with facts:=F.filter (fun x=>decide (x.at_≥0)&&decide (x.at_ < ((ai f d).af.length:Int))) }:=by
 rw [gD,gD]
def GN (kind at_:Int) (x:Fact) (s:Unit):aH ⊕ Unit:=bif (x.kind == kind)&&(x.at_ == at_) then .inl (bif x.n == 0 then ⟨true,0⟩ else ⟨true,1⟩) else .inr ()
theorem SD (f:al) (kind at_:Int):CK f kind at_=walk (GN kind at_) (fun _=>⟨false,0⟩) f.facts ():=by
 simp only [CK,rH,Sk.dh,Sk.gd,Sk.iY,Sk.eQ,Sk.iE,Sk.lT,Sk.cO,gm.xP,kk,kp]
 refine (eX f.facts (fun s i=>i) (GN kind at_) id _ (fun s i hi=>?_) (fun s=>?_) (by simp) ()).trans rfl
 ·rw [decide_eq_true (by omega),cond_true]
  unfold GN
  cases (((f.facts.getD i default).kind == kind)&&((f.facts.getD i default).at_ == at_)) with
  | false=>rfl
  | true=>cases (f.facts.getD i default).n == 0 <;> rfl
 ·rw [decide_eq_false (by omega),cond_false]
theorem Qu (b:Bool):sT b=bif b then ⟨true,1⟩ else ⟨true,0⟩:=by cases b <;> kernel_rfl
theorem Ns (f:al) (kind at_:Int):CK f kind at_=bT f kind at_:=by
 rw [SD,uP]
 congr 1
 funext x s
 unfold GN dX
 rw [Qu]
 cases hn:x.n == 0 with
 | true=>have:(x.n != 0)=false:=by simpa [bne] using hn
      rw [this]; rfl
 | false=>have:(x.n != 0)=true:=by simp [bne,hn]
       rw [this]; rfl
def vB (x y:Fact):Bool:=decide (y.at_ < x.at_)||((y.at_ == x.at_)&&decide (y.kind < x.kind))
def uk (x y:Fact):Bool:=decide (y.at_ > x.at_)||((y.at_ == x.at_)&&decide (y.kind > x.kind))
theorem Nt (f:al) (x:Fact):tN f x=bif (bT f x.kind x.at_).known then f else { f with facts:=f.facts.filter (vB x)++[x]++f.facts.filter (uk x) }:=by
 rw [← Ns]
 simp only [tN,rI,Sk.dh,Sk.gd,Sk.iY,Sk.eQ,Sk.iE,Sk.lT,Sk.cO,gm.xP,kk,kp,Bs]
 congr 1
 refine (eX f.facts (fun s i=>(s,i)) (fun y s=>.inr (bif vB x y then s++[y] else s)) id _ (fun s i hi=>?_) (fun s=>?_) (by simp) []).trans ?_
 ·have e:decide ((i:Int) < (f.facts.length:Int))=true:=decide_eq_true (by omega)
  simp only [e,cond_true]
  unfold vB
  cases (decide ((f.facts.getD i default).at_ < x.at_)||(((f.facts.getD i default).at_ == x.at_)&&decide ((f.facts.getD i default).kind < x.kind))) <;> rfl
 ·have e:decide ((f.facts.length:Int) < (f.facts.length:Int))=false:=decide_eq_false (by omega)
  simp only [e,cond_false]; rfl
 ·rw [j0,oT]
  simp only [id,List.nil_append]
  refine (eX f.facts (fun s i=>(s,i)) (fun y s=>.inr (bif uk x y then s++[y] else s)) id _ (fun s i hi=>?_) (fun s=>?_) (by simp) _).trans ?_
  ·have e:decide ((i:Int) < (f.facts.length:Int))=true:=decide_eq_true (by omega)
   simp only [e,cond_true]
   unfold uk
   cases (decide ((f.facts.getD i default).at_ > x.at_)||(((f.facts.getD i default).at_ == x.at_)&&decide ((f.facts.getD i default).kind > x.kind))) <;> rfl
  ·have e:decide ((f.facts.length:Int) < (f.facts.length:Int))=false:=decide_eq_false (by omega)
   simp only [e,cond_false]; rfl
  ·rw [j0,oT]; rfl
theorem oY {α σ β:Type} (step:α→σ→β ⊕ σ) (fin:σ→β):∀ {l:List α},(∀ y,y∈l→∀ s,step y s=.inr s)→∀ s,walk step fin l s=fin s
 | [],_,_=>rfl
 | y :: r,h,s=>by
  unfold walk
  rw [h y (by simp)]
  exact oY step fin (fun z hz=>h z (by simp [hz])) s
theorem Ve {p q:Fact→Bool} {k a:Int} (x:Fact) (f:List Fact) (hx:(walk (dX x.kind x.at_) (fun _=>(⟨false,0⟩:aH)) f ()).known=false)
  (hp:p=vB x) (hq:q=uk x):bu (walk (dX k a) (fun _=>⟨false,0⟩) f ()) (walk (dX k a) (fun _=>⟨false,0⟩) (f.filter p++[x]++f.filter q) ()):=by
 subst hp; subst hq
 by_cases h:x.kind=k∧x.at_=a
 ·rw [h.1,h.2] at hx
  intro hk
  rw [hx] at hk
  exact absurd hk (by decide)
 ·have hsx:∀ s,dX k a x s=.inr s:=fun s=>by
   unfold dX
   have:((x.kind == k)&&(x.at_ == a))=false:=by
    simp only [LN]
    by_cases c:x.kind=k
    ·exact .inr (fun e=>h ⟨c,e⟩)
    ·exact .inl c
   rw [this]; rfl
  have TQ:∀ (y:Fact) (s:Unit),(y.kind=k→y.at_=a→False)→dX k a y s=.inr s:=fun y s hy=>by
   unfold dX
   have:((y.kind == k)&&(y.at_ == a))=false:=by
    simp only [LN]
    by_cases c:y.kind=k
    ·exact .inr (fun e=>hy c e)
    ·exact .inl c
   rw [this]; rfl
  have e:walk (dX k a) (fun _=>(⟨false,0⟩:aH)) (f.filter (vB x)++[x]++f.filter (uk x)) ()=walk (dX k a) (fun _=>⟨false,0⟩) f ():=by
   rw [List.append_assoc,yM]
   by_cases c:a < x.at_∨(a=x.at_∧k < x.kind)
   ·rw [show (fun s=>walk (dX k a) (fun _=>(⟨false,0⟩:aH)) ([x]++f.filter (uk x)) s)=fun _=>⟨false,0⟩ from funext fun s=>by
     refine oY _ _ (fun y hy s=>?_) s
     rcases List.mem_append.1 hy with hy | hy
     ·simp only [List.mem_singleton] at hy
      subst hy
      exact hsx s
     ·have:=(List.mem_filter.1 hy).2
      unfold uk at this
      simp only [LN] at this
      exact TQ y s (fun e1 e2=>by omega)]
    refine rJ _ _ _ _ (fun y s hy=>TQ y s (fun e1 e2=>?_)) ()
    unfold vB at hy
    simp only [LN] at hy
    omega
   ·rw [oY _ _ (fun y hy s=>?_)]
    ·show walk _ _ ([x]++_) ()=_
     rw [yM,oY _ _ (fun y hy s=>?_)]
     ·refine rJ _ _ _ _ (fun y s hy=>TQ y s (fun e1 e2=>?_)) ()
      unfold uk at hy
      simp only [LN] at hy
      omega
     ·simp only [List.mem_singleton] at hy
      subst hy
      exact hsx s
    ·have:=(List.mem_filter.1 hy).2
     unfold vB at this
     simp only [LN] at this
     exact TQ y s (fun e1 e2=>by omega)
  rw [e]
  exact bu.rfl' _
theorem SE (f:al) (x:Fact) (k a:Int):bu (bT f k a) (bT (tN f x) k a):=by
 rw [Nt]
 cases h:(bT f x.kind x.at_).known with
 | true=>exact bu.rfl' _
 | false =>
  rw [cond_false,uP,uP]
  rw [uP] at h
  exact Ve x f.facts h rfl rfl
theorem BW (r:ah) (fo q:Int) (f:al) (F:List Fact) (y:Int):rN r fo q { f with facts:=F } y=rN r fo q f y:=rfl
theorem Jv (f:al) (F:List Fact):lX { f with facts:=F }=lX f:=by kernel_rfl
theorem pZ (r:ah) (fo:Int) (f:al) (F:List Fact) (d:Int):cb r fo { f with facts:=F } d=cb r fo f d:=by
 rw [Fe,Fe,Al f F d,BW,Jv]
theorem Qv {f:al} {F:List Fact} (y:Int) (h:∀ k a,bu (bT f k a) (bT { f with facts:=F } k a)):∀ k a,bu (bT (ai f y) k a) (bT (ai { f with facts:=F } y) k a):=by
 intro k a
 by_cases c:0≤a∧a < (ai f y).af.length
 ·rw [TC f y k a c,TC { f with facts:=F } y k a (by rw [Al f F]; exact c)]
  exact h k a
 ·refine bu.unknown ?_
  rw [uP]
  rw [oY _ _ (fun x hx s=>?_)]
  rw [gD] at hx c
  dsimp only at hx c
  have:=(List.mem_filter.1 hx).2
  simp only [LN] at this
  unfold dX
  have e:(x.at_ == a)=false:=by
   simp only [LN]
   intro e
   subst e
   exact c ⟨this.1,this.2⟩
  rw [e,Bool.and_false,cond_false]
def Jw (f g:al):Prop:=∃ F,g = { f with facts:=F }∧∀ k a,bu (bT f k a) (bT { f with facts:=F } k a)
theorem Jw.refl (f:al):Jw f f:=⟨f.facts,rfl,fun _ _=>bu.rfl' _⟩
theorem bu.trans' {a b c:aH} (h:bu a b) (h2:bu b c):bu a c:=fun hk=>by
 have e:=h hk
 rw [h2 (by rw [e]; exact hk),e]
theorem SF (f:al) (x:Fact):∃ F,tN f x = { f with facts:=F }:=by
 rw [Nt]
 cases (bT f x.kind x.at_).known with
 | true=>exact ⟨f.facts,rfl⟩
 | false=>exact ⟨_,rfl⟩
theorem Jy {x:Fact}:∀ (l:List Fact),(l.filter (vB x)).length+(l.filter (uk x)).length≤l.length
 | []=>by simp
 | y :: l=>by
  have ih:=Jy (x:=x) l
  have hd:vB x y=true→uk x y=true→False:=by
   unfold vB uk
   simp only [LN]
   omega
  simp only [List.filter_cons]
  split <;> split <;> simp only [List.length_cons] <;> first | omega | (exfalso; apply hd <;> assumption)
theorem Qw (f:al) (x:Fact):(tN f x).facts.length≤f.facts.length+1:=by
 rw [Nt]
 cases (bT f x.kind x.at_).known with
 | true=>exact Nat.le_succ _
 | false =>
  have:=Jy (x:=x) f.facts
  simp only [cond_false,List.length_append,List.length_cons,List.length_nil]
  omega
theorem Jw.step {f g:al} (h:Jw f g) (x:Fact):Jw f (tN g x):=by
 obtain ⟨F,rfl,hF⟩:=h
 obtain ⟨G,hG⟩:=SF { f with facts:=F } x
 refine ⟨G,hG,fun k a=>(hF k a).trans' ?_⟩
 have:=SE { f with facts:=F } x k a
 rw [hG] at this
 exact this
def mS (a b:Int):Prop:=a≠2→b=a
theorem mS.rfl' (a:Int):mS a a:=fun _=>rfl
theorem mS.op {a b:Int} (h:a=2):mS a b:=fun k=>absurd h k
def SLe (a b:lV):Prop:=b=a∨(a.err=0∧a.cell.known=false)
theorem Qx (o:Order) (q:Int) {l l':List aH} (h:∀ q:Nat,bu (l.getD q default) (l'.getD q default)):jh o q l'=jh o q l∨((jh o q l).2=0∧(jh o q l).1.known=false):=by
 have e:∀ l,jh o q l=bif (gY o q).2 != 0 then (⟨false,0⟩,(gY o q).2) else
  bif (xj q).1 == 0&&(kX (gY o q).1 l).known then (⟨(kX (gY o q).1 l).known,bL (cg (kX (gY o q).1 l).n 0) 20000⟩,0) else (kX (gY o q).1 l,0):=fun l=>by kernel_rfl
 rw [e,e]
 have hm:=Vd (gY o q).1 h
 cases (gY o q).2 != 0 with
 | true=>exact .inl rfl
 | false =>
  simp only [cond_false]
  generalize kX (gY o q).1 l=x at hm ⊢
  generalize kX (gY o q).1 l'=x' at hm ⊢
  cases hk:x.known with
  | true=>rw [hm hk]; exact .inl (by rw [hk])
  | false=>rw [Bool.and_false,cond_false]; exact .inr ⟨rfl,hk⟩
def s7 (f:al) (F:List Fact):Prop:=∀ k a,bu (bT f k a) (bT { f with facts:=F } k a)
theorem zH (r:ah) (fo q:Int) {f:al} {F:List Fact} (s h e due y:Int) (hm:s7 f F) :
  SLe (qY r fo q ⟨f,s,h,e,due,y⟩) (qY r fo q ⟨{ f with facts:=F },s,h,e,due,y⟩):=by
 have hF:=Qv y hm
 unfold SLe
 rw [Xk,Xk,find_eq,find_eq]
 dsimp only
 rw [Al f F y] at hF ⊢
 rw [Nr r fo (ai f y)]
 have hv:=Vc r (ai f y) _ s h e due y y hF
 obtain ⟨h1,h2⟩:=SC r fo q (qy r fo ⟨ai f y,s,h,e,due,y⟩) hv
 rw [h1]
 generalize (findF r fo q (qy r fo ⟨ai f y,s,h,e,due,y⟩) (oV r ⟨ai f y,s,h,e,due,y⟩))=w at h2 ⊢
 cases w.1.order != -1 with
 | true =>
  rw [cond_true,cond_true]
  rcases Qx (r.aE.getD w.1.order.toNat default) q h2.2 with k | k
  ·rw [k]; exact .inl (Eq.refl _)
  ·exact .inr k
 | false =>
  rw [cond_false,cond_false]
  exact .inl (Eq.refl _)
theorem Qy {a:lV} (h:a.err=0∧a.cell.known=false):iz a=2:=by
 have e:iz a=bif a.err != 0 then 0 else bif !a.cell.known then 2 else bif a.cell.n != 0 then 1 else 0:=by kernel_rfl
 rw [e,h.1,h.2]; rfl
theorem SLe.tri {a b:lV} (h:SLe a b):mS (iz a) (iz b):=by
 rcases h with h | h
 ·rw [h]; exact mS.rfl' _
 ·exact .op (Qy h)
def sD (f:al) (F:List Fact) (d:Int):List Fact:=F.filter (fun x=>decide (x.at_≥0)&&decide (x.at_ < ((ai f d).af.length:Int)))
theorem Gn (f:al) (F:List Fact) (d:Int):ai { f with facts:=F } d = { ai f d with facts:=sD f F d }:=Al f F d
theorem s7.at {f:al} {F:List Fact} (h:s7 f F) (d:Int):s7 (ai f d) (sD f F d):=by
 have:=Qv d h
 rw [Gn f F d] at this
 exact this
def vF (v:cy) (F:List Fact):cy:={ v with f:={ v.f with facts:=F } }
theorem wG {v:cy} {F:List Fact} (h:s7 v.f F) (q:Int):SLe (bw v q) (bw (vF v F) q):=by
 have e:∀ v,bw v q=qY v.r v.forum q ⟨v.f,v.sign,v.sign,-1,v.due,v.day⟩:=fun v=>by kernel_rfl
 rw [e,e]
 exact zH v.r v.forum q v.sign v.sign (-1) v.due v.day h
theorem Nu (v:cy) (a:lV) (fr:Int):cp v a fr=bif a.err != 0 then ⟨true,9223372036854775807⟩ else bif !a.cell.known then ⟨false,0⟩ else bif (vr (v.r.aI.getD v.f.aR.yk.toNat default) fr a.cell.n).2 != 0 then ⟨true,9223372036854775807⟩ else ⟨true,(vr (v.r.aI.getD v.f.aR.yk.toNat default) fr a.cell.n).1⟩:=by kernel_rfl
theorem Nv (v:cy) (F:List Fact) (a:lV) (fr:Int):cp (vF v F) a fr=cp v a fr:=by rw [Nu,Nu]; rfl
theorem EO (v:cy) {a:lV} (h:a.err=0∧a.cell.known=false) (fr:Int):cp v a fr=⟨false,0⟩:=by rw [Nu,h.1,h.2]; rfl
theorem EP (v:cy) (on:Int) (t:qi):cx v on t=bif !t.known then 2 else bif (on != (-1))&&(decide (on≤t.last)) then 1 else bif (on != (-1))||(decide (v.day > t.last)) then 0 else 2:=by kernel_rfl
theorem ER (v:cy) (F:List Fact) (on:Int) (t:qi):cx (vF v F) on t=cx v on t:=by rw [EP,EP]; rfl
theorem Qz (v:cy) (F:List Fact) (k fr:Int):dq (vF v F) k fr=dq v k fr:=by kernel_rfl
theorem SG (v:cy) (F:List Fact):cP (vF v F)=cP v:=by kernel_rfl
theorem Dv (v:cy) (F:List Fact):bC (vF v F)=bC v:=by kernel_rfl
theorem Zb (v:cy) (F:List Fact):fq (vF v F)=fq v:=by
 have e:∀ v,fq v=(fun x1:lV=>bif x1.err != 0 then (⟨true,9223372036854775807⟩:qi) else bif !x1.cell.known then ⟨false,0⟩ else bif decide ((au (v.f.aR.day+x1.cell.n)) > 100000) then ⟨true,9223372036854775807⟩ else ⟨true,au (v.f.aR.day+x1.cell.n)⟩) (rN v.r v.forum 7 v.f v.day):=fun v=>by kernel_rfl
 rw [e,e]
 rw [show rN (vF v F).r (vF v F).forum 7 (vF v F).f (vF v F).day=rN v.r v.forum 7 v.f v.day from BW v.r v.forum 7 v.f F v.day]
 rfl
theorem Jz (l:List Int):cV l=if (0:Int)∈l then 0 else if (2:Int)∈l then 2 else 1:=by
 have e:cV l=bif bD l 0 then 0 else bif bD l 2 then 2 else 1:=by kernel_rfl
 rw [e]
 have h0:=contains_iff l 0
 have h2:=contains_iff l 2
 by_cases a:(0:Int)∈l
 ·rw [if_pos a,h0.2 a]; rfl
 ·rw [if_neg a,Bool.eq_false_iff.2 (fun x=>a (h0.1 x))]
  by_cases b:(2:Int)∈l
  ·rw [if_pos b,h2.2 b]; rfl
  ·rw [if_neg b,Bool.eq_false_iff.2 (fun x=>b (h2.1 x))]; rfl
theorem GP {a a' b b' c c':Int} (ha:mS a a') (hb:mS b b') (hc:mS c c'):mS (cV [a,b,c]) (cV [a',b',c']):=by
 unfold mS at *
 rw [Jz,Jz]
 simp only [List.mem_cons,List.not_mem_nil,or_false]
 intro k
 by_cases z:0=a∨0=b∨0=c
 ·have z':0=a'∨0=b'∨0=c':=by
   rcases z with z | z | z
   ·exact .inl (by rw [ha (by omega)]; exact z)
   ·exact .inr (.inl (by rw [hb (by omega)]; exact z))
   ·exact .inr (.inr (by rw [hc (by omega)]; exact z))
  rw [if_pos z,if_pos z']
 ·rw [if_neg z] at k ⊢
  by_cases t:2=a∨2=b∨2=c
  ·rw [if_pos t] at k; exact absurd rfl k
  ·rw [ha (by omega),hb (by omega),hc (by omega),if_neg z]
theorem Zc {a b b':Int} (hb:mS b b'):mS (cV [a,b]) (cV [a,b']):=by
 have e:∀ b,cV [a,b]=cV [a,a,b]:=fun b=>by rw [Jz,Jz]; simp
 rw [e,e]
 exact GP (mS.rfl' _) (mS.rfl' _) hb
def QA (k0 rf du:Bool) (t1 b5 t2:Int):Int:=bif k0 then t1 else bif rf then b5 else bif du then cV [b5,2] else cV [b5,t2]
theorem Dw (v:cy):cW v=QA (v.f.aR.cR.kind == 0) (cP v != (-1)) (v.due == (-1)) (cx v (dq v 2 0) (fq v)) (bif v.f.aR.cR.kind == 1 then cx v (lX v.f) (fq v) else 1) (cx v (dq v 2 v.due) (cp v (bw v 10) v.due)):=by
 unfold cW db QA
 dsimp +instances only [Sk.dh,Sk.eQ,Sk.iE,Sk.cO,gm.xP,kk,kp,bg.AY,bg.pn,dH,iC,eM,nz,ed,gv,aY,bK]
 cases v.f.aR.cR.kind == 0 <;> cases v.f.aR.cR.kind == 1 <;> rfl
theorem Dx {v:cy} {F:List Fact} (h:s7 v.f F):mS (cW v) (cW (vF v F)):=by
 rw [Dw,Dw,SG,Zb,Qz,Qz,ER,ER,ER,show lX (vF v F).f=lX v.f from Jv v.f F]
 have ht:mS (cx v (dq v 2 v.due) (cp v (bw v 10) v.due)) (cx v (dq v 2 v.due) (cp (vF v F) (bw (vF v F) 10) v.due)):=by
  rcases wG h 10 with e | e
  ·rw [e,Nv]; exact mS.rfl' _
  ·rw [EO v e]; exact .op (by rw [EP]; rfl)
 show mS (QA (v.f.aR.cR.kind == 0) (cP v != (-1)) (v.due == (-1)) _ _ _) (QA (v.f.aR.cR.kind == 0) (cP v != (-1)) (v.due == (-1)) _ _ _)
 unfold QA
 cases v.f.aR.cR.kind == 0 with
 | true=>rw [cond_true,cond_true]; exact mS.rfl' _
 | false =>
  rw [cond_false,cond_false]
  cases cP v != (-1) with
  | true=>rw [cond_true,cond_true]; exact mS.rfl' _
  | false =>
   rw [cond_false,cond_false]
   cases v.due == (-1) with
   | true=>rw [cond_true,cond_true]; exact mS.rfl' _
   | false=>rw [cond_false,cond_false]; exact Zc ht
def Dy (P:bh→Bool) (t:Int) (a:bh) (s:Int):Int ⊕ Int:=bif P a then .inr s else bif a.form == 1 then (bif t == 1 then .inl 1 else bif t == 2 then .inr 2 else .inr s) else .inl 1
def sE (P:bh→Bool) (t:Int) (l:List bh) (s:Int):Int:=walk (Dy P t) (fun s=>s) l s
theorem xJ (P:bh→Bool) (t:Int) (a:bh) (l:List bh) (s:Int):sE P t (a :: l) s=bif P a then sE P t l s else bif a.form == 1 then (bif t == 1 then 1 else bif t == 2 then sE P t l 2 else sE P t l s) else 1:=by
 unfold sE
 simp only [walk]
 unfold Dy
 cases P a <;> cases a.form == 1 <;> cases t == 1 <;> cases t == 2 <;> rfl
theorem zI (P:bh→Bool) (t:Int):∀ (l:List bh) (s:Int),sE P 2 l 2=1→sE P t l s=1
 | [],s,h=>absurd (show (2:Int)=1 from h) (by decide)
 | a :: l,s,h=>by
  rw [xJ] at h ⊢
  cases hp:P a with
  | true=>rw [hp] at h; exact zI P t l s h
  | false =>
   rw [hp] at h
   cases hq:a.form == 1 with
   | false=>rfl
   | true =>
    rw [hq] at h
    have h:=show sE P 2 l 2=1 from h
    cases t == 1 with
    | true=>rfl
    | false =>
     cases t == 2 with
     | true=>exact zI P t l 2 h
     | false=>exact zI P t l s h
theorem JA (P:bh→Bool):∀ (l:List bh),sE P 2 l 2≠2→sE P 2 l 2=1
 | [],h=>absurd rfl h
 | a :: l,h=>by
  rw [xJ] at h ⊢
  cases hp:P a with
  | true=>rw [hp] at h; exact JA P l h
  | false =>
   rw [hp] at h
   cases hq:a.form == 1 with
   | false=>rfl
   | true=>rw [hq] at h; exact JA P l h
theorem TS (P:bh→Bool) (t:Int):∀ (l:List bh) (s:Int),mS (sE P 2 l s) (sE P t l s)
 | [],s=>mS.rfl' _
 | a :: l,s=>by
  rw [xJ,xJ]
  cases P a with
  | true=>exact TS P t l s
  | false =>
   cases a.form == 1 with
   | false=>exact mS.rfl' _
   | true =>
    intro h
    have h:=show sE P 2 l 2≠2 from h
    have h1:=JA P l h
    refine Eq.trans ?_ (show (1:Int)=sE P 2 l 2 from h1.symm)
    cases t == 1 with
    | true=>rfl
    | false =>
     cases t == 2 with
     | true=>exact zI P t l 2 h1
     | false=>exact zI P t l s h1
theorem Dz (v:cy):cX v=(fun p:qi=>bif !p.known then 2 else sE (fun a=>(((a.kind != 4)||(a.cj != v.f.aR.mZ))||(decide (a.day < bC v)))||(decide (a.day > p.last))) (iz (bw v 9)) v.f.aA (bif decide (v.day≤p.last) then 2 else 0)) (cp v (bw v 10) (bC v)):=by
 unfold cX dc
 dsimp +instances only [Sk.dh,Sk.gd,Sk.iY,Sk.eQ,Sk.iE,Sk.lT,Sk.cO,gm.xP,kk,kp,bg.AY,cw,bK,aY,fp]
 generalize cp v (bw v 10) (bC v)=p
 generalize iz (bw v 9)=t
 cases p.known with
 | false=>rfl
 | true =>
  have key:∀ (s0:Int) (d:Int ⊕ Int),gH (iter (fun i6:Int × Nat=>bif decide ((i6.2:Int) < ((v.f.aA.length:Nat):Int)) then
    bif ((((((v.f.aA.getD i6.2 default).kind) != 4)||(((v.f.aA.getD i6.2 default).cj) != v.f.aR.mZ))||(decide (((v.f.aA.getD i6.2 default).day) < bC v)))||(decide (((v.f.aA.getD i6.2 default).day) > p.last))) then Sum.inr (i6.1,i6.2+1) else
    gH (bif ((v.f.aA.getD i6.2 default).form) == 1 then (Sum.inr t:((Int ⊕ Int) ⊕ (Int × Nat)) ⊕ Int) else Sum.inr 1) fun b7=>bif b7 == 1 then Sum.inl (Sum.inl 1) else bif b7 == 2 then Sum.inr (2,i6.2+1) else Sum.inr (i6.1,i6.2+1)
    else Sum.inl (Sum.inr i6.1)) d (v.f.aA.length - 0+1) (s0,0)) (fun b=>b)=sE (fun a=>(((a.kind != 4)||(a.cj != v.f.aR.mZ))||(decide (a.day < bC v)))||(decide (a.day > p.last))) t v.f.aA s0:=by
   intro s0 d
   refine eX v.f.aA (fun s i=>(s,i)) (Dy (fun a=>(((a.kind != 4)||(a.cj != v.f.aR.mZ))||(decide (a.day < bC v)))||(decide (a.day > p.last))) t) (fun s=>s) (fun b=>b) (fun s i hi=>?_) (fun s=>?_) (by omega) s0
   ·dsimp only
    rw [decide_eq_true (by omega),cond_true]
    unfold Dy
    dsimp only
    cases ((((((v.f.aA.getD i default).kind) != 4)||(((v.f.aA.getD i default).cj) != v.f.aR.mZ))||(decide (((v.f.aA.getD i default).day) < bC v)))||(decide (((v.f.aA.getD i default).day) > p.last))) with
    | true=>rfl
    | false =>
     cases ((v.f.aA.getD i default).form) == 1 with
     | false=>rfl
     | true=>simp only [cond_true,cond_false,gH]; cases t == 1 <;> cases t == 2 <;> rfl
   ·dsimp only
    rw [decide_eq_false (by omega),cond_false]
  cases decide (v.day≤p.last) with
  | true=>exact key 2 _
  | false=>exact key 0 _
theorem Nw {v:cy} {F:List Fact} (h:s7 v.f F):mS (cX v) (cX (vF v F)):=by
 rw [Dz,Dz,Dv]
 rcases wG h 10 with e | e
 ·rw [e,Nv]
  generalize cp v (bw v 10) (bC v)=p
  cases hp:p.known with
  | false=>exact .op (by dsimp only; rw [hp]; rfl)
  | true =>
   dsimp only
   rw [hp,Bool.not_true,cond_false,cond_false]
   rcases wG h 9 with e9 | e9
   ·rw [e9]; exact mS.rfl' _
   ·rw [Qy e9]; exact TS _ _ _ _
 ·exact .op (by rw [EO v e]; rfl)
theorem LK {s s':lV} {a a':Int} (h:mS (iz s) (iz s')) (ha:mS a a'):mS (gU s a) (gU s' a'):=by
 have e:∀ s a,gU s a=bif (iz s == 0)||(a == 1) then 1 else bif iz s == 2 then 2 else a:=fun s a=>by kernel_rfl
 rw [e,e]
 generalize iz s=t at h
 generalize iz s'=t' at h
 intro k
 by_cases c:t=0∨a=1
 ·have c':t'=0∨a'=1:=by
   rcases c with c | c
   ·exact .inl (by rw [h (by omega)]; exact c)
   ·exact .inr (by rw [ha (by omega)]; exact c)
  rw [show ((t == 0)||(a == 1))=true by simpa using c,show ((t' == 0)||(a' == 1))=true by simpa using c']; rfl
 ·have cf:((t == 0)||(a == 1))=false:=by simpa using c
  rw [cf,cond_false] at k
  by_cases t2:t=2
  ·rw [t2] at k; exact absurd rfl k
  ·rw [show (t == 2)=false by simpa using t2,cond_false] at k
   rw [h t2,ha k]
theorem QB {v:cy} {F:List Fact} (h:s7 v.f F):mS (df v) (df (vF v F)):=by
 rcases wG h 12 with e | e
 ·intro _
  unfold df cM
  dsimp +instances only [Sk.dh,Sk.gd,Sk.iY,Sk.eQ,Sk.iE,Sk.lT,Sk.cO,gm.xP,kk,kp,bg.Pn,cw,bK,aY]
  rw [e,Dv]
  simp only [Nv]
  rfl
 ·refine .op ?_
  unfold df cM
  dsimp +instances only [Sk.dh,Sk.gd,Sk.iY,Sk.eQ,Sk.iE,Sk.lT,Sk.cO,gm.xP,kk,kp,bg.Pn,cw,bK,aY]
  rw [EO v e]
  rfl
theorem QC (r:ah) (fo:Int) (f:al) (s d:Int):(ij r fo f s d).all=(fun v:cy=>bif (decide (s < 0))||(decide (s≥((v.f.af.length:Nat):Int))) then 0 else cV [cW v,bif v.due != (-1) then gU (bw v 8) (cX v) else 2,bif v.due != (-1) then gU (bw v 11) (df v) else 2]) (fj r fo f s d):=by
 unfold ij ju
 dsimp +instances only [Sk.dh,Sk.eQ,Sk.iE,Sk.cO,gm.xP,kk,kp,bg.AY,bg.pn,qK,hZ,aY,ig,kJ,iJ,gv]
 generalize fj r fo f s d=v
 cases (decide (s < 0))||(decide (s≥((v.f.af.length:Nat):Int))) <;> cases v.due != (-1) <;> rfl
theorem aa1 (r:ah) (fo:Int) (f:al) (F:List Fact) (s d:Int):fj r fo { f with facts:=F } s d=vF (fj r fo f s d) (sD f F d):=by
 have e:∀ f,fj r fo f s d=⟨r,fo,ai f d,s,d,cb r fo f d⟩:=fun f=>by kernel_rfl
 rw [e,e,Gn,pZ]; rfl
theorem Zd (r:ah) (fo:Int) {f:al} {F:List Fact} (s d:Int) (h:s7 f F):mS (ij r fo f s d).all (ij r fo { f with facts:=F } s d).all:=by
 rw [QC,QC,aa1 r fo f F s d]
 have hv:s7 (fj r fo f s d).f (sD f F d):=by
  rw [show (fj r fo f s d).f=ai f d from by kernel_rfl]
  exact h.at d
 generalize fj r fo f s d=v at hv ⊢
 dsimp only
 rw [show (vF v (sD f F d)).f.af.length=v.f.af.length from rfl,show (vF v (sD f F d)).due=v.due from rfl]
 cases (decide (s < 0))||(decide (s≥((v.f.af.length:Nat):Int))) with
 | true=>rw [cond_true,cond_true]; exact mS.rfl' _
 | false =>
  rw [cond_false,cond_false]
  cases v.due != (-1) with
  | true=>simp only [cond_true]; exact GP (Dx hv) (LK (wG hv 8).tri (Nw hv)) (LK (wG hv 11).tri (QB hv))
  | false=>simp only [cond_false]; exact GP (Dx hv) (mS.rfl' _) (mS.rfl' _)
def bF (v:kS) (F:List Fact):kS:={ v with f:={ v.f with facts:=F } }
theorem JB {v:kS} {F:List Fact} (h:s7 v.f F) (q s:Int):mS (dZ v q s) (dZ (bF v F) q s):=by
 have e:∀ v,dZ v q s=iz (qY v.r v.forum q ⟨v.f,s,s,-1,v.due,v.day⟩):=fun v=>by kernel_rfl
 rw [e,e]
 exact (zH v.r v.forum q s s (-1) v.due v.day h).tri
theorem Ze (v:kS) (s:Int):dn v s=bif !(v.f.aN.foldl (fun b a=>b||decide (a.at_ > s)) false) then (0,ku v.f s) else
  (fun x4:Int=>bif x4 == 1 then (x4,(v.f.aN.getD ((au (((v.f.aN.length:Nat):Int) - 1)).toNat) default).sum) else bif x4 == 2 then (x4,bL (ku v.f s) ((v.f.aN.getD ((au (((v.f.aN.length:Nat):Int) - 1)).toNat) default).sum)) else (x4,ku v.f s)) (dZ v 4 s):=by
 unfold dn fg
 dsimp +instances only [Sk.dh,Sk.gd,Sk.iY,Sk.eQ,Sk.iE,Sk.lT,Sk.cO,gm.xP,kk,kp,rh,dF]
 refine (eX v.f.aN (fun s i=>(s,i)) (fun a b=>.inr (b||decide (a.at_ > s))) (fun b=>b) _ (fun b i hi=>?_) (fun b=>?_) (by omega) false).trans ?_
 ·dsimp only
  rw [decide_eq_true (by omega),cond_true]
 ·dsimp only
  rw [decide_eq_false (by omega),cond_false]
 ·rw [j0]
def TU (b:Bool) (x y a:Int):Int × Int:=bif !b then (0,x) else bif a == 1 then (a,y) else bif a == 2 then (a,bL x y) else (a,x)
theorem Xz (c:Bool) (x y:Int) {a b:Int} (hs:mS a b):(TU c x y a).2≤(TU c x y b).2:=by
 unfold TU
 cases !c with
 | true=>exact Int.le_refl _
 | false =>
  rw [cond_false,cond_false]
  by_cases k:a=2
  ·subst k
   show bL x y≤_
   have h1:bL x y≤x:=by unfold bL; split <;> omega
   have h2:bL x y≤y:=by unfold bL; split <;> omega
   cases h1':b == 1 with
   | true=>exact h2
   | false =>
    rw [cond_false]
    cases b == 2 with
    | true=>exact Int.le_refl _
    | false=>exact h1
  ·rw [hs k]; exact Int.le_refl _
theorem Zf {v:kS} {F:List Fact} (h:s7 v.f F) (s:Int):(dn v s).2≤(dn (bF v F) s).2:=by
 have e:∀ v,dn v s=TU (v.f.aN.foldl (fun b a=>b||decide (a.at_ > s)) false) (ku v.f s) (v.f.aN.getD ((au (((v.f.aN.length:Nat):Int) - 1)).toNat) default).sum (dZ v 4 s):=fun v=>Ze v s
 have e2:ku (bF v F).f s=ku v.f s:=by kernel_rfl
 rw [e,e,e2]
 exact Xz _ _ _ (JB h 4 s)
theorem XA (f:al) (F:List Fact) (s d:Int):jl { f with facts:=F } s d=jl f s d:=by kernel_rfl
theorem Am (v:kS) (s:Int):bR v s = { sign:=s,kind:=(v.f.af.getD s.toNat default).kind,fA:=(v.f.af.getD s.toNat default).dt,binds:=bif !(jl v.f s v.day) then bind_join [v.form,dZ v 1 s,dZ v 2 s] else 0,text:=(dn v s).1,sum:=bif (((v.f.af.getD s.toNat default).kind) == 1)||(((v.f.af.getD s.toNat default).kind) == 4) then bL (dn v s).2 ((v.f.af.getD s.toNat default).sum) else (dn v s).2,eI:=(((v.f.af.getD s.toNat default).kind) != 1)&&((dP .i64 ((v.f.af.getD s.toNat default).flags) 1) == 0) }:=by
 unfold bR dT
 dsimp +instances only [Sk.dh,Sk.eQ,Sk.iE,Sk.cO,gm.xP,kk,kp,bg.AY,bg.pn,pR,dF,oJ,mL]
 cases jl v.f s v.day <;> cases (((v.f.af.getD s.toNat default).kind) == 1)||(((v.f.af.getD s.toNat default).kind) == 4) <;> rfl
theorem Z3:∀ (l:List Int) (o:Int),jn l o=if (0:Int)∈l then 0 else if (2:Int)∈l then 2 else o
 | [],o=>by simp [jn]
 | x :: r,o=>by
  simp only [jn,Z3 r,List.mem_cons]
  by_cases h0:x=0
  ·simp [h0]
  ·by_cases h2:x=2
   ·subst h2; simp
   ·have a:¬ (0:Int)=x:=fun e=>h0 e.symm
    have b:¬ (2:Int)=x:=fun e=>h2 e.symm
    simp [h0,h2,a,b]
def Nx (st:Bool) (a b c:Int):Int:=bif !st then bind_join [a,b,c] else 0
theorem Vf (st:Bool) (a:Int) {b b' c c':Int} (hb:mS b b') (hc:mS c c'):mS (Nx st a b c) (Nx st a b' c'):=by
 have e:∀ l,bind_join l=cV l:=fun l=>by rw [show bind_join l=jn l 1 from HS l,Z3,Jz]
 unfold Nx
 cases st with
 | true=>rw [Bool.not_true,cond_false,cond_false]; exact mS.rfl' _
 | false =>
  rw [Bool.not_false,cond_true,cond_true,e,e]
  exact GP (mS.rfl' _) hb hc
theorem Ny {v:kS} {F:List Fact} (h:s7 v.f F) (s:Int):mS (bR v s).binds (bR (bF v F) s).binds:=by
 have e:∀ v,(bR v s).binds=Nx (jl v.f s v.day) v.form (dZ v 1 s) (dZ v 2 s):=fun v=>congrArg cC.binds (Am v s)
 have e2:jl (bF v F).f s (bF v F).day=jl v.f s v.day:=XA v.f F s v.day
 rw [e,e,e2]
 exact Vf _ v.form (JB h 1 s) (JB h 2 s)
theorem SH {v:kS} {F:List Fact} (h:s7 v.f F) (s:Int):(bR v s).sum≤(bR (bF v F) s).sum:=by
 have e:∀ v,(bR v s).sum=(fun (k:Bool) (t x:Int)=>bif k then bL t x else t) ((((v.f.af.getD s.toNat default).kind) == 1)||(((v.f.af.getD s.toNat default).kind) == 4)) (dn v s).2 ((v.f.af.getD s.toNat default).sum):=fun v=>congrArg cC.sum (Am v s)
 rw [e,e]
 have ht:=Zf h s
 show (fun (k:Bool) (t x:Int)=>bif k then bL t x else t) ((((v.f.af.getD s.toNat default).kind) == 1)||(((v.f.af.getD s.toNat default).kind) == 4)) _ ((v.f.af.getD s.toNat default).sum)≤(fun (k:Bool) (t x:Int)=>bif k then bL t x else t) ((((v.f.af.getD s.toNat default).kind) == 1)||(((v.f.af.getD s.toNat default).kind) == 4)) _ ((v.f.af.getD s.toNat default).sum)
 dsimp only
 cases (((v.f.af.getD s.toNat default).kind) == 1)||(((v.f.af.getD s.toNat default).kind) == 4) with
 | true=>rw [cond_true,cond_true]; unfold bL; split <;> split <;> omega
 | false=>rw [cond_false,cond_false]; exact ht
theorem SI (v:kS) (F:List Fact) (s:Int):(bR (bF v F) s).eI=(bR v s).eI:=by rw [Am,Am]; rfl
theorem JC (r:ah) (fo:Int) (f:al) (d:Int):gS r fo f d=⟨r,fo,d,ai f d,iz (rN r fo 0 (ai f d) d),cb r fo (ai f d) d⟩:=by kernel_rfl
theorem TV (r:ah) (fo:Int) (f:al) (F:List Fact) (d:Int):gS r fo { f with facts:=F } d=bF (gS r fo f d) (sD f F d):=by
 rw [JC,JC,Gn,BW,pZ]; rfl
theorem JD {r:ah} {fo:Int} {f:al} {F:List Fact} {d:Int} (h:s7 f F):s7 (gS r fo f d).f (sD f F d):=by
 rw [JC]; exact h.at d
theorem Fl (r:ah) (fo:Int) (f:al) (d:Int) {i:Nat} (hi:i < (ai f d).af.length):(aQ r fo f d).getD i default=bR (gS r fo f d) ((i:Nat):Int):=by
 have e:aQ r fo f d=(List.range (ai f d).af.length).map fun j=>bR (gS r fo f d) ((j:Nat):Int):=by
  unfold aQ iQ
  dsimp +instances only [Sk.dh,Sk.gd,Sk.iY,Sk.eQ,Sk.iE,Sk.lT,Sk.cO,gm.xP,kk,kp,bg.WH,bg.pn,l4,eB]
  rw [show (gS r fo f d).f=ai f d from (IZ r fo f d).1]
  refine congrArg (fun q=>gH q fun b=>b) (Ae (ai f d).af.length (fun k=>(List.range k).map fun j=>bR (gS r fo f d) ((j:Nat):Int)) (fun s i=>(s,i)) (fun s=>Sum.inr s) (fun i hi=>?_) ?_ (by omega))
  ·dsimp only
   rw [decide_eq_true (by omega),cond_true,List.range_succ,List.map_append]
   rfl
  ·dsimp only
   rw [decide_eq_false (by omega),cond_false]
 rw [e]
 simp [List.getD,hi]
theorem Vg {a b c:Int} (ha:0≤a∧a≤9223372036854775807) (hb:0≤b∧b≤9223372036854775807) (hc:0 < c∧c≤9223372036854775807):((l7 a b c).2.2=true∧(l7 a b c).1=a * b / c∧a * b / c≤1099511627776)∨((l7 a b c).2.2=false∧1099511627776 < a * b / c):=by
 have e:l7 a b c=(fun x1:Int × Int=>bif decide (x1.1≥(IntKind.u64.wrap c)) then (0,0,false) else (fun x2:Int × Int=>bif decide (x2.1 > 1099511627776) then (0,0,false) else (au (x2.1),au (x2.2),true)) (ui x1.1 x1.2 (IntKind.u64.wrap c))) (qA (IntKind.u64.wrap a) (IntKind.u64.wrap b)):=by kernel_rfl
 rw [e,dA (n:=a) ha.1 (by omega),dA (n:=b) hb.1 (by omega),dA (n:=c) (by omega) (by omega)]
 obtain ⟨x1,x2,x3⟩:=sc a b ⟨⟨ha.1,by omega⟩,hb.1,by omega⟩
 generalize qA a b=x at x1 x2 x3 ⊢
 dsimp only
 by_cases h:x.1≥c
 ·rw [decide_eq_true h]
  refine .inr ⟨rfl,?_⟩
  have:18446744073709551616≤a * b / c:=Int.le_ediv_of_mul_le hc.1 (by omega)
  omega
 ·rw [decide_eq_false h]
  have hy:=sn x.1 x.2 c ⟨x1.1,by omega,by omega,x2.1,x2.2⟩
  generalize ui x.1 x.2 c=y at hy ⊢
  rw [x3] at hy
  have q0:0≤a * b / c:=Int.ediv_nonneg (Int.mul_nonneg ha.1 hb.1) (by omega)
  rw [cond_false]
  by_cases k:y.1 > 1099511627776
  ·rw [decide_eq_true k]; exact .inr ⟨rfl,by omega⟩
  ·rw [decide_eq_false k]; exact .inl ⟨rfl,by show au y.1=_; rw [aG (by omega) (by omega)]; exact hy.1,by omega⟩
theorem QD {s s' p p':Int} (fr t:Int) (hs:0≤s∧s≤s'∧s'≤1099511627776) (hp:p'=p∨(0≤p∧p≤p'∧p'≤1000)):eo s p fr t≤eo s' p' fr t:=by
 have e:∀ s p,eo s p fr t=bif (pX s p fr t 360).2 == 3 then 1099511627776 else (pX s p fr t 360).1:=fun s p=>by kernel_rfl
 have ei:∀ s p,pX s p fr t 360=bif (((((!(cQ s 1099511627776))||(!(cQ p 1000)))||(!(cQ fr 100000)))||(!(cQ t 100000)))||(decide (t < fr)))||(((360:Int) != 360)&&((360:Int) != 365)) then (0,1) else bif !(l7 s (au (p * (au (t - fr)))) (au ((1000:Int) * 360))).2.2 then (0,3) else ((l7 s (au (p * (au (t - fr)))) (au ((1000:Int) * 360))).1,0):=fun s p=>by kernel_rfl
 have hw:∀ n m,cQ n m=(decide (n≥0)&&decide (n≤m)):=fun n m=>by rw [sm]
 have h0:=l8 s' p' fr t
 by_cases c:(0≤p∧p≤1000)∧(0≤fr∧fr≤100000)∧(0≤t∧t≤100000)∧fr≤t
 ·have hp2:0≤p'∧p≤p'∧p'≤1000:=by omega
  have acH:∀ s p,0≤s→s≤1099511627776→0≤p→p≤1000→eo s p fr t=if s * (p * (t - fr)) / 360000≤1099511627776 then s * (p * (t - fr)) / 360000 else 1099511627776:=by
   intro s p a1 a2 a3 a4
   have hp0:0≤p * (t - fr):=Int.mul_nonneg (by omega) (by omega)
   have hp1:p * (t - fr)≤1000 * (t - fr):=Int.mul_le_mul_of_nonneg_right (by omega) (by omega)
   have hc:((((((!(cQ s 1099511627776))||(!(cQ p 1000)))||(!(cQ fr 100000)))||(!(cQ t 100000)))||(decide (t < fr)))||(((360:Int) != 360)&&((360:Int) != 365)))=false:=by
    simp only [hw]
    rw [decide_eq_true (show s≥0 by omega),decide_eq_true (show s≤1099511627776 by omega),decide_eq_true (show p≥0 by omega),decide_eq_true (show p≤1000 by omega),decide_eq_true (show fr≥0 by omega),decide_eq_true (show fr≤100000 by omega),decide_eq_true (show t≥0 by omega),decide_eq_true (show t≤100000 by omega),decide_eq_false (show ¬ t < fr by omega)]
    rfl
   rw [e,ei,hc,cond_false,aG (n:=t - fr) (by omega) (by omega),aG (n:=p * (t - fr)) (by omega) (by omega),show au ((1000:Int) * 360)=360000 from by rw [aG (by omega) (by omega)]; rfl]
   rcases Vg (a:=s) (b:=p * (t - fr)) (c:=360000) ⟨a1,by omega⟩ ⟨hp0,by omega⟩ ⟨by omega,by omega⟩ with ⟨k1,k2,k3⟩ | ⟨k1,k2⟩
   ·rw [k1,if_pos k3]; exact k2
   ·rw [k1,if_neg (by omega)]; rfl
  rw [acH s p hs.1 (by omega) (by omega) (by omega),acH s' p' (by omega) (by omega) (by omega) (by omega)]
  have m1:p * (t - fr)≤p' * (t - fr):=Int.mul_le_mul_of_nonneg_right hp2.2.1 (by omega)
  have m2:s * (p * (t - fr))≤s' * (p' * (t - fr)):=Int.mul_le_mul hs.2.1 m1 (Int.mul_nonneg (by omega) (by omega)) (by omega)
  have m3:s * (p * (t - fr)) / 360000≤s' * (p' * (t - fr)) / 360000:=Int.ediv_le_ediv (by omega) m2
  split <;> split <;> omega
 ·refine Int.le_trans (Int.le_of_eq ?_) h0.1
  have hc:((((((!(cQ s 1099511627776))||(!(cQ p 1000)))||(!(cQ fr 100000)))||(!(cQ t 100000)))||(decide (t < fr)))||(((360:Int) != 360)&&((360:Int) != 365)))=true:=by
   simp only [hw]
   simp only [Bool.or_eq_true,Bool.not_eq_true',Bool.and_eq_false_iff,decide_eq_false_iff_not,decide_eq_true_eq]
   omega
  rw [e,ei,hc]; rfl
theorem Zg {s s':Int} {a b:kU} (hs:0≤s∧s≤s'∧s'≤1099511627776) (ha:(1≤a.num∧a.num≤1073741824)∧1≤a.den∧a.den≤1073741824) (hb:(1≤b.num∧b.num≤1073741824)∧1≤b.den∧b.den≤1073741824):ma s a b≤ma s' a b:=by
 obtain ⟨hk,ek⟩:=EK (a:=a.num) (b:=b.num) ha.1 hb.1
 obtain ⟨hw,ew⟩:=EK (a:=a.den) (b:=b.den) ha.2 hb.2
 have val:∀ s,0≤s→s≤1099511627776→ma s a b=if a.num * b.num≥a.den * b.den then 0 else s * (a.den * b.den - a.num * b.num) / (a.den * b.den):=by
  intro s s0 s1
  have e:ma s a b=bif decide ((IntKind.u64.wrap ((IntKind.u64.wrap (a.num)) * (IntKind.u64.wrap (b.num))))≥(IntKind.u64.wrap ((IntKind.u64.wrap (a.den)) * (IntKind.u64.wrap (b.den))))) then 0 else (fun x1:Int × Int=>au (ui x1.1 x1.2 (IntKind.u64.wrap ((IntKind.u64.wrap (a.den)) * (IntKind.u64.wrap (b.den))))).1) (qA (IntKind.u64.wrap (s)) (IntKind.u64.wrap ((IntKind.u64.wrap ((IntKind.u64.wrap (a.den)) * (IntKind.u64.wrap (b.den)))) - (IntKind.u64.wrap ((IntKind.u64.wrap (a.num)) * (IntKind.u64.wrap (b.num))))))):=by kernel_rfl
  rw [e,ek,ew]
  by_cases hc:a.num * b.num≥a.den * b.den
  ·rw [decide_eq_true hc,if_pos hc]; rfl
  ·rw [decide_eq_false hc,if_neg hc,cond_false,dA (n:=s) s0 (by omega),dA (n:=a.den * b.den - a.num * b.num) (by omega) (by omega)]
   obtain ⟨h1,h2,h3⟩:=sc s (a.den * b.den - a.num * b.num) ⟨⟨s0,by omega⟩,by omega,by omega⟩
   generalize qA s (a.den * b.den - a.num * b.num)=x at h1 h2 h3 ⊢
   obtain ⟨l1,l2,l3⟩:=Jk ⟨s0,s1⟩ (D:=a.den * b.den - a.num * b.num) (by omega) hw h1.1 h2.1 h3
   have hy:=(sn x.1 x.2 (a.den * b.den) ⟨h1.1,l1,by omega,h2.1,h2.2⟩).1
   rw [h3] at hy
   dsimp only
   rw [hy,aG (by omega) (by omega)]
 rw [val s hs.1 (by omega),val s' (by omega) hs.2.2]
 split
 ·exact Int.le_refl _
 ·exact Int.ediv_le_ediv (by omega) (Int.mul_le_mul_of_nonneg_right hs.2.1 (by omega))
theorem QE {r:ah} (b:qc) (dt:Int) {s s':Int} (fr t:Int) (hs:0≤s∧s≤s'∧s'≤1099511627776) (hR:r.dj):iR r b dt s fr t≤iR r b dt s' fr t:=by
 have e:∀ s,iR r b dt s fr t=bif ((r.aI.getD (((r.bm.getD dt.toNat default).bZ).toNat) default).az) == b.az then 0 else
   bif (!(ky r b.az ((r.aI.getD (((r.bm.getD dt.toNat default).bZ).toNat) default).az) fr).2)||(!(ky r ((r.aI.getD (((r.bm.getD dt.toNat default).bZ).toNat) default).az) b.az t).2) then 0 else
   ma s (ky r b.az ((r.aI.getD (((r.bm.getD dt.toNat default).bZ).toNat) default).az) fr).1 (ky r ((r.aI.getD (((r.bm.getD dt.toNat default).bZ).toNat) default).az) b.az t).1:=fun s=>by kernel_rfl
 rw [e,e]
 have h1:=qO r b.az ((r.aI.getD (((r.bm.getD dt.toNat default).bZ).toNat) default).az) fr hR
 have h2:=qO r ((r.aI.getD (((r.bm.getD dt.toNat default).bZ).toNat) default).az) b.az t hR
 generalize ky r b.az ((r.aI.getD (((r.bm.getD dt.toNat default).bZ).toNat) default).az) fr=x at h1 ⊢
 generalize ky r ((r.aI.getD (((r.bm.getD dt.toNat default).bZ).toNat) default).az) b.az t=y at h2 ⊢
 cases ((r.aI.getD (((r.bm.getD dt.toNat default).bZ).toNat) default).az) == b.az with
 | true=>rw [cond_true,cond_true]; exact Int.le_refl _
 | false =>
  rw [cond_false,cond_false]
  cases hx:x.2 with
  | false=>rw [Bool.not_false,Bool.true_or,cond_true,cond_true]; exact Int.le_refl _
  | true =>
   cases hy:y.2 with
   | false=>rw [Bool.not_false,Bool.or_true,cond_true,cond_true]; exact Int.le_refl _
   | true=>rw [Bool.not_true,Bool.or_self,cond_false,cond_false]; exact Zg hs (h1 hx) (h2 hy)
def wH (a:bh) (s:Int):Int:=bif (a.kind == 4)||(a.kind == 5) then bL 1099511627776 (au (s+a.sum)) else s
def GQ (l:List bh):Int:=l.foldl (fun s a=>wH a s) 0
theorem Vh (l:List bh) (h:∀ a,a∈l→jJ a.sum):∀ s,jJ s→jJ (l.foldl (fun s a=>wH a s) s):=by
 induction l with
 | nil=>exact fun s hs=>hs
 | cons a r ih =>
  intro s hs
  refine ih (fun x hx=>h x (by simp [hx])) _ ?_
  have ha:=h a (by simp)
  show jJ (wH a s)
  clear ih
  unfold wH
  unfold jJ at *
  cases (a.kind == 4)||(a.kind == 5) with
  | false=>rw [cond_false]; exact hs
  | true=>rw [cond_true,aG (by omega) (by omega)]; unfold bL; split <;> omega
def so (r:ah) (fo:Int) (f:al) (s d m:Int):Int:=bif f.aR.lf == 0 then bL 1000 (cg 0 (qB (qY r fo 16 ⟨f,s,s,-1,m,d⟩))) else f.aR.lf
def QF (r:ah) (fo:Int) (f:al) (s d m:Int) (dt x:Int):Int:=bif iz (qY r fo 17 ⟨f,s,s,-1,m,d⟩) == 1 then iR r f.aR dt x m (bL d 100000) else 0
theorem LL (r:ah) (fo:Int) (f:al) (s d:Int):(gj r fo f s d).rest=bif ((!(dr r fo f s d).2)||(decide (s < 0)))||(decide (s≥(((ai f d).af.length:Nat):Int))) then 0 else
  bL 1099511627776 (au ((au ((au ((dr r fo f s d).1.sum+(bif (cb r fo f d != (-1))&&(decide (cb r fo f d≤(bL d 100000))) then eo (dr r fo f s d).1.sum (so r fo f s d (cb r fo f d)) (cb r fo f d) (bL d 100000) else 0)))+GQ (ai f d).aA))+(bif (cb r fo f d != (-1))&&(decide (cb r fo f d≤(bL d 100000))) then QF r fo f s d (cb r fo f d) ((ai f d).af.getD s.toNat default).dt (dr r fo f s d).1.sum else 0))):=by
 unfold gj iq
 dsimp +instances only [Sk.dh,Sk.gd,Sk.iY,Sk.eQ,Sk.iE,Sk.lT,Sk.cO,gm.xP,kk,kp,bg.AY,bg.pn,ch,rk,cK,gR,mH,lM,fp,lN]
 cases ((!(dr r fo f s d).2)||(decide (s < 0)))||(decide (s≥(((ai f d).af.length:Nat):Int))) with
 | true=>rfl
 | false =>
  rw [cond_false,cond_false]
  have key:∀ b4:AM,b4.xW=0→∀ (dd:AM ⊕ Int),(gH (iter (fun i15:Nat × Int=>bif decide ((i15.1:Int) < (((ai f d).aA.length:Nat):Int)) then bif ((((ai f d).aA.getD i15.1 default).kind) == 4)||((((ai f d).aA.getD i15.1 default).kind) == 5) then Sum.inr (i15.1+1,bL 1099511627776 (au (i15.2+(((ai f d).aA.getD i15.1 default).sum)))) else Sum.inr (i15.1+1,i15.2) else Sum.inl (Sum.inr i15.2)) dd ((ai f d).aA.length - 0+1) (0,b4.xW)) fun GK=>({ b4 with xW:=GK,rest:=bL 1099511627776 (au ((au ((au (b4.sum+b4.kT))+GK))+b4.exchange)) }:AM)).rest=bL 1099511627776 (au ((au ((au (b4.sum+b4.kT))+GQ (ai f d).aA))+b4.exchange)):=by
   intro b4 h0 dd
   rw [h0]
   refine (congrArg AM.rest (eX (ai f d).aA (fun s i=>(i,s)) (fun a s=>.inr (wH a s)) (fun s=>s) _ (fun s i hi=>?_) (fun s=>?_) (by omega) 0)).trans ?_
   ·dsimp only
    rw [decide_eq_true (by omega),cond_true]
    unfold wH
    cases ((((ai f d).aA.getD i default).kind) == 4)||((((ai f d).aA.getD i default).kind) == 5) <;> rfl
   ·dsimp only
    rw [decide_eq_false (by omega),cond_false]
   ·rw [j0]; rfl
  unfold so QF
  cases (cb r fo f d != (-1))&&(decide (cb r fo f d≤(bL d 100000))) with
  | false=>exact key _ rfl _
  | true =>
   cases f.aR.lf == 0 <;> cases iz (qY r fo 17 ⟨f,s,s,-1,cb r fo f d,d⟩) == 1 <;> exact key _ rfl _
theorem Vi {a b:lV} (h:SLe a b):bL 1000 (cg 0 (qB a))≤bL 1000 (cg 0 (qB b)):=by
 rcases h with h | h
 ·rw [h]; exact Int.le_refl _
 ·have e:qB a=bif (a.err != 0)||(!a.cell.known) then (-1) else a.cell.n:=by kernel_rfl
  rw [e,h.1,h.2]
  show (0:Int)≤_
  unfold bL cg; split <;> split <;> omega
def XB (c:Bool) (e:cC):cC × Bool:=bif c then (({ sign:=0,kind:=0,fA:=0,binds:=0,text:=0,sum:=0,eI:=false }:cC),false) else (e,true)
theorem Zh (c:Bool) {x y:cC} (h:x.sum≤y.sum):(XB c y).2=(XB c x).2∧(XB c x).1.sum≤(XB c y).1.sum:=by
 cases c with
 | true=>exact ⟨rfl,Int.le_refl _⟩
 | false=>exact ⟨rfl,h⟩
theorem Vj {r:ah} {fo:Int} {f:al} {F:List Fact} (s d:Int) (h:s7 f F):(dr r fo { f with facts:=F } s d).2=(dr r fo f s d).2∧(dr r fo f s d).1.sum≤(dr r fo { f with facts:=F } s d).1.sum:=by
 have e:∀ f,dr r fo f s d=XB ((decide (s < 0))||(decide (s≥(((gS r fo f d).f.af.length:Nat):Int)))) (bR (gS r fo f d) s):=fun f=>by kernel_rfl
 rw [e f,e { f with facts:=F },TV r fo f F d]
 have hm:=JD (r:=r) (fo:=fo) (d:=d) h
 generalize gS r fo f d=v at hm ⊢
 have el:(bF v (sD f F d)).f.af.length=v.f.af.length:=rfl
 rw [el]
 exact Zh _ (SH hm s)
def LM (z:Bool) (rt n:Int):Int:=bif z then bL 1000 (cg 0 n) else rt
theorem XC (z:Bool) (rt:Int) {a b:Int} (h:bL 1000 (cg 0 a)≤bL 1000 (cg 0 b)):LM z rt b=LM z rt a∨(0≤LM z rt a∧LM z rt a≤LM z rt b∧LM z rt b≤1000):=by
 cases z with
 | false=>exact .inl rfl
 | true =>
  refine .inr ⟨?_,h,?_⟩
  ·show 0≤bL _ _; unfold bL cg; split <;> split <;> omega
  ·show bL _ _≤1000; unfold bL; split <;> omega
def exT (t e:Int):Int:=bif t == 1 then e else 0
theorem aa2 {t t' e e':Int} (h:mS t t') (he:e≤e') (h0:0≤e) (h1:0≤e'∧e'≤1099511627776):exT t e≤exT t' e'∧0≤exT t e∧exT t' e'≤1099511627776:=by
 unfold exT
 cases k:t == 1 with
 | true =>
  have k:t=1:=by simpa using k
  rw [show (t' == 1)=true by rw [h (by omega),k]; rfl]
  exact ⟨he,h0,h1.2⟩
 | false =>
  rw [cond_false]
  cases t' == 1 with
  | true=>exact ⟨h1.1,by omega,h1.2⟩
  | false=>exact ⟨Int.le_refl 0,Int.le_refl 0,(by decide:(0:Int)≤1099511627776)⟩
theorem Zi {r:ah} {fo:Int} {f:al} {F:List Fact} (s d:Int) (h:s7 f F) (hF:cm r f) (TW:cm r { f with facts:=F }) (hR:r.dj):(gj r fo f s d).rest≤(gj r fo { f with facts:=F } s d).rest:=by
 obtain ⟨e1,e2⟩:=Vj (r:=r) (fo:=fo) s d h
 have p1:=qM r fo f s d ⟨hF.UH,hF.small⟩
 have p2:=qM r fo { f with facts:=F } s d ⟨TW.UH,TW.small⟩
 have hc:jJ (GQ (ai f d).aA):=Vh _ (tK.1 fun q hq=>(hF.MU d).2.2.2 q hq) 0 ⟨by omega,by omega⟩
 rw [LL,LL,e1,pZ r fo f F d,Gn f F d]
 generalize (dr r fo f s d).1.sum=x at e2 p1 ⊢
 generalize (dr r fo { f with facts:=F } s d).1.sum=x' at e2 p2 ⊢
 dsimp only at *
 cases ((!(dr r fo f s d).2)||(decide (s < 0)))||(decide (s≥(((ai f d).af.length:Nat):Int))) with
 | true=>rw [cond_true,cond_true]; exact Int.le_refl _
 | false =>
  rw [cond_false,cond_false]
  generalize GQ (ai f d).aA=c at hc ⊢
  generalize cb r fo f d=m
  unfold jJ at hc
  cases (m != (-1))&&(decide (m≤(bL d 100000))) with
  | false =>
   simp only [cond_false]
   simp (disch:=omega) only [aG]
   unfold bL; split <;> split <;> omega
  | true =>
   simp only [cond_true]
   have hr:so r fo { f with facts:=F } s d m=so r fo f s d m∨(0≤so r fo f s d m∧so r fo f s d m≤so r fo { f with facts:=F } s d m∧so r fo { f with facts:=F } s d m≤1000) :=
    XC (f.aR.lf == 0) f.aR.lf (Vi (zH r fo 16 s s (-1) m d h))
   have hi:=QD m (bL d 100000) ⟨p1.1,e2,p2.2⟩ hr
   have hx:QF r fo f s d m ((ai f d).af.getD s.toNat default).dt x≤QF r fo { f with facts:=F } s d m ((ai f d).af.getD s.toNat default).dt x'∧0≤QF r fo f s d m ((ai f d).af.getD s.toNat default).dt x∧QF r fo { f with facts:=F } s d m ((ai f d).af.getD s.toNat default).dt x'≤1099511627776:=by
    have ht:=(zH r fo 17 s s (-1) m d h).tri
    have q1:=mb r f.aR ((ai f d).af.getD s.toNat default).dt x m (bL d 100000) ⟨p1,hR⟩
    have q2:=mb r f.aR ((ai f d).af.getD s.toNat default).dt x' m (bL d 100000) ⟨p2,hR⟩
    have q3:=QE (r:=r) f.aR ((ai f d).af.getD s.toNat default).dt m (bL d 100000) ⟨p1.1,e2,p2.2⟩ hR
    exact aa2 ht q3 q1.1 q2
   have i1:=l8 x (so r fo f s d m) m (bL d 100000)
   have i2:=l8 x' (so r fo { f with facts:=F } s d m) m (bL d 100000)
   dsimp only at i1 i2
   generalize eo x (so r fo f s d m) m (bL d 100000)=y at *
   generalize eo x' (so r fo { f with facts:=F } s d m) m (bL d 100000)=y' at *
   generalize QF r fo f s d m ((ai f d).af.getD s.toNat default).dt x=z at *
   generalize QF r fo { f with facts:=F } s d m ((ai f d).af.getD s.toNat default).dt x'=z' at *
   simp (disch:=omega) only [aG]
   unfold bL; split <;> split <;> omega
theorem QG (v:View) (h:v.jC) (P:Int→Prop) (hP:∀ s,0≤s→s < (v.now.af.length:Int)→P s→((v.now.af.getD s.toNat default).kind=3∨(v.now.af.getD s.toNat default).kind=4)→P ((v.now.af.getD s.toNat default).for_)):∀ (fu:Nat) (sign:Int),0≤sign→sign < (v.now.af.length:Int)→sign.toNat < fu→P sign→P (aW fu v sign)∧¬ ((v.now.af.getD (aW fu v sign).toNat default).kind=3∨(v.now.af.getD (aW fu v sign).toNat default).kind=4)
 | 0,_,_,_,h3,_=>absurd h3 (by omega)
 | fu+1,s,h1,h2,h3,h4=>by
  have e:aW (fu+1) v s=bif (((v.now.af.getD s.toNat default).kind) == 3)||(((v.now.af.getD s.toNat default).kind) == 4) then aW fu v ((v.now.af.getD s.toNat default).for_) else s:=by kernel_rfl
  rw [e]
  cases hk:(((v.now.af.getD s.toNat default).kind) == 3)||(((v.now.af.getD s.toNat default).kind) == 4) with
  | false =>
   refine ⟨h4,fun h=>?_⟩
   rw [cond_false] at h
   rw [Bool.or_eq_false_iff,beq_eq_false_iff_ne,beq_eq_false_iff_ne] at hk
   exact h.elim hk.1 hk.2
  | true =>
   rw [cond_true]
   have hk:(v.now.af.getD s.toNat default).kind=3∨(v.now.af.getD s.toNat default).kind=4:=by simpa using hk
   have hb:=h s.toNat (by omega) hk
   exact QG v h P hP fu _ hb.1 (by omega) (by omega) (hP s h1 h2 h4 hk)
theorem Zj {v:View} (h:v.jC) {part cz:Int} {links:List Int} {s:Int} (hs:s∈pV v part cz links v.now.af.length):aw v s∈pV v part cz links v.now.af.length∧¬ ((v.now.af.getD (aw v s).toNat default).kind=3∨(v.now.af.getD (aw v s).toNat default).kind=4):=by
 have hm:=rR hs
 refine QG v h (·∈pV v part cz links v.now.af.length) (fun s h0 h1 hs hk=>?_) (s.toNat+1) s hm.1 hm.2.1 (by omega) hs
 have hm:=rR hs
 have hl:=hm.2.2.2.1
 unfold Nj at hl
 have e0:((v.now.af.getD s.toNat default).kind == 0)=false:=by rw [beq_eq_false_iff_ne]; omega
 have e1:((v.now.af.getD s.toNat default).kind == 1)=false:=by rw [beq_eq_false_iff_ne]; omega
 have e2:((v.now.af.getD s.toNat default).kind == 2)=false:=by rw [beq_eq_false_iff_ne]; omega
 rw [e0,e1,e2,Bool.or_false,cond_false,cond_false] at hl
 exact hm.2.2.2.2 _ ((contains_iff _ _).1 hl)
theorem XD {links:List Int} {lo hi:Int} (h:lo∈links) (h2:lo≤hi):1≤yf links lo hi:=by
 unfold yf
 exact List.length_pos_of_mem (a:=lo) (List.mem_filter.2 ⟨h,by simp [h2]⟩)
theorem QH (links:List Int) (lo hi:Int):yf links lo hi≤EM links hi:=by
 unfold yf EM
 have e:(links.filter fun l=>decide (l≤hi)&&decide (l≥lo))=(links.filter fun l=>decide (l≤hi)).filter fun l=>decide (l≥lo):=by rw [List.filter_filter]; congr 1; funext l; rw [Bool.and_comm]
 rw [e]
 exact List.length_filter_le ..
theorem TX {links:List Int} {x y hi:Int} (hx:x∈links) (h1:x≤hi) (h2:x < y):yf links y hi < yf links x hi:=by
 unfold yf
 have e:(links.filter fun l=>decide (l≤hi)&&decide (l≥y))=(links.filter fun l=>decide (l≤hi)&&decide (l≥x)).filter fun l=>decide (l≥y):=by
  rw [List.filter_filter]; congr 1; funext l
  by_cases c1:l≤hi <;> by_cases c2:l≥y
  ·have:l≥x:=by omega
   simp [c1,c2,this]
  ·simp [c1,c2]
  ·simp [c1]
  ·simp [c1]
 rw [e,List.length_filter_lt_length_iff_exists]
 exact ⟨x,List.mem_filter.2 ⟨hx,by simp [h1]⟩,by simpa using h2⟩
theorem JE {r:ah} {forum:Int} {f:al} {day:Int} {c:Claim} (hF:cm r f) (h:c∈bV r forum f day) :
  ∃ b,b=aw (aB f day) c.sign∧(0≤b∧b < ((ai f day).af.length:Int))∧(0≤c.sign∧c.sign < ((ai f day).af.length:Int)) ∧
   (((ai f day).af.getD b.toNat default).kind=1∧c.dR=0∨((ai f day).af.getD b.toNat default).kind=0∧b=0∧c.dR=1+(EM (aj (aB f day) c.part) c.cz:Int) ∨
    ((ai f day).af.getD b.toNat default).kind=2∧b≤c.cz∧b∈aj (aB f day) c.part∧c.dR=(yf (aj (aB f day) c.part) b c.cz:Int)):=by
 obtain ⟨he,part,o,sign,k⟩:=u7 h
 have hlen:=mE f day
 have hl:=BN k.li
 have hm:=rR hl.2
 have hB:(aB f day).jC:=by unfold View.jC; rw [iu]; exact hF.MV day
 have hb:=Zj hB hl.2
 have hbm:=rR hb.1
 rw [iu] at hm hb hbm
 have hll:(aj (aB f day) part).length≤1000000:=by have:=EN (f:=f) (day:=day) (part:=part); have:=hF.2.1.1; omega
 have ki:=k.st
 obtain rfl:=k.eq
 refine ⟨aw (aB f day) sign,rfl,⟨hbm.1,hbm.2.1⟩,⟨hm.1,hm.2.1⟩,?_⟩
 have hv:(aC r forum f day).1.view=aB f day:=by rw [he]
 have hk:=(hF.2.2.1 (aw (aB f day) sign).toNat (by omega)).2.2.2.2.2
 unfold Pw at hk
 rw [← vY f day (aw (aB f day) sign).toNat (by omega)] at hk
 have JN:=hbm.2.2.2.1
 have hnk:=hb.2
 dsimp only
 rw [Du _ _ _ _ _ hll,hv,iu] at ki ⊢
 generalize aw (aB f day) sign=b at *
 generalize hs:(ai f day).af.getD b.toNat default=s at *
 by_cases h1:s.kind=1
 ·refine .inl ⟨h1,?_⟩
  rw [show (s.kind == 1)=true by simpa using h1,cond_true]
  cases mc (aC r forum f day).1 <;> rfl
 ·rw [show (s.kind == 1)=false by simpa using h1,cond_false] at ki ⊢
  cases hc:((!(mc (aC r forum f day).1))&&(!(cD (ai f day).aA)))||(!(((aQ r forum f day).getD b.toNat default).eI)) with
  | true=>rw [hc,cond_true] at ki; exact absurd rfl ki
  | false =>
   rw [cond_false]
   by_cases h2:s.kind=2
   ·unfold Nj at JN
    rw [iu,hs,show (s.kind == 0)=false by rw [h2]; rfl,show (s.kind == 1)=false by rw [h2]; rfl,show (s.kind == 2)=true by rw [h2]; rfl,Bool.or_false,cond_false,cond_true,Bool.and_eq_true,Bool.and_eq_true,decide_eq_true_eq] at JN
    have e:((b.toNat:Nat):Int)=b:=by omega
    rw [e] at JN
    have Q1:=(contains_iff _ _).1 JN.2
    refine .inr (.inr ⟨h2,JN.1.1,Q1,?_⟩)
    rw [JN.2]; rfl
   ·have h0:s.kind=0:=by omega
    have hb0:b=0:=by have:=hk.2.2.1.1 h0; omega
    refine .inr (.inl ⟨h0,hb0,?_⟩)
    have hn:bD (aj (aB f day) part) b=false:=by
     cases hcb:bD (aj (aB f day) part) b with
     | false=>rfl
     | true =>
      have hm2:=EJ ((contains_iff _ _).1 hcb)
      rw [rS] at hm2
      rw [vY f day b.toNat (by omega)] at hs
      rw [hs] at hm2
      omega
    rw [hn]; rfl
theorem QI {r:ah} {forum:Int} {f:al} {day:Int} (hF:cm r f) {c:Claim} (h:c∈bV r forum f day):∃ b,b=aw (aB f day) c.sign∧(0≤b∧b < ((ai f day).af.length:Int))∧(0≤c.sign∧c.sign < ((ai f day).af.length:Int))∧(c.dR=0↔((ai f day).af.getD b.toNat default).kind=1)∧0≤c.dR ∧
  ∀ d,d∈bV r forum f day→c.part=d.part→c.cz=d.cz→c.dR≠0→d.dR≠0→∀ y,y=aw (aB f day) d.sign→(b=y→c.dR=d.dR)∧(b < y→d.dR < c.dR)∧(y < b→c.dR < d.dR):=by
 obtain ⟨b,e,h1,h2,h3⟩:=JE hF h
 refine ⟨b,e,h1,h2,?_,?_,fun d hd e1 e2 t1 t2 y ey=>?_⟩
 ·rcases h3 with h3 | h3 | h3
  ·exact ⟨fun _=>h3.1,fun _=>h3.2⟩
  ·rw [h3.1,h3.2.2]; exact ⟨fun h=>absurd h (by omega),fun h=>absurd h (by decide)⟩
  ·rw [h3.1]
   have:=XD h3.2.2.1 h3.2.1
   exact ⟨fun h=>absurd h (by omega),fun h=>absurd h (by decide)⟩
 ·omega
 ·obtain ⟨b',e',h1',h2',SJ⟩:=JE hF hd
  have Xv:b'=y:=by rw [e',ey]
  subst Xv
  rw [← e1,← e2] at SJ
  rcases h3 with h3 | h3 | h3
  ·exact absurd h3.2 t1
  ·rcases SJ with SJ | SJ | SJ
   ·exact absurd SJ.2 t2
   ·exact ⟨fun _=>by omega,fun h=>by omega,fun h=>by omega⟩
   ·have:=QH (aj (aB f day) c.part) b' c.cz
    refine ⟨fun h=>?_,fun _=>by omega,fun h=>by omega⟩
    subst h
    rw [h3.1] at SJ
    omega
  ·rcases SJ with SJ | SJ | SJ
   ·exact absurd SJ.2 t2
   ·have:=QH (aj (aB f day) c.part) b c.cz
    refine ⟨fun h=>?_,fun h=>by omega,fun _=>by omega⟩
    subst h
    rw [h3.1] at SJ
    omega
   ·refine ⟨fun h=>by subst h; omega,fun h=>?_,fun h=>?_⟩
    ·have:=TX (hi:=c.cz) h3.2.2.1 h3.2.1 h; omega
    ·have:=TX (hi:=c.cz) SJ.2.2.1 SJ.2.1 h; omega
theorem JF {k s:Int}:∀ (l:List Fact) (i:Nat),i < l.length→((l.getD i default).kind=k∧(l.getD i default).at_=s)→(∀ q,q < i→¬ ((l.getD q default).kind=k∧(l.getD q default).at_=s))→walk (dX k s) (fun _=>(⟨false,0⟩:aH)) l ()=sT ((l.getD i default).n != 0)
 | [],i,h,_,_=>absurd h (by simp)
 | x :: l,0,_,h2,_=>by
  have h2:x.kind=k∧x.at_=s:=h2
  simp only [walk]
  unfold dX
  rw [h2.1,h2.2,beq_self_eq_true,beq_self_eq_true]; rfl
 | x :: l,i+1,h,h2,h3=>by
  have h0:¬ (x.kind=k∧x.at_=s):=h3 0 (by omega)
  have:dX k s x ()=.inr ():=by
   unfold dX
   have:((x.kind == k)&&(x.at_ == s))=false:=by
    cases e:((x.kind == k)&&(x.at_ == s)) with
    | false=>rfl
    | true=>rw [Bool.and_eq_true,beq_iff_eq,beq_iff_eq] at e; exact absurd e h0
   rw [this]; rfl
  simp only [walk,this]
  exact JF l i (by simpa using h) h2 fun q hq=>h3 (q+1) (by omega)
theorem TY (v:View) (k s:Int):jG v k s=(fun c:aH=>bif !c.known then 2 else bif c.n == 0 then 0 else 1) (bT v.now k s):=by
 have e:jG v k s=(fun x1:Int=>bif decide (x1 < 0) then 2 else bif ((v.now.facts.getD x1.toNat default).n) == 0 then 0 else 1) (js v.now.facts k s):=by kernel_rfl
 have hc:∀ x:Fact,cL x k s=true↔(x.kind=k∧x.at_=s):=fun x=>by rw [jS,Bool.and_eq_true,beq_iff_eq,beq_iff_eq]
 rw [e,uP]
 rcases uu v.now.facts k s with ⟨h1,h2⟩ | ⟨h1,h2,h3,h4⟩
 ·rw [h1,oY _ _ (fun x hx u=>?_)]
  ·rfl
  ·obtain ⟨i,hi,rfl⟩:=List.getElem_of_mem hx
   have:=h2 i hi
   rw [jS,show v.now.facts.getD i default=v.now.facts[i] by simp [List.getD,hi]] at this
   unfold dX
   rw [this]; rfl
 ·generalize js v.now.facts k s=x at *
  rw [JF v.now.facts x.toNat (by omega) ((hc _).1 h3) (fun q hq hh=>by have e4:=h4 q hq; rw [(hc _).2 hh] at e4; exact absurd e4 (by decide)),Qu]
  dsimp only
  rw [decide_eq_false (by omega),cond_false]
  generalize (v.now.facts.getD x.toNat default).n=m
  cases hm:m == 0 with
  | true=>rw [show (m != 0)=false by rw [bne,hm]; rfl]; rfl
  | false=>rw [show (m != 0)=true by rw [bne,hm]; rfl]; rfl
theorem Nz {a a' b b':Int} (ha:mS a a') (hb:mS b b'):mS (eK a b) (eK a' b'):=by
 have e:∀ a b,eK a b=bif (a == 0)||(b == 0) then 0 else bif (a == 2)||(b == 2) then 2 else 1:=fun a b=>by kernel_rfl
 have i:∀ a b,eK a b=if a=0∨b=0 then 0 else if a=2∨b=2 then 2 else 1:=fun a b=>by
  rw [e]; simp only [Bool.cond_eq_ite,Bool.or_eq_true,beq_iff_eq]
 rw [i,i]
 intro k
 unfold mS at *
 by_cases z:a=0∨b=0
 ·have z':a'=0∨b'=0:=by
   rcases z with z | z
   ·exact .inl (by rw [ha (by omega)]; exact z)
   ·exact .inr (by rw [hb (by omega)]; exact z)
  rw [if_pos z,if_pos z']
 ·rw [if_neg z] at k ⊢
  by_cases t:a=2∨b=2
  ·rw [if_pos t] at k; exact absurd rfl k
  ·rw [ha (by omega),hb (by omega),if_neg z]
theorem Vk {a a' b b':Int} (ha:mS a a') (hb:mS b b'):mS (qJ a b) (qJ a' b'):=by
 have e:∀ a b,qJ a b=bif (a == 1)||(b == 1) then 1 else bif (a == 2)||(b == 2) then 2 else 0:=fun a b=>by kernel_rfl
 have i:∀ a b,qJ a b=if a=1∨b=1 then 1 else if a=2∨b=2 then 2 else 0:=fun a b=>by
  rw [e]; simp only [Bool.cond_eq_ite,Bool.or_eq_true,beq_iff_eq]
 rw [i,i]
 intro k
 unfold mS at *
 by_cases z:a=1∨b=1
 ·have z':a'=1∨b'=1:=by
   rcases z with z | z
   ·exact .inl (by rw [ha (by omega)]; exact z)
   ·exact .inr (by rw [hb (by omega)]; exact z)
  rw [if_pos z,if_pos z']
 ·rw [if_neg z] at k ⊢
  by_cases t:a=2∨b=2
  ·rw [if_pos t] at k; exact absurd rfl k
  ·rw [ha (by omega),hb (by omega),if_neg z]
def cF (c:eu) (F G:List Fact):eu:={ c with view:={ c.view with all:={ c.view.all with facts:=F },now:={ c.view.now with facts:=G } } }
theorem LO {c:eu} {F G:List Fact} (h:s7 c.view.now G) (link last:Int):mS (bj c link last) (bj (cF c F G) link last):=by
 have e:∀ c,bj c link last=qJ (eK (jG c.view 0 link) (jG c.view 2 link)) (iz (qY c.r c.forum 3 ⟨c.view.now,link,last,-1,c.due,c.view.day⟩)):=fun c=>by kernel_rfl
 have hs:∀ k,mS (jG c.view k link) (jG (cF c F G).view k link):=fun k=>by
  rw [TY,TY]
  have hk:=h k link
  show mS _ ((fun c:aH=>bif !c.known then 2 else bif c.n == 0 then 0 else 1) (bT { c.view.now with facts:=G } k link))
  cases hc:(bT c.view.now k link).known with
  | true=>rw [hk hc]; exact mS.rfl' _
  | false=>exact .op (by dsimp only; rw [hc]; rfl)
 rw [e,e]
 exact Vk (Nz (hs 0) (hs 2)) (zH c.r c.forum 3 link last (-1) c.due c.view.day h).tri
theorem Fm {c:eu} {F G:List Fact} (h:s7 c.view.now G) (last:Int):∀ (links:List Int) (o z:kd),z∈dG c last links o→z.state=1→z∈dG (cF c F G) last links o
 | [],o,z,hz,_=>hz
 | l :: r,o,z,hz,h1=>by
  have hp:=LO (F:=F) h l last
  simp only [dG] at hz ⊢
  generalize bj c l last=p at hp hz
  generalize bj (cF c F G) l last=p' at hp ⊢
  by_cases p2:p=2
  ·subst p2
   have hz:=show z∈{ o with state:=2 } :: dG c last r { fA:=(c.view.now.af.getD l.toNat default).cj,sign:=l,state:=2 } from hz
   rcases List.mem_cons.1 hz with rfl | hz
   ·exact absurd h1 (show ¬ (2:Int)=1 by decide)
   ·rcases (uX c last r _ z hz).2 with k | k <;> (have k:z.state=2:=k; omega)
  ·have e:=hp p2
   subst e
   cases h0:p' == 0 with
   | true=>rw [h0,cond_true] at hz; exact hz
   | false =>
    rw [h0,cond_false,show (p' == 2)=false by simpa using p2,cond_false] at hz
    rw [cond_false,show (p' == 2)=false by simpa using p2,cond_false]
    exact Fm h last r _ z hz h1
theorem zJ {c:eu} {F G:List Fact} (h:s7 c.view.now G) (last:Int):∀ (links:List Int) (o o' z':kd),o'.fA=o.fA→o'.sign=o.sign→mS o.state o'.state→z'∈dG (cF c F G) last links o'→∃ z,z∈dG c last links o∧z'.fA=z.fA∧z'.sign=z.sign∧mS z.state z'.state
 | [],o,o',z',a,b,t,hz=>by
  have hz:z'∈[o']:=hz
  rw [List.mem_singleton] at hz
  subst hz
  exact ⟨o,by simp [dG],a,b,t⟩
 | l :: r,o,o',z',a,b,t,hz=>by
  have hp:=LO (F:=F) h l last
  simp only [dG] at hz ⊢
  generalize bj c l last=p at hp ⊢
  generalize bj (cF c F G) l last=p' at hp hz
  by_cases p2:p=2
  ·subst p2
   show ∃ z,z∈{ o with state:=2 } :: dG c last r { fA:=(c.view.now.af.getD l.toNat default).cj,sign:=l,state:=2 }∧_
   cases h0:p' == 0 with
   | true =>
    rw [h0,cond_true,List.mem_singleton] at hz
    subst hz
    exact ⟨_,List.mem_cons_self,a,b,.op rfl⟩
   | false =>
    rw [h0,cond_false] at hz
    have tail:∀ o2:kd,o2.fA=(c.view.now.af.getD l.toNat default).cj→o2.sign=l→z'∈dG (cF c F G) last r o2→∃ z,z∈{ o with state:=2 } :: dG c last r { fA:=(c.view.now.af.getD l.toNat default).cj,sign:=l,state:=2 }∧z'.fA=z.fA∧z'.sign=z.sign∧mS z.state z'.state:=fun o2 q1 q2 hz=>by
     obtain ⟨z,k1,k2⟩:=zJ h last r { fA:=(c.view.now.af.getD l.toNat default).cj,sign:=l,state:=2 } o2 z' q1 q2 (.op rfl) hz
     exact ⟨z,List.mem_cons_of_mem _ k1,k2⟩
    cases h2:p' == 2 with
    | true =>
     rw [h2,cond_true] at hz
     rcases List.mem_cons.1 hz with rfl | hz
     ·exact ⟨_,List.mem_cons_self,a,b,.op rfl⟩
     ·exact tail _ rfl rfl hz
    | false=>rw [h2,cond_false] at hz; exact tail _ rfl rfl hz
  ·have e:=hp p2
   subst e
   cases h0:p' == 0 with
   | true =>
    rw [h0,cond_true,List.mem_singleton] at hz
    subst hz
    exact ⟨o,by simp,a,b,t⟩
   | false =>
    rw [h0,cond_false,show (p' == 2)=false by simpa using p2,cond_false] at hz
    rw [cond_false,show (p' == 2)=false by simpa using p2,cond_false]
    exact zJ h last r { fA:=(c.view.now.af.getD l.toNat default).cj,sign:=l,state:=o.state } { fA:=(c.view.now.af.getD l.toNat default).cj,sign:=l,state:=o'.state } z' rfl rfl t hz
theorem aa3 (v:View) (A G:al) (hs:G.af=v.now.af) (s:Int):aw { v with all:=A,now:=G } s=aw v s:=by
 have key:∀ (fu:Nat) (s:Int),aW fu { v with all:=A,now:=G } s=aW fu v s:=by
  intro fu
  induction fu with
  | zero=>intro s; rfl
  | succ n ih =>
   intro s
   have bq:∀ (v:View) (fu:Nat) (s:Int),aW (fu+1) v s=bif (((v.now.af.getD s.toNat default).kind) == 3)||(((v.now.af.getD s.toNat default).kind) == 4) then aW fu v ((v.now.af.getD s.toNat default).for_) else s:=fun v fu s=>by kernel_rfl
   rw [bq,bq]; show (bif (((G.af.getD s.toNat default).kind) == 3)||(((G.af.getD s.toNat default).kind) == 4) then aW n { v with all:=A,now:=G } ((G.af.getD s.toNat default).for_) else s)=_; rw [hs,ih]
 exact key _ s
def Z4 (k1 yk has NA:Bool) (a kp tn:Int):Int × Int:=bif k1 then (bif !yk then (0,0) else (a,0)) else bif ((!yk)&&(!has))||(!NA) then (0,0) else (eK a kp,tn)
theorem aa4 (k1 yk has NA:Bool) {a a' kp kp':Int} (tn:Int) (ha:mS a a') (hk:mS kp kp'):mS (Z4 k1 yk has NA a kp tn).1 (Z4 k1 yk has NA a' kp' tn).1∧((Z4 k1 yk has NA a kp tn).1≠0→(Z4 k1 yk has NA a' kp' tn).1≠0→(Z4 k1 yk has NA a' kp' tn).2=(Z4 k1 yk has NA a kp tn).2):=by
 have hb:=Nz ha hk
 unfold Z4
 generalize eK a kp=x at hb ⊢
 generalize eK a' kp'=x' at hb ⊢
 cases k1 <;> cases yk <;> cases has <;> cases NA <;> first | exact ⟨ha,fun _ _=>rfl⟩ | exact ⟨hb,fun _ _=>rfl⟩ | exact ⟨mS.rfl' _,fun _ _=>rfl⟩
theorem XE (c:eu) (o:kd) (sign:Int) (links:List Int) (eff:List cC) (hl:links.length≤1000000):aK c o sign links eff =
  Z4 ((c.view.now.af.getD (aw c.view sign).toNat default).kind == 1) (mc c) (cD c.view.now.aA) ((eff.getD (aw c.view sign).toNat default).eI) (eK o.state (eff.getD sign.toNat default).binds)
   (ij c.r c.forum c.view.all (aw c.view sign) c.view.day).all (bif !(bD links (aw c.view sign)) then (1+(EM links o.sign:Int)) else (yf links (aw c.view sign) o.sign:Int)):=Du c o sign links eff hl
theorem QJ {c:eu} {F G:List Fact} {o o':kd} {sign:Int} {links:List Int} {eff eff':List cC} (hl:links.length≤1000000) (ha:s7 c.view.all F) (ho:o'.sign=o.sign∧mS o.state o'.state)
  (hb:mS (eff.getD sign.toNat default).binds (eff'.getD sign.toNat default).binds) (hr:(eff'.getD (aw c.view sign).toNat default).eI=(eff.getD (aw c.view sign).toNat default).eI) :
  mS (aK c o sign links eff).1 (aK (cF c F G) o' sign links eff').1∧((aK c o sign links eff).1≠0→(aK (cF c F G) o' sign links eff').1≠0→(aK (cF c F G) o' sign links eff').2=(aK c o sign links eff).2):=by
 have acI:aw (cF c F G).view sign=aw c.view sign:=aa3 c.view { c.view.all with facts:=F } { c.view.now with facts:=G } rfl sign
 have e1:=XE c o sign links eff hl
 have e2:=XE (cF c F G) o' sign links eff' hl
 rw [acI,hr,ho.1] at e2
 rw [e1,e2]
 exact aa4 _ _ _ _ _ (Nz ho.2 hb) (Zd c.r c.forum (aw c.view sign) c.view.day ha)
theorem QK {r:ah} {forum:Int} {f:al} {day:Int} {c:Claim} {part:Int} {o:kd} {sign:Int} (ht:(aC r forum f day).2=true) (h:aa0 r forum f day c part o sign):c∈bV r forum f day:=by
 rw [wF,ht,Bool.not_true,cond_false]
 unfold zG
 rw [show (aC r forum f day).1.view=aB f day by rw [BT ht]]
 refine List.mem_flatMap.2 ⟨part,h.lead,List.mem_flatMap.2 ⟨o,h.own,List.mem_flatMap.2 ⟨sign,h.li,?_⟩⟩⟩
 unfold nZ
 rw [show (aC r forum f day).1.view=aB f day by rw [BT ht],iu]
 have hc:((aK (aC r forum f day).1 o sign (aj (aB f day) part) (aQ r forum f day)).1 == 0||((ai f day).af.getD sign.toNat default).dt == o.fA)=false:=by
  simp only [Bool.or_eq_false_iff,beq_eq_false_iff_ne,ne_eq]
  exact ⟨h.st,h.ne⟩
 rw [hc,cond_false,List.mem_singleton]
 exact h.eq
theorem XF {r:ah} {forum:Int} {f:al} {day:Int} {c:Claim} (h:c∈bV r forum f day):(aC r forum f day).2=true:=by
 rw [wF] at h
 cases ht:(aC r forum f day).2 with
 | true=>rfl
 | false=>rw [ht] at h; cases h
theorem XG (r:ah) (forum:Int) (f:al) (F:List Fact) (day:Int):(aC r forum { f with facts:=F } day).2=(aC r forum f day).2:=by
 have e:∀ f,(aC r forum f day).2 = !((decide (forum < 0))||(decide (forum≥((r.aE.length:Nat):Int)))):=fun f=>by
  unfold aC qG
  dsimp +instances only [Sk.eQ,Sk.iE,Sk.cO,gm.xP,kk,kp,bg.AY]
  cases (decide (forum < 0))||(decide (forum≥((r.aE.length:Nat):Int))) <;> rfl
 rw [e,e]
theorem NB (f:al) (F:List Fact) (day:Int):aB { f with facts:=F } day = { aB f day with all:={ f with facts:=F },now:={ ai f day with facts:=sD f F day } }:=by
 rw [Ag,Ag,Gn]; rfl
theorem Ao {r:ah} {forum:Int} {f:al} (F:List Fact) {day:Int} (ht:(aC r forum f day).2=true):(aC r forum { f with facts:=F } day).1=cF (aC r forum f day).1 F (sD f F day):=by
 rw [BT ht,BT (by rw [XG]; exact ht),pZ r forum f F day,NB f F day]
 have a:=rS f day
 have b:=iu f day
 unfold cF
 dsimp only
 rw [a,b]
theorem u9 (f:al) (F:List Fact) (day part:Int):aj (aB { f with facts:=F } day) part=aj (aB f day) part:=by
 have e:∀ v,aj v part=(kx v.all part v.day).af:=fun v=>rfl
 rw [e,e,rS,rS,Jq,Jq]
 exact congrArg I1.af (show kx { f with facts:=F } part day=kx f part day by kernel_rfl)
theorem QL (f:al) (F:List Fact) (day part cz:Int) (links:List Int):aZ (aB { f with facts:=F } day) part cz links=aZ (aB f day) part cz links:=by
 rw [NB]
 have b:=iu f day
 generalize aB f day=v at b ⊢
 rw [← b]
 rw [Af,Af]
 have key:∀ n,pV { v with all:={ f with facts:=F },now:={ v.now with facts:=sD f F day } } part cz links n=pV v part cz links n:=by
  intro n
  induction n with
  | zero=>rfl
  | succ n ih =>
   simp only [pV]
   rw [ih]
   have hp:eV { v with all:={ f with facts:=F },now:={ v.now with facts:=sD f F day } } ((n:Nat):Int)=eV v ((n:Nat):Int):=by kernel_rfl
   unfold vu
   rw [hp]
   rfl
 rw [key]
theorem Vl {r:ah} {forum:Int} {f:al} {F:List Fact} {day:Int} (h:s7 f F) (hF:cm r f) (TW:cm r { f with facts:=F }) (hR:r.dj) :
  (∀ c,c∈bV r forum f day→c.state=1→∃ c',c'∈bV r forum { f with facts:=F } day∧yP c' c∧c'.state=1∧c.sum≤c'.sum)∧∀ c',c'∈bV r forum { f with facts:=F } day→∃ c,c∈bV r forum f day∧yP c' c:=by
 have Jn:=h.at day
 have va:∀ part,(aj (aB f day) part).length≤1000000:=fun part=>by have:=EN (f:=f) (day:=day) (part:=part); have:=hF.2.1.1; omega
 have eb:∀ i:Int,0≤i→i < ((ai f day).af.length:Int)→mS ((aQ r forum f day).getD i.toNat default).binds ((aQ r forum { f with facts:=F } day).getD i.toNat default).binds∧((aQ r forum { f with facts:=F } day).getD i.toNat default).eI=((aQ r forum f day).getD i.toNat default).eI:=by
  intro i h0 h1
  rw [Fl r forum f day (by omega),Fl r forum { f with facts:=F } day (by rw [Gn]; show i.toNat < (ai f day).af.length; omega),TV r forum f F day]
  exact ⟨Ny (JD h) _,SI _ _ _⟩
 have bs:∀ {c part o sign},aa0 r forum f day c part o sign∨sign∈aZ (aB f day) part o.sign (aj (aB f day) part)→0≤sign∧sign < ((ai f day).af.length:Int)∧0≤aw (aB f day) sign∧aw (aB f day) sign < ((ai f day).af.length:Int):=by
  intro c part o sign hf
  have JN:sign∈aZ (aB f day) part o.sign (aj (aB f day) part):=hf.elim (fun q=>q.li) (fun q=>q)
  have hm:=rR (BN JN).2
  rw [iu] at hm
  have hB:(aB f day).jC:=by unfold View.jC; rw [iu]; exact hF.MV day
  have:=nd (aB f day) hB (sign.toNat+1) sign hm.1 (by rw [iu]; exact hm.2.1) (by omega)
  have e:aw (aB f day) sign=aW (sign.toNat+1) (aB f day) sign:=by kernel_rfl
  rw [e]
  have h2:=hm.2.1
  exact ⟨hm.1,h2,this.1,by omega⟩
 refine ⟨fun c hc h1=>?_,fun c' S7=>?_⟩
 ·have ht:=XF hc
  obtain ⟨he,part,o,sign,k⟩:=u7 hc
  have hb:=bs (.inl k)
  have e1:=congrArg Claim.state k.eq
  rw [h1] at e1
  have e1:(aK (aC r forum f day).1 o sign (aj (aB f day) part) (aQ r forum f day)).1=1:=e1.symm
  have hv:(aC r forum f day).1.view=aB f day:=by rw [he]
  have ho1:o.state=1:=by
   rcases (I8 k.own).2 with q | q
   ·exact q
   ·exfalso
    rw [Du _ _ _ _ _ (va part)] at e1
    have e:∀ a b,eK a b=bif (a == 0)||(b == 0) then 0 else bif (a == 2)||(b == 2) then 2 else 1:=fun a b=>by kernel_rfl
    have nb:∀ b,eK 2 b≠1:=fun b=>by
     rw [e]; cases b == 0 with
     | true=>exact (by decide:(0:Int)≠1)
     | false=>exact (by decide:(2:Int)≠1)
    have nb2:∀ a b,eK a b=1→a=1∨(a≠0∧a≠2):=fun a b Zv=>by
     rw [e] at Zv
     by_cases a0:a=0
     ·subst a0; exact absurd Zv (by show (0:Int)≠1; decide)
     ·by_cases a2:a=2
      ·subst a2; rw [← e] at Zv; exact absurd Zv (nb b)
      ·exact .inr ⟨a0,a2⟩
    rw [q] at e1
    generalize aw (aC r forum f day).1.view sign=b at e1
    cases hk:((aC r forum f day).1.view.now.af.getD b.toNat default).kind == 1 with
    | true =>
     rw [hk,cond_true] at e1
     cases hp:mc (aC r forum f day).1 with
     | false=>rw [hp] at e1; exact absurd e1 (by show (0:Int)≠1; decide)
     | true=>rw [hp] at e1; exact nb _ e1
    | false =>
     rw [hk,cond_false] at e1
     cases hp:((!(mc (aC r forum f day).1))&&(!(cD (aC r forum f day).1.view.now.aA)))||(!(((aQ r forum f day).getD b.toNat default).eI)) with
     | true=>rw [hp] at e1; exact absurd e1 (by show (0:Int)≠1; decide)
     | false =>
      rw [hp,cond_false] at e1
      have r2:=Jp 2 ((aQ r forum f day).getD sign.toNat default).binds
      rcases nb2 _ _ e1 with w | ⟨w1,w2⟩
      ·exact nb _ w
      ·rcases r2 with r2 | r2 | r2
       ·exact w1 r2
       ·exact nb _ r2
       ·exact w2 r2
  have ki:=QJ (c:=(aC r forum f day).1) (F:=F) (G:=sD f F day) (o:=o) (o':=o) (links:=aj (aB f day) part) (eff:=aQ r forum f day) (eff':=aQ r forum { f with facts:=F } day) (sign:=sign) (va part) (by rw [hv,rS]; exact h) ⟨rfl,mS.rfl' _⟩ (eb sign hb.1 hb.2.1).1 (by rw [hv]; exact (eb _ hb.2.2.1 hb.2.2.2).2)
  have s1:=ki.1 (by rw [e1]; decide)
  rw [e1] at s1
  have acJ:=ki.2 (by rw [e1]; decide) (by rw [s1]; decide)
  have DI:o∈bn (aC r forum { f with facts:=F } day).1 (aj (aB { f with facts:=F } day) part):=by
   rw [Ao F ht,u9]
   exact Fm (by rw [hv,iu]; exact Jn) _ _ _ _ k.own ho1
  refine ⟨{ c with dR:=(aK (cF (aC r forum f day).1 F (sD f F day)) o sign (aj (aB f day) part) (aQ r forum { f with facts:=F } day)).2,sum:=(gj r forum { f with facts:=F } sign day).rest,state:=1 },QK (part:=part) (o:=o) (sign:=sign) (by rw [XG]; exact ht) ⟨?_,DI,?_,?_,?_,?_⟩,⟨⟨rfl,rfl,rfl,rfl,rfl⟩,?_,rfl⟩,rfl,?_⟩
  ·rw [NB]; exact k.lead
  ·rw [QL,u9]; exact k.li
  ·rw [Ao F ht,u9,s1]; decide
  ·rw [Gn]; exact k.ne
  ·rw [k.eq,Ao F ht,u9 f F day part,Gn f F day,s1]
  ·rw [k.eq]; exact acJ
  ·rw [k.eq]; exact Zi sign day h hF TW hR
 ·have ht':=XF S7
  have ht:(aC r forum f day).2=true:=by rw [← XG r forum f F day]; exact ht'
  obtain ⟨-,part,o',sign,k⟩:=u7 S7
  have he:=BT ht
  have hv:(aC r forum f day).1.view=aB f day:=by rw [he]
  have DI:=k.own
  rw [Ao F ht,u9] at DI
  obtain ⟨o,ko,k1,k2,k3⟩:=zJ (c:=(aC r forum f day).1) (by rw [hv,iu]; exact Jn) _ _ _ _ o' rfl rfl (mS.rfl' _) DI
  have JN:=k.li
  rw [QL,u9,k2] at JN
  have hb:=bs (c:=c') (.inr JN)
  have ki:=QJ (c:=(aC r forum f day).1) (F:=F) (G:=sD f F day) (o:=o) (o':=o') (links:=aj (aB f day) part) (eff:=aQ r forum f day) (eff':=aQ r forum { f with facts:=F } day) (sign:=sign) (va part) (by rw [hv,rS]; exact h) ⟨k2,k3⟩ (eb sign hb.1 hb.2.1).1 (by rw [hv]; exact (eb _ hb.2.2.1 hb.2.2.2).2)
  have s1:=k.st
  rw [Ao F ht,u9] at s1
  have s0:(aK (aC r forum f day).1 o sign (aj (aB f day) part) (aQ r forum f day)).1≠0:=fun e=>s1 (by rw [ki.1 (by rw [e]; decide),e])
  have xK:=k.ne
  rw [Gn,k1] at xK
  refine ⟨_,QK (part:=part) (o:=o) (sign:=sign) ht ⟨?_,ko,JN,s0,xK,rfl⟩,?_⟩
  ·have:=k.lead; rw [NB] at this; exact this
  ·rw [k.eq,Ao F ht,u9,Gn]
   exact ⟨⟨rfl,k1,rfl,rfl,k2⟩,ki.2 s0 s1,rfl⟩
theorem XH {α:Type} (g:α→α) (l:List α) (n:Nat):((l.take n).map g++l.drop n).length=l.length:=by
 simp only [List.length_append,List.length_map,List.length_take,List.length_drop]
 omega
theorem QM {α:Type} [Inhabited α] (g:α→α) {l:List α} {n:Nat} (h:n < l.length):((l.take n).map g++l.drop n).getD n default=l.getD n default:=by
 simp only [List.getD]
 rw [List.getElem?_append_right (by simp; omega)]
 have:n - ((l.take n).map g).length=0:=by simp; omega
 rw [this,List.getElem?_drop,Nat.add_zero]
theorem QN {α:Type} [Inhabited α] (g:α→α) {l:List α} {n:Nat} (h:n < l.length):((l.take n).map g++l.drop n).set n (g (l.getD n default))=(l.take (n+1)).map g++l.drop (n+1):=by
 have h1:((l.take n).map g).length=n:=by simp; omega
 have h2:l[n]?.toList=[l.getD n default]:=by simp [List.getD,h]
 rw [List.set_append_right _ _ (by omega),h1,Nat.sub_self,List.take_add_one,h2,List.drop_eq_getElem_cons h,List.set_cons_zero,List.map_append,List.append_assoc,List.map_cons,List.map_nil,List.singleton_append]
theorem Vm {α:Type} [Inhabited α] (g:α→α) {l:List α} {n:Nat} (h:n < l.length) (hg:g (l.getD n default)=l.getD n default):(l.take n).map g++l.drop n=(l.take (n+1)).map g++l.drop (n+1):=by
 rw [← QN g h,hg,← QM g h]
 have h2:n < ((l.take n).map g++l.drop n).length:=by rw [XH]; exact h
 generalize (l.take n).map g++l.drop n=m at h2
 refine List.ext_getElem (by simp) (fun i h3 h4=>?_)
 rw [List.getElem_set]
 split
 ·rename_i e
  subst e
  simp [List.getD,h2]
 ·rfl
def keyOf (c:Claim):Int × Int × Int × Int × Int:=(c.aF,c.ak,c.part,c.sign,c.cz)
theorem gq {x y:Claim}:dw x y↔keyOf x=keyOf y:=by
 unfold dw keyOf
 simp only [Prod.mk.injEq]
def lk (L:List Claim) (k:Int × Int × Int × Int × Int):Option Claim:=L.find? fun x=>decide (keyOf x=k)
theorem aa5 (k:Int × Int × Int × Int × Int):lk [] k=none:=rfl
theorem s9 (x:Claim) (r:List Claim) (k:Int × Int × Int × Int × Int):lk (x :: r) k=if keyOf x=k then some x else lk r k:=by
 unfold lk
 rw [List.find?_cons]
 by_cases h:keyOf x=k <;> simp [h]
theorem oA {L:List Claim} {k:Int × Int × Int × Int × Int} {x:Claim} (h:lk L k=some x):x∈L∧keyOf x=k:=by
 unfold lk at h
 exact ⟨List.mem_of_find?_eq_some h,by have:=List.find?_some h; simpa using this⟩
theorem Fo {L:List Claim} (h:L.Pairwise fun x y=>¬ dw x y) {x:Claim} (hx:x∈L):lk L (keyOf x)=some x:=by
 induction L with
 | nil=>cases hx
 | cons y r ih =>
  rw [List.pairwise_cons] at h
  rw [s9]
  rcases List.mem_cons.1 hx with rfl | hx
  ·rw [if_pos rfl]
  ·rw [if_neg (fun e=>h.1 x hx (gq.2 e)),ih h.2 hx]
def ln (f:Claim→Claim) (c:Claim):List Claim→List Claim
 | []=>[c]
 | x :: r=>if keyOf x=keyOf c then f x :: r else x :: ln f c r
theorem QO {f:Claim→Claim} {c:Claim}:∀ (l:List Claim),(∀ i,i < l.length→¬ dw (l.getD i default) c)→ln f c l=l++[c]
 | [],_=>rfl
 | x :: r,h=>by
  have h0:¬ keyOf x=keyOf c:=fun e=>h 0 (by simp) (gq.2 e)
  simp only [ln,if_neg h0,List.cons_append]
  rw [QO r fun i hi=>h (i+1) (by simpa using hi)]
theorem LP {f:Claim→Claim} {c:Claim}:∀ (l:List Claim) (i:Nat),l.Pairwise (fun x y=>¬ dw x y)→i < l.length→dw (l.getD i default) c→ln f c l=l.set i (f (l.getD i default))
 | [],i,_,h,_=>absurd h (by simp)
 | x :: r,0,_,_,hk=>by
  have hk:keyOf x=keyOf c:=gq.1 hk
  simp only [ln,if_pos hk]; rfl
 | x :: r,i+1,hp,h,hk=>by
  rw [List.pairwise_cons] at hp
  have hi:i < r.length:=by simpa using h
  have hk:dw (r.getD i default) c:=hk
  have h0:¬ keyOf x=keyOf c:=fun e=>hp.1 _ (j1 hi) ((gq.2 e).tr hk.comm)
  simp only [ln,if_neg h0]
  rw [LP r i hp.2 hi hk]; rfl
theorem rW.eq {f:Claim→Claim} {l x:List Claim} {c:Claim} (h:rW f l c x) (hp:l.Pairwise fun x y=>¬ dw x y):x=ln f c l:=by
 rcases h with ⟨i,hi,hk,rfl⟩ | ⟨hn,rfl⟩
 ·exact (LP l i hp hi hk).symm
 ·exact (QO l hn).symm
theorem JG {f:Claim→Claim} {c:Claim} (hf:∀ x,keyOf (f x)=keyOf x) (k:Int × Int × Int × Int × Int):∀ l,lk (ln f c l) k=if keyOf c=k then some ((lk l k).elim c f) else lk l k
 | []=>by
  show lk [c] k=_
  rw [s9,aa5]; rfl
 | x :: r=>by
  by_cases hx:keyOf x=keyOf c
  ·simp only [ln,if_pos hx]
   rw [s9,s9,hf,hx]
   by_cases hk:keyOf c=k
   ·rw [if_pos hk,if_pos hk,if_pos hk]; rfl
   ·rw [if_neg hk,if_neg hk,if_neg hk]
  ·simp only [ln,if_neg hx]
   rw [s9,s9,JG hf k r]
   by_cases hk:keyOf c=k
   ·have:¬ keyOf x=k:=fun e=>hx (e.trans hk.symm)
    rw [if_neg this,if_neg this]
   ·rw [if_neg hk,if_neg hk]
theorem LQ {f:Claim→Claim} {c z:Claim}:∀ {l:List Claim},z∈ln f c l→z=c∨z∈l∨∃ x,x∈l∧keyOf x=keyOf c∧z=f x
 | [],h=>.inl (List.mem_singleton.1 h)
 | x :: r,h=>by
  by_cases hx:keyOf x=keyOf c
  ·simp only [ln,if_pos hx] at h
   rcases List.mem_cons.1 h with rfl | h
   ·exact .inr (.inr ⟨x,by simp,hx,rfl⟩)
   ·exact .inr (.inl (by simp [h]))
  ·simp only [ln,if_neg hx] at h
   rcases List.mem_cons.1 h with rfl | h
   ·exact .inr (.inl (by simp))
   ·rcases LQ h with h | h | ⟨y,h1,h2⟩
    ·exact .inl h
    ·exact .inr (.inl (by simp [h]))
    ·exact .inr (.inr ⟨y,by simp [h1],h2⟩)
theorem BX {f:Claim→Claim} {c:Claim} (hf:∀ x,keyOf (f x)=keyOf x):∀ {l:List Claim},l.Pairwise (fun x y=>¬ dw x y)→(ln f c l).Pairwise fun x y=>¬ dw x y
 | [],_=>List.pairwise_singleton _ _
 | x :: r,h=>by
  have h':=h
  rw [List.pairwise_cons] at h
  by_cases hx:keyOf x=keyOf c
  ·simp only [ln,if_pos hx]
   rw [List.pairwise_cons]
   exact ⟨fun y hy e=>h.1 y hy (gq.2 ((hf x).symm.trans (gq.1 e))),h.2⟩
  ·simp only [ln,if_neg hx]
   rw [List.pairwise_cons]
   refine ⟨fun y hy e=>?_,BX hf h.2⟩
   rcases LQ hy with rfl | hy | ⟨z,h1,h2,rfl⟩
   ·exact hx (gq.1 e)
   ·exact h.1 y hy e
   ·exact h.1 z h1 (gq.2 ((gq.1 e).trans (hf z)))
theorem XI (c x:Claim):keyOf (fG c x)=keyOf x:=rfl
theorem XJ (c x:Claim):keyOf (fJ c x)=keyOf x:=rfl
def mf (a:bh) (x:Claim):Claim:={ x with ak:=a.dt,cz:=a.at_,sum:=iI a x }
def LR (a:bh) (kind:Int) (st:Bool) (x:Claim):Bool:=dE a st x&&(((kind != 1)&&((x.dR == 0)||(decide (x.sign < a.at_))))&&(x.aF != a.dt))
def fB (a:bh) (kind:Int) (st:Bool) (mj:List Claim) (x:Claim):List Claim:=bif LR a kind st x then oK mj (mf a x) else mj
def stepOf (a:bh) (st:Bool) (x:Claim):List Step:=bif dE a st x then [{ aF:=x.aF,ak:=x.ak,sign:=x.sign,sum:=iI a x }] else []
theorem JH (l:List Claim) (a:bh) (kind:Int) (st:Bool):(gP l a kind st).1=(l.foldl (fB a kind st) []).foldl ja (l.map (gh a st)):=by
 unfold gP kB
 dsimp +instances only [Sk.dh,Sk.gd,Sk.iY,Sk.eQ,Sk.iE,Sk.lT,Sk.Mr,Sk.cO,gm.xP,kk,kp,bg.pn,yL.xP,iX.xP,nG,uJ,mn,oM]
 have yt:py l=l:=(uI l).2
 rw [yt]
 have h1:=Ae l.length (fun n=>((l.take n).map (gh a st)++l.drop n,(l.take n).flatMap (stepOf a st),(l.take n).foldl (fB a kind st) [])) (fun s i=>(s.1,s.2.1,s.2.2,i))
  (f:=fun i3:List Claim × List Step × List Claim × Nat=>bif decide ((i3.2.2.2:Int) < ((l.length:Nat):Int)) then
   bif !(dE a st (l.getD i3.2.2.2 default)) then Sum.inr (i3.1,i3.2.1,i3.2.2.1,i3.2.2.2+1) else
   bif (((kind != 1)&&((((l.getD i3.2.2.2 default).dR) == 0)||(decide (((l.getD i3.2.2.2 default).sign) < a.at_))))&&(((l.getD i3.2.2.2 default).aF) != a.dt)) then
    Sum.inr (i3.1.set i3.2.2.2 ({ i3.1.getD i3.2.2.2 default with sum:=au ((cg 0 ((l.getD i3.2.2.2 default).sum)) - (bL (cg 0 a.sum) (cg 0 ((l.getD i3.2.2.2 default).sum)))) }),i3.2.1++[({ aF:=(l.getD i3.2.2.2 default).aF,ak:=(l.getD i3.2.2.2 default).ak,sign:=(l.getD i3.2.2.2 default).sign,sum:=bL (cg 0 a.sum) (cg 0 ((l.getD i3.2.2.2 default).sum)) }:Step)],oK i3.2.2.1 ({ l.getD i3.2.2.2 default with ak:=a.dt,cz:=a.at_,sum:=bL (cg 0 a.sum) (cg 0 ((l.getD i3.2.2.2 default).sum)) }),i3.2.2.2+1)
   else Sum.inr (i3.1.set i3.2.2.2 ({ i3.1.getD i3.2.2.2 default with sum:=au ((cg 0 ((l.getD i3.2.2.2 default).sum)) - (bL (cg 0 a.sum) (cg 0 ((l.getD i3.2.2.2 default).sum)))) }),i3.2.1++[({ aF:=(l.getD i3.2.2.2 default).aF,ak:=(l.getD i3.2.2.2 default).ak,sign:=(l.getD i3.2.2.2 default).sign,sum:=bL (cg 0 a.sum) (cg 0 ((l.getD i3.2.2.2 default).sum)) }:Step)],i3.2.2.1,i3.2.2.2+1)
   else Sum.inl (Sum.inr (i3.1,i3.2.1,i3.2.2.1)))
  (d:=(default:(List Claim × List Step) ⊕ (List Claim × List Step × List Claim)))
  (fun s=>Sum.inr s) (fun i hi=>by
   have et:l.take (i+1)=l.take i++[l.getD i default]:=by
    rw [List.take_succ_eq_append_getElem hi]; simp [List.getD,hi]
   have e2:(l.take (i+1)).flatMap (stepOf a st)=(l.take i).flatMap (stepOf a st)++stepOf a st (l.getD i default):=by rw [et]; simp
   have e3:(l.take (i+1)).foldl (fB a kind st) []=fB a kind st ((l.take i).foldl (fB a kind st) []) (l.getD i default):=by rw [et,List.foldl_append]; rfl
   dsimp only
   rw [decide_eq_true (by omega),cond_true,e2,e3]
   cases hm:dE a st (l.getD i default) with
   | false =>
    have er:gh a st (l.getD i default)=l.getD i default:=by unfold gh; rw [hm]; rfl
    have es:stepOf a st (l.getD i default)=[]:=by unfold stepOf; rw [hm]; rfl
    have ei:∀ s,fB a kind st s (l.getD i default)=s:=fun s=>by unfold fB LR; rw [hm]; rfl
    rw [Vm _ hi er,es,ei,List.append_nil]; rfl
   | true =>
    have er:gh a st (l.getD i default) = { l.getD i default with sum:=au ((cg 0 ((l.getD i default).sum)) - (bL (cg 0 a.sum) (cg 0 ((l.getD i default).sum)))) }:=by unfold gh iI; rw [hm]; rfl
    have es:stepOf a st (l.getD i default)=[({ aF:=(l.getD i default).aF,ak:=(l.getD i default).ak,sign:=(l.getD i default).sign,sum:=bL (cg 0 a.sum) (cg 0 ((l.getD i default).sum)) }:Step)]:=by unfold stepOf iI; rw [hm]; rfl
    have ei:∀ s,fB a kind st s (l.getD i default)=bif (((kind != 1)&&((((l.getD i default).dR) == 0)||(decide (((l.getD i default).sign) < a.at_))))&&(((l.getD i default).aF) != a.dt)) then oK s (mf a (l.getD i default)) else s:=fun s=>by unfold fB LR; rw [hm,Bool.true_and]
    rw [QM _ hi,← er,QN _ hi,es,ei,Bool.not_true,cond_false]
    cases (((kind != 1)&&((((l.getD i default).dR) == 0)||(decide (((l.getD i default).sign) < a.at_))))&&(((l.getD i default).aF) != a.dt)) <;> rfl)
  (by dsimp only; rw [decide_eq_false (by omega),cond_false]) (m:=l.length - 0+1) (by omega)
 rw [List.take_length,List.drop_length,List.append_nil] at h1
 refine (congrArg (fun q=>(gH q fun b2:List Claim × List Step × List Claim=>gH (iter (fun i7:List Claim × Nat=>bif decide ((i7.2:Int) < ((b2.2.2.length:Nat):Int)) then Sum.inr (ja i7.1 (b2.2.2.getD i7.2 default),i7.2+1) else Sum.inl (Sum.inr i7.1)) (default:(List Claim × List Step) ⊕ List Claim) (b2.2.2.length - 0+1) (b2.1,0)) fun b6=>(b6,b2.2.1)).1) h1).trans ?_
 refine (congrArg Prod.fst (eX (l.foldl (fB a kind st) []) (fun s i=>(s,i)) (fun c v=>.inr (ja v c)) (fun v=>v) (fun b6=>(b6,l.flatMap (stepOf a st))) (fun s i hi=>?_) (fun s=>?_) (by dsimp only; omega) (l.map (gh a st)))).trans ?_
 ·dsimp only
  rw [decide_eq_true (by omega),cond_true]
 ·dsimp only
  rw [decide_eq_false (by omega),cond_false]
 ·rw [j0 (fun c v=>ja v c)]
def TZ (a:bh) (kind:Int) (st:Bool) (P:List Claim) (k:Int × Int × Int × Int × Int):Option Claim→Prop
 | none=>∀ x,x∈P→LR a kind st x=true→keyOf (mf a x)≠k
 | some c=>((c.state=1∨c.state=2)∧keyOf c=k∧∃ x,x∈P∧LR a kind st x=true∧keyOf (mf a x)=k∧c.dR=x.dR)∧(∃ x,x∈P∧LR a kind st x=true∧keyOf (mf a x)=k∧c.sum=iI a x)∧(∀ x,x∈P→LR a kind st x=true→keyOf (mf a x)=k→iI a x≤c.sum)∧(c.state=1↔∀ x,x∈P→LR a kind st x=true→keyOf (mf a x)=k→x.state=1)
def Spec (a:bh) (kind:Int) (st:Bool) (P mj:List Claim):Prop:=(mj.Pairwise fun x y=>¬ dw x y)∧∀ k,TZ a kind st P k (lk mj k)
theorem NC {a b:Int} (ha:a=1∨a=2) (hb:b=1∨b=2):nj a b=1↔a=1∧b=1:=by
 have e11:nj 1 1=1:=by kernel_rfl
 have e12:nj 1 2=2:=by kernel_rfl
 have e21:nj 2 1=2:=by kernel_rfl
 have e22:nj 2 2=2:=by kernel_rfl
 rcases ha with rfl | rfl <;> rcases hb with rfl | rfl <;> simp [e11,e12,e21,e22]
theorem TZ.acK {a:bh} {kind:Int} {st:Bool} {P:List Claim} {k:Int × Int × Int × Int × Int} {o:Option Claim} (h:TZ a kind st P k o) {x:Claim} (hx:LR a kind st x=true→keyOf (mf a x)≠k):TZ a kind st (P++[x]) k o:=by
 have hm:∀ y,y∈P++[x]→LR a kind st y=true→keyOf (mf a y)=k→y∈P:=fun y hy h1 h2=>by
  rcases List.mem_append.1 hy with hy | hy
  ·exact hy
  ·rw [List.mem_singleton.1 hy] at h1 h2; exact absurd h2 (hx h1)
 cases o with
 | none=>exact fun y hy h1 h2=>h y (hm y hy h1 h2) h1 h2
 | some c =>
  obtain ⟨⟨h1,h2,y,hy,k1,k2⟩,⟨z,hz,k3⟩,k4,k5⟩:=h
  refine ⟨⟨h1,h2,y,List.mem_append_left _ hy,k1,k2⟩,⟨z,List.mem_append_left _ hz,k3⟩,fun y hy q1 q2=>k4 y (hm y hy q1 q2) q1 q2,k5.trans ⟨fun q y hy q1 q2=>q y (hm y hy q1 q2) q1 q2,fun q y hy q1 q2=>q y (List.mem_append_left _ hy) q1 q2⟩⟩
theorem Spec.step {a:bh} {kind:Int} {st:Bool} {P mj:List Claim} (h:Spec a kind st P mj) {x:Claim} (hx:x.state=1∨x.state=2):Spec a kind st (P++[x]) (fB a kind st mj x):=by
 unfold fB
 cases hs:LR a kind st x with
 | false=>exact ⟨h.1,fun k=>(h.2 k).acK (fun e=>absurd e (by rw [hs]; decide))⟩
 | true =>
  have e:oK mj (mf a x)=ln (fG (mf a x)) (mf a x) mj:=(yQ mj (mf a x)).eq h.1
  rw [cond_true,e]
  refine ⟨BX (XI _) h.1,fun k=>?_⟩
  rw [JG (XI _)]
  by_cases hk:keyOf (mf a x)=k
  ·rw [if_pos hk]
   have hq:=h.2 k
   have hP:∀ (Q:Claim→Prop),(∀ y,y∈P++[x]→LR a kind st y=true→keyOf (mf a y)=k→Q y)↔(∀ y,y∈P→LR a kind st y=true→keyOf (mf a y)=k→Q y)∧Q x:=fun Q =>
    ⟨fun q=>⟨fun y hy=>q y (List.mem_append_left _ hy),q x (by simp) hs hk⟩,fun q y hy q1 q2=>by
     rcases List.mem_append.1 hy with hy | hy
     ·exact q.1 y hy q1 q2
     ·rw [List.mem_singleton.1 hy]; exact q.2⟩
   cases ho:lk mj k with
   | none =>
    rw [ho] at hq
    refine ⟨⟨hx,hk,x,by simp,hs,hk,rfl⟩,⟨x,by simp,hs,hk,rfl⟩,(hP _).2 ⟨fun y hy q1 q2=>absurd q2 (hq y hy q1),Int.le_refl _⟩,Iff.trans ⟨fun q=>⟨fun y hy q1 q2=>absurd q2 (hq y hy q1),q⟩,fun q=>q.2⟩ (hP _).symm⟩
   | some c =>
    rw [ho] at hq
    obtain ⟨⟨h1,h2,y,hy,k1,k1',k2⟩,⟨z,hz,k3,k3',aew⟩,k4,k5⟩:=hq
    have ki:(fG (mf a x) c).state=1↔x.state=1∧c.state=1:=NC (a:=x.state) (b:=c.state) hx h1
    have Vt:(fG (mf a x) c).sum=cg c.sum (iI a x):=rfl
    refine ⟨⟨RU (a:=x.state) (b:=c.state) hx h1,h2,y,List.mem_append_left _ hy,k1,k1',k2⟩,?_,(hP _).2 ⟨fun y hy q1 q2=>?_,?_⟩,Iff.trans ?_ (hP _).symm⟩
    ·show ∃ w,w∈P++[x]∧_∧_∧(fG (mf a x) c).sum=_
     rw [Vt]
     unfold cg
     split
     ·exact ⟨x,by simp,hs,hk,rfl⟩
     ·exact ⟨z,List.mem_append_left _ hz,k3,k3',aew⟩
    ·have:=k4 y hy q1 q2
     show _≤(fG (mf a x) c).sum
     rw [Vt]; unfold cg; split <;> omega
    ·show _≤(fG (mf a x) c).sum
     rw [Vt]; unfold cg; split <;> omega
    ·exact ki.trans ⟨fun q=>⟨k5.1 q.2,q.1⟩,fun q=>⟨q.2,k5.2 q.1⟩⟩
  ·rw [if_neg hk]
   exact (h.2 k).acK (fun _=>hk)
theorem Spec.all {a:bh} {kind:Int} {st:Bool}:∀ (l P mj:List Claim),Spec a kind st P mj→(∀ x,x∈l→x.state=1∨x.state=2)→Spec a kind st (P++l) (l.foldl (fB a kind st) mj)
 | [],P,mj,h,_=>by rw [List.append_nil]; exact h
 | x :: r,P,mj,h,hl=>by
  have:=Spec.all r (P++[x]) _ (h.step (hl x (by simp))) (fun y hy=>hl y (by simp [hy]))
  rwa [List.append_assoc] at this
theorem Spec.of {a:bh} {kind:Int} {st:Bool} {l:List Claim} (hl:∀ x,x∈l→x.state=1∨x.state=2):Spec a kind st l (l.foldl (fB a kind st) []):=by
 have:=Spec.all (a:=a) (kind:=kind) (st:=st) l [] [] ⟨.nil,fun k x hx=>by simp at hx⟩ hl
 rwa [List.nil_append] at this
theorem JI {k:Int × Int × Int × Int × Int}:∀ (mj v:List Claim),(mj.Pairwise fun x y=>¬ dw x y)→(v.Pairwise fun x y=>¬ dw x y)→((mj.foldl ja v).Pairwise fun x y=>¬ dw x y)∧lk (mj.foldl ja v) k=(lk mj k).elim (lk v k) fun c=>some ((lk v k).elim c (fJ c))
 | [],v,_,hv=>⟨hv,rfl⟩
 | c :: r,v,hi,hv=>by
  rw [List.pairwise_cons] at hi
  have e:ja v c=ln (fJ c) c v:=(A1 v c).eq hv
  have h:=JI (k:=k) r (ja v c) hi.2 (by rw [e]; exact BX (XJ _) hv)
  rw [List.foldl_cons]
  refine ⟨h.1,h.2.trans ?_⟩
  rw [e,JG (XJ _),s9]
  by_cases hk:keyOf c=k
  ·rw [if_pos hk,if_pos hk]
   have:lk r k=none:=by
    cases hr:lk r k with
    | none=>rfl
    | some y =>
     obtain ⟨m1,m2⟩:=oA hr
     exact absurd (gq.2 (hk.trans m2.symm)) (hi.1 y m1)
   rw [this]; rfl
  ·rw [if_neg hk,if_neg hk]
theorem XK:∀ {mj v:List Claim} {z:Claim},(mj.Pairwise fun x y=>¬ dw x y)→(v.Pairwise fun x y=>¬ dw x y)→z∈mj.foldl ja v→z∈v∨z∈mj∨∃ x c,x∈v∧c∈mj∧z=fJ c x:=fun {mj v z} hi hv hz=>by
 obtain ⟨h1,h2⟩:=JI (k:=keyOf z) mj v hi hv
 have h3:=Fo h1 hz
 rw [h2] at h3
 cases hc:lk mj (keyOf z) with
 | none=>rw [hc] at h3; exact .inl (oA h3).1
 | some c =>
  rw [hc] at h3
  cases hx:lk v (keyOf z) with
  | none=>rw [hx] at h3; have h3:some c=some z:=h3; cases h3; exact .inr (.inl (oA hc).1)
  | some x=>rw [hx] at h3; have h3:some (fJ c x)=some z:=h3; cases h3; exact .inr (.inr ⟨x,c,(oA hx).1,(oA hc).1,rfl⟩)
structure SK (Z:Int→Prop) (L:List Claim):Prop where
 pair:L.Pairwise fun x y=>¬ dw x y
 cl:∀ x,x∈L→HT x
 dR:∀ x,x∈L→(x.dR=0↔Z x.sign)
structure Gr (L L':List Claim):Prop where
 old:∀ k x',lk L' k=some x'→∃ x,lk L k=some x
 yes:∀ k x,lk L k=some x→x.state=1→∃ x',lk L' k=some x'∧x'.state=1∧x.sum≤x'.sum
theorem ND (a:bh) (st:Bool) (x:Claim):keyOf (gh a st x)=keyOf x:=gq.1 (CD a st x).1
theorem SL (a:bh) (st:Bool) (k:Int × Int × Int × Int × Int):∀ l:List Claim,lk (l.map (gh a st)) k=(lk l k).map (gh a st)
 | []=>rfl
 | x :: r=>by
  rw [List.map_cons,s9,s9,ND,SL a st k r]
  split <;> rfl
theorem LS (a:bh) (st:Bool) (x:Claim):(gh a st x).state=x.state:=by unfold gh; cases dE a st x <;> rfl
theorem JJ {a:bh} {st:Bool} {l:List Claim} (h:l.Pairwise fun x y=>¬ dw x y):(l.map (gh a st)).Pairwise fun x y=>¬ dw x y:=by
 rw [List.pairwise_map]
 exact h.imp fun h e=>h (gq.2 (by have:=gq.1 e; rwa [ND,ND] at this))
theorem JK {a:bh} {x:Claim} (h:HT x):jJ (iI a x):=by
 have h:=h.1
 unfold jJ iI bL cg at *
 (repeat' split) <;> omega
theorem SK.apply {Z:Int→Prop} {L:List Claim} (h:SK Z L) (a:bh) (kind:Int) (st:Bool):SK Z (gP L a kind st).1:=by
 have hs:=Spec.of (a:=a) (kind:=kind) (st:=st) fun x hx=>(h.cl x hx).2
 have hv:=JJ (a:=a) (st:=st) h.pair
 rw [JH]
 have ci:∀ c,c∈L.foldl (fB a kind st) []→HT c∧(c.dR=0↔Z c.sign):=fun c hc=>by
  have hk:=hs.2 (keyOf c)
  rw [Fo hs.1 hc] at hk
  obtain ⟨⟨h1,-,y,hy,-,k1,k2⟩,⟨z,hz,-,-,k3⟩,-,-⟩:=hk
  refine ⟨⟨by rw [k3]; exact JK (h.cl z hz),h1⟩,?_⟩
  have:y.sign=c.sign:=congrArg (fun q:Int × Int × Int × Int × Int=>q.2.2.2.1) k1
  rw [k2,← this]; exact h.dR y hy
 have cv:∀ c,c∈L.map (gh a st)→HT c∧(c.dR=0↔Z c.sign):=fun c hc=>by
  obtain ⟨x,hx,rfl⟩:=List.mem_map.1 hc
  have e:=CD a st x
  exact ⟨GI (h.cl x hx),by rw [e.2.1,e.1.2.2.2.1]; exact h.dR x hx⟩
 have all:∀ z,z∈(L.foldl (fB a kind st) []).foldl ja (L.map (gh a st))→HT z∧(z.dR=0↔Z z.sign):=fun z hz=>by
  rcases XK hs.1 hv hz with hz | hz | ⟨x,c,hx,hc,rfl⟩
  ·exact cv z hz
  ·exact ci z hz
  ·exact ⟨WV (ci c hc).1 (cv x hx).1,(cv x hx).2⟩
 exact ⟨(JI (k:=keyOf default) _ _ hs.1 hv).1,fun z hz=>(all z hz).1,fun z hz=>(all z hz).2⟩
theorem NF {Z:Int→Prop} {a:bh} {kind:Int} {st:Bool} {x y:Claim} (hk:keyOf x=keyOf y) (hx:x.dR=0↔Z x.sign) (hy:y.dR=0↔Z y.sign):LR a kind st x=LR a kind st y∧dE a st x=dE a st y:=by
 obtain ⟨e1,e2,e3,e4,e5⟩:=gq.2 hk
 have et:(x.dR == 0)=(y.dR == 0):=by
  have:x.dR=0↔y.dR=0:=by rw [hx,hy,e4]
  cases h:y.dR == 0 with
  | true=>rw [beq_iff_eq] at h ⊢; exact this.2 h
  | false=>rw [beq_eq_false_iff_ne] at h ⊢; exact fun q=>h (this.1 q)
 have em:dE a st x=dE a st y:=by rw [iZ,iZ,e2]
 unfold LR
 rw [em,et,e4,e1]
 exact ⟨rfl,rfl⟩
theorem GR {a:bh} {x y:Claim} (hk:keyOf x=keyOf y):keyOf (mf a x)=keyOf (mf a y):=by
 obtain ⟨e1,e2,e3,e4,e5⟩:=gq.2 hk
 exact gq.1 ⟨e1,rfl,e3,e4,rfl⟩
theorem Zk {a:bh} {x y:Claim} (h:x.sum≤y.sum):iI a x≤iI a y:=by
 unfold iI bL cg; (repeat' split) <;> omega
theorem Gr.apply {Z:Int→Prop} {L L':List Claim} (h:SK Z L) (h':SK Z L') (hg:Gr L L') (a:bh) (kind:Int) (st:Bool):Gr (gP L a kind st).1 (gP L' a kind st).1:=by
 have hs:=Spec.of (a:=a) (kind:=kind) (st:=st) fun x hx=>(h.cl x hx).2
 have vI:=Spec.of (a:=a) (kind:=kind) (st:=st) fun x hx=>(h'.cl x hx).2
 have back:∀ x',x'∈L'→∃ x,x∈L∧keyOf x=keyOf x'∧LR a kind st x=LR a kind st x'∧(x.state=1→x'.state=1∧x.sum≤x'.sum):=fun x' Vp=>by
  have JU:=Fo h'.pair Vp
  obtain ⟨x,hx⟩:=hg.old _ _ JU
  obtain ⟨m1,m2⟩:=oA hx
  refine ⟨x,m1,m2,(NF m2 (h.dR x m1) (h'.dR x' Vp)).1,fun h1=>?_⟩
  obtain ⟨y,y1,y2,y3⟩:=hg.yes _ x hx h1
  rw [JU] at y1
  cases y1
  exact ⟨y2,y3⟩
 have fwd:∀ x,x∈L→x.state=1→∃ x',x'∈L'∧keyOf x'=keyOf x∧LR a kind st x'=LR a kind st x∧x.sum≤x'.sum:=fun x hx h1=>by
  obtain ⟨x',y1,y2,y3⟩:=hg.yes _ x (Fo h.pair hx) h1
  obtain ⟨m1,m2⟩:=oA y1
  exact ⟨x',m1,m2,(NF m2 (h'.dR x' m1) (h.dR x hx)).1,y3⟩
 have io:∀ k c',lk (L'.foldl (fB a kind st) []) k=some c'→∃ c,lk (L.foldl (fB a kind st) []) k=some c:=fun k c' S7=>by
  have q:=vI.2 k
  rw [S7] at q
  obtain ⟨-,⟨z,hz,z1,z2,-⟩,-,-⟩:=q
  obtain ⟨x,x1,x2,x3,-⟩:=back z hz
  have q:=hs.2 k
  cases hc:lk (L.foldl (fB a kind st) []) k with
  | some c=>exact ⟨c,rfl⟩
  | none=>rw [hc] at q; exact absurd ((GR x2).trans z2) (q x x1 (by rw [x3]; exact z1))
 have iy:∀ k c,lk (L.foldl (fB a kind st) []) k=some c→c.state=1→∃ c',lk (L'.foldl (fB a kind st) []) k=some c'∧c'.state=1∧c.sum≤c'.sum:=fun k c hc h1=>by
  have q:=hs.2 k
  rw [hc] at q
  obtain ⟨-,⟨z,hz,z1,z2,z3⟩,-,k5⟩:=q
  have o9:=k5.1 h1
  obtain ⟨z',w1,w2,w3,w4⟩:=fwd z hz (o9 z hz z1 z2)
  have q:=vI.2 k
  cases S7:lk (L'.foldl (fB a kind st) []) k with
  | none=>rw [S7] at q; exact absurd ((GR w2).trans z2) (q z' w1 (by rw [w3]; exact z1))
  | some c' =>
   rw [S7] at q
   obtain ⟨-,-,k4',k5'⟩:=q
   refine ⟨c',rfl,k5'.2 fun y hy q1 q2=>?_,?_⟩
   ·obtain ⟨x,x1,x2,x3,x4⟩:=back y hy
    exact (x4 (o9 x x1 (by rw [x3]; exact q1) ((GR x2).trans q2))).1
   ·rw [z3]
    exact Int.le_trans (Zk w4) (k4' z' w1 (by rw [w3]; exact z1) ((GR w2).trans z2))
 have vo:∀ k x',lk (L'.map (gh a st)) k=some x'→∃ x,lk (L.map (gh a st)) k=some x:=fun k x' Vp=>by
  rw [SL] at Vp ⊢
  cases hy:lk L' k with
  | none=>rw [hy] at Vp; cases Vp
  | some y =>
   obtain ⟨x,hx⟩:=hg.old k y hy
   exact ⟨_,by rw [hx]; rfl⟩
 have vy:∀ k x,lk (L.map (gh a st)) k=some x→x.state=1→∃ x',lk (L'.map (gh a st)) k=some x'∧x'.state=1∧x.sum≤x'.sum:=fun k x hx h1=>by
  rw [SL] at hx ⊢
  cases hy:lk L k with
  | none=>rw [hy] at hx; cases hx
  | some y =>
   rw [hy] at hx
   have hx:some (gh a st y)=some x:=hx
   cases hx
   rw [LS] at h1
   obtain ⟨y',y1,y2,y3⟩:=hg.yes k y hy h1
   refine ⟨gh a st y',by rw [y1]; rfl,by rw [LS]; exact y2,?_⟩
   obtain ⟨m1,m2⟩:=oA hy
   obtain ⟨n1,n2⟩:=oA y1
   have em:=(NF (Z:=Z) (a:=a) (kind:=kind) (st:=st) (m2.trans n2.symm) (h.dR y m1) (h'.dR y' n1)).2
   have c1:=(h.cl y m1).1
   have c2:=(h'.cl y' n1).1
   unfold gh
   rw [em]
   cases dE a st y' with
   | false=>exact y3
   | true =>
    show au _≤au _
    unfold iI jJ at *
    have a0:0≤cg 0 a.sum:=by unfold cg; split <;> omega
    generalize cg 0 a.sum=A at a0 ⊢
    rw [show cg 0 y.sum=y.sum by unfold cg; split <;> omega,show cg 0 y'.sum=y'.sum by unfold cg; split <;> omega]
    have b1:0≤bL A y.sum∧bL A y.sum≤y.sum:=by unfold bL; split <;> omega
    have b2:0≤bL A y'.sum∧bL A y'.sum≤y'.sum:=by unfold bL; split <;> omega
    rw [aG (by omega) (by omega),aG (by omega) (by omega)]
    unfold bL; split <;> split <;> omega
 have hv:=JJ (a:=a) (st:=st) h.pair
 have hv':=JJ (a:=a) (st:=st) h'.pair
 have ci:∀ k c,lk (L.foldl (fB a kind st) []) k=some c→HT c:=fun k c hc=>by
  have q:=hs.2 k
  rw [hc] at q
  obtain ⟨⟨h1,-⟩,⟨z,hz,-,-,k3⟩,-⟩:=q
  exact ⟨by rw [k3]; exact JK (h.cl z hz),h1⟩
 have ci':∀ k c,lk (L'.foldl (fB a kind st) []) k=some c→HT c:=fun k c hc=>by
  have q:=vI.2 k
  rw [hc] at q
  obtain ⟨⟨h1,-⟩,⟨z,hz,-,-,k3⟩,-⟩:=q
  exact ⟨by rw [k3]; exact JK (h'.cl z hz),h1⟩
 have cv:∀ k c,lk (L.map (gh a st)) k=some c→HT c:=fun k c hc=>by
  obtain ⟨x,hx,e⟩:=List.mem_map.1 (oA hc).1
  rw [← e]; exact GI (h.cl x hx)
 have cv':∀ k c,lk (L'.map (gh a st)) k=some c→HT c:=fun k c hc=>by
  obtain ⟨x,hx,e⟩:=List.mem_map.1 (oA hc).1
  rw [← e]; exact GI (h'.cl x hx)
 rw [JH,JH]
 refine ⟨fun k z' hz'=>?_,fun k z hz h1=>?_⟩
 ·rw [(JI _ _ vI.1 hv').2] at hz'
  rw [(JI _ _ hs.1 hv).2]
  cases S7:lk (L'.foldl (fB a kind st) []) k with
  | some c' =>
   obtain ⟨c,hc⟩:=io k c' S7
   rw [hc]; exact ⟨_,rfl⟩
  | none =>
   rw [S7] at hz'
   obtain ⟨x,hx⟩:=vo k z' hz'
   rw [hx]
   cases lk (L.foldl (fB a kind st) []) k <;> exact ⟨_,rfl⟩
 ·rw [(JI _ _ hs.1 hv).2] at hz
  rw [(JI _ _ vI.1 hv').2]
  cases hc:lk (L.foldl (fB a kind st) []) k with
  | none =>
   rw [hc] at hz
   obtain ⟨x',x1,x2,x3⟩:=vy k z hz h1
   cases S7:lk (L'.foldl (fB a kind st) []) k with
   | none=>exact ⟨x',x1,x2,x3⟩
   | some c'=>obtain ⟨c0,DK⟩:=io k c' S7; rw [hc] at DK; cases DK
  | some c =>
   rw [hc] at hz
   cases hx:lk (L.map (gh a st)) k with
   | none =>
    rw [hx] at hz
    have hz:some c=some z:=hz
    have hz:c=z:=Option.some.inj hz
    subst z
    obtain ⟨c',c1,c2,c3⟩:=iy k c hc h1
    rw [c1]
    cases Vp:lk (L'.map (gh a st)) k with
    | none=>exact ⟨c',rfl,c2,c3⟩
    | some x'=>obtain ⟨x,Yy⟩:=vo k x' Vp; rw [hx] at Yy; cases Yy
   | some x =>
    rw [hx] at hz
    have hz:some (fJ c x)=some z:=hz
    cases hz
    have px:=cv k x hx
    have pc:=ci k c hc
    obtain ⟨s1,s2⟩:=(NC (a:=x.state) (b:=c.state) px.2 pc.2).1 h1
    obtain ⟨c',c1,c2,c3⟩:=iy k c hc s2
    obtain ⟨x',x1,x2,x3⟩:=vy k x hx s1
    have px':=cv' k x' x1
    have pc':=ci' k c' c1
    rw [c1,x1]
    refine ⟨_,rfl,(NC (a:=x'.state) (b:=c'.state) px'.2 pc'.2).2 ⟨x2,c2⟩,?_⟩
    show bL 1099511627776 (au (x.sum+c.sum))≤bL 1099511627776 (au (x'.sum+c'.sum))
    have p1:=px.1
    have p2:=pc.1
    have p3:=px'.1
    have p4:=pc'.1
    unfold jJ at *
    rw [aG (by omega) (by omega),aG (by omega) (by omega)]
    unfold bL; split <;> split <;> omega
def n3 (g:al) (l:List Claim) (a:bh):List Claim:=bif (((a.kind != 6)||(decide (a.at_ < 0)))||(decide (a.at_≥((g.af.length:Nat):Int)))) then l else (gP l a (g.af.getD a.at_.toNat default).kind (!(kM g.af a))).1
theorem A9 (r:ah) (forum:Int) (f:al) (day:Int):oz r forum f day=(ai f day).aA.foldl (n3 (ai f day)) (bV r forum f day):=by
 have e0:oz r forum f day=(Ak r forum f day).1:=by kernel_rfl
 rw [e0]
 unfold Ak ov
 dsimp +instances only [Sk.val,Sk.dh,Sk.gd,Sk.iY,Sk.eQ,Sk.iE,Sk.lT,Sk.Mr,Sk.cO,Sk.aaI,Sk.aaH,Sk.Tu,Sk.Tv,gm.xP,kk,kp,bg.pn,ch,Nn,ga,iX.xP,sM]
 refine (congrArg Prod.fst (eX (ai f day).aA (fun s i=>(s,i)) (fun a l=>.inr (n3 (ai f day) l a)) (fun l=>l) (fun b3=>(b3,())) (fun s i hi=>?_) (fun s=>?_) (by omega) (bV r forum f day))).trans ?_
 ·dsimp only
  rw [decide_eq_true (by omega),cond_true]
  unfold n3
  cases ((((((ai f day).aA.getD i default).kind) != 6)||(decide ((((ai f day).aA.getD i default).at_) < 0)))||(decide ((((ai f day).aA.getD i default).at_)≥(((ai f day).af.length:Nat):Int)))) with
  | true=>rfl
  | false =>
   rw [cond_false,cond_false]
   generalize gP s ((ai f day).aA.getD i default) ((ai f day).af.getD ((ai f day).aA.getD i default).at_.toNat default).kind (!(kM (ai f day).af ((ai f day).aA.getD i default)))=w
   refine Eq.trans (congrArg (fun q=>gH (gH q _) _) (Ae w.2.length (fun k=>(w.2.take k).foldl (fun m (s:Step)=>sH m s.ak true) ([]:List (Int × Bool))) (fun s i=>(i,s)) (fun s=>Sum.inr (((w.2.length:Nat):Int),s)) (fun k hk=>?_) ?_ (by omega))) ?_
   ·dsimp only
    rw [decide_eq_true (by omega),cond_true,List.take_succ_eq_append_getElem hk,List.foldl_append,show w.2.getD k default=w.2[k] by simp [List.getD,hk]]
    rfl
   ·dsimp only
    rw [decide_eq_false (by omega),cond_false,List.take_length]
   ·rfl
 ·dsimp only
  rw [decide_eq_false (by omega),cond_false]
 ·rw [j0 (fun a l=>n3 (ai f day) l a)]
theorem XL {Z:Int→Prop} (g g':al) (hs:g'.af=g.af):∀ (aA:List bh) (L L':List Claim),SK Z L→SK Z L'→Gr L L'→SK Z (aA.foldl (n3 g) L)∧SK Z (aA.foldl (n3 g') L')∧Gr (aA.foldl (n3 g) L) (aA.foldl (n3 g') L')
 | [],L,L',h,h',hg=>⟨h,h',hg⟩
 | a :: r,L,L',h,h',hg=>by
  rw [List.foldl_cons,List.foldl_cons]
  have e:∀ l,n3 g' l a=n3 g l a:=fun l=>by unfold n3; rw [hs]
  rw [e]
  unfold n3
  cases (((a.kind != 6)||(decide (a.at_ < 0)))||(decide (a.at_≥((g.af.length:Nat):Int)))) with
  | true=>exact XL g g' hs r L L' h h' hg
  | false=>exact XL g g' hs r _ _ (h.apply _ _ _) (h'.apply _ _ _) (hg.apply h h' _ _ _)
def T1 (f:al) (day s:Int):Prop:=((ai f day).af.getD (aw (aB f day) s).toNat default).kind=1
theorem T2 {r:ah} {forum:Int} {f:al} {day:Int} (hF:cm r f) (hR:r.dj):SK (T1 f day) (bV r forum f day):=by
 refine ⟨(Qq r forum f day).imp fun h e=>h ⟨e.2.2.1,e.2.2.2.1,e.2.2.2.2⟩,fun c hc=>?_,fun c hc=>?_⟩
 ·have:=Qp hF hR hc
  exact ⟨this.2.2.2.2.2.2.1,this.2.2.2.2.2.1⟩
 ·obtain ⟨b,hb,-,-,h,-⟩:=QI hF hc
  rw [hb] at h
  exact h
theorem Vn {r:ah} {forum:Int} {f:al} {F:List Fact} {day:Int} (h:s7 f F) (hF:cm r f) (TW:cm r { f with facts:=F }) (hR:r.dj) :
  SK (T1 f day) (oz r forum f day)∧SK (T1 f day) (oz r forum { f with facts:=F } day)∧Gr (oz r forum f day) (oz r forum { f with facts:=F } day):=by
 obtain ⟨g1,g2⟩:=Vl (forum:=forum) (day:=day) h hF TW hR
 have o1:=T2 (forum:=forum) (day:=day) hF hR
 have o2:=T2 (forum:=forum) (day:=day) TW hR
 have o3:SK (T1 f day) (bV r forum { f with facts:=F } day):=by
  refine ⟨o2.pair,o2.cl,fun c hc=>?_⟩
  obtain ⟨d,hd,e⟩:=g2 c hc
  rw [e.2.1,e.1.2.2.2.1]
  exact o1.dR d hd
 rw [A9,A9,show (ai { f with facts:=F } day).aA=(ai f day).aA by rw [Gn]]
 refine XL _ _ (by rw [Gn]) _ _ _ o1 o3 ⟨fun k x' Vp=>?_,fun k x hx h1=>?_⟩
 ·obtain ⟨m1,m2⟩:=oA Vp
  obtain ⟨c,hc,e⟩:=g2 x' m1
  exact ⟨c,by rw [← m2,gq.1 e.1]; exact Fo o1.pair hc⟩
 ·obtain ⟨m1,m2⟩:=oA hx
  obtain ⟨c',hc,e,s1,s2⟩:=g1 x m1 h1
  exact ⟨c',by rw [← m2,← gq.1 e.1]; exact Fo o2.pair hc,s1,s2⟩
theorem LU {r:ah} {f:al} (h:MQ r f=true):f.facts.length≤220:=by
 have h1:GJ r f=true:=by
  cases e:GJ r f with
  | true=>rfl
  | false =>
   simp only [MQ,qw,Sk.iE,Sk.eQ,Sk.cO,bg.AY,bg.Pn,gm.xP,kk,kp,z7,e,Bool.false_and] at h
   exact absurd h (by decide)
 have h2:CF f=true:=by
  cases e:CF f with
  | true=>rfl
  | false =>
   simp only [GJ,qu,Sk.dh,Sk.iE,Sk.eQ,Sk.cO,bg.AY,bg.Pn,gm.xP,kk,kp,z6,e,Bool.not_false,Bool.or_true,cond_true] at h1
   exact absurd h1 (by decide)
 simp only [CF,qt,Sk.iE,Sk.cO,LN] at h2
 omega
def Vo (a b:Claim):Prop:=dw a b∧b.state=1∧a.sum≤b.sum
theorem JL {a b:Claim}:(((((a.aF == b.aF)&&(a.ak == b.ak))&&(a.part == b.part))&&(a.sign == b.sign))&&(a.cz == b.cz))=true↔dw a b:=by
 simp only [Bool.and_eq_true,beq_iff_eq,and_assoc]; rfl
theorem T3 {a b:Claim}:(((((((a.aF == b.aF)&&(a.ak == b.ak))&&(a.part == b.part))&&(a.sign == b.sign))&&(a.cz == b.cz))&&(b.state == 1))&&(decide (b.sum≥a.sum)))=true↔Vo a b:=by
 rw [Bool.and_eq_true,Bool.and_eq_true,JL,beq_iff_eq,decide_eq_true_eq]
 exact ⟨fun h=>⟨h.1.1,h.1.2,h.2⟩,fun h=>⟨⟨h.1,h.2.1⟩,h.2.2⟩⟩
theorem QP {L:List Claim} {x:Claim} (h:x∈L):∃ q,q < L.length∧L.getD q default=x:=by
 obtain ⟨i,hi,rfl⟩:=List.getElem_of_mem h
 exact ⟨i,hi,by simp [List.getD,hi]⟩
theorem XM {Z:Int→Prop} {L L':List Claim} (h:SK Z L) (hg:Gr L L') {i:Nat} (hi:i < L.length) (h1:(L.getD i default).state=1):∃ q,q < L'.length∧Vo (L.getD i default) (L'.getD q default):=by
 obtain ⟨x',y1,y2,y3⟩:=hg.yes _ _ (Fo h.pair (j1 hi)) h1
 obtain ⟨m1,m2⟩:=oA y1
 obtain ⟨q,hq,e⟩:=QP m1
 exact ⟨q,hq,by rw [e]; exact ⟨gq.2 m2.symm,y2,y3⟩⟩
theorem XN {Z:Int→Prop} {L L':List Claim} (h:SK Z L') (hg:Gr L L') {i:Nat} (hi:i < L'.length):∃ q,q < L.length∧dw (L.getD q default) (L'.getD i default):=by
 obtain ⟨x,hx⟩:=hg.old _ _ (Fo h.pair (j1 hi))
 obtain ⟨m1,m2⟩:=oA hx
 obtain ⟨q,hq,e⟩:=QP m1
 exact ⟨q,hq,by rw [e]; exact gq.2 m2⟩
theorem Jw.right {r:ah} {f g:al} (h:Jw f g) (hF:cm r f) (hl:g.facts.length≤300):cm r g:=by
 obtain ⟨F,rfl,-⟩:=h
 exact ⟨hF.1,⟨hF.2.1.1,hF.2.1.2.1,hF.2.1.2.2.1,hF.2.1.2.2.2.1,hl⟩,hF.2.2.1,hF.2.2.2.1,hF.2.2.2.2⟩
def kV (r:ah) (forum:Int) (f:al) (day:Int) (facts:List Fact):Sk (Bool) :=
 .r 1 yR.c fun x1 =>
 .r 2 ((Eb r f).c) fun x2 =>
 .br ((!x2)||(decide (((facts.length:Nat):Int) > 60)))
 (.fin x1)
 (.bind true (fun b3=>Jw f b3∧b3.facts.length≤f.facts.length+facts.length)
 (.loop (default:Sum (Bool) (al)) (fun i4=>i4.1≤facts.length∧Jw f i4.2∧i4.2.facts.length≤f.facts.length+i4.1) (fun i4=>facts.length - i4.1) ((0,f):Nat × al)
 (fun (i4:Nat × al)=>⟨[(13,iv (i4.1:Int))],[(12,.box (i4.2.cells.map .d))]⟩) fun i4 =>
 .lt 4 0 i4.1 facts.length
 (.r 8 (.p (bG (i4.1:Int) facts.length)) fun _ =>
 .br ((((((decide (((facts.getD i4.1 default).kind)≥0))&&(decide (((facts.getD i4.1 default).kind) < 5)))&&(decide (((facts.getD i4.1 default).at_)≥0)))&&(decide (((facts.getD i4.1 default).at_) < ((f.af.length:Nat):Int))))&&(decide (((facts.getD i4.1 default).n)≥0)))&&(decide (((facts.getD i4.1 default).n)≤1)))
 (.r 10 ((Bt i4.2 (facts.getD i4.1 default)).c) fun x5 =>
 .nx 7 13 i4.1 (i4.1+1,x5))
 (.nx 7 13 i4.1 (i4.1+1,i4.2)))
 (.fin (.inl (.inr i4.2))))
 (fun (b3:al)=>⟨[],[(12,.box (b3.cells.map .d))]⟩) fun b3 =>
 .r 11 ((s6 r forum f day).c) fun x6 =>
 .r 12 ((s6 r forum b3 day).c) fun x7 =>
 .bt
 (.loop (default:Sum (Bool) (Unit)) (fun i9=>i9≤x6.length) (fun i9=>x6.length - i9) (0:Nat)
 (fun (i9:Nat)=>⟨[(17,iv (i9:Int))],[]⟩) fun i9 =>
 .lt 15 0 i9 x6.length
 (.bt
 (.r 16 (.p (bG (i9:Int) x6.length)) fun _ =>
 .bind true (fun UR=>((x6.getD i9 default).state≠1∨∃ q,q < x7.length∧Vo (x6.getD i9 default) (x7.getD q default))→UR.1=true)
 (.loop (default:Sum (Sum (Sum (Sum (Bool) (Unit)) (Nat)) (Unit)) (Bool × Int)) (fun i12=>i12.2≤x7.length∧(((x6.getD i9 default).state≠1∨∃ q,q < i12.2∧Vo (x6.getD i9 default) (x7.getD q default))→i12.1=true)) (fun i12=>x7.length - i12.2) ((((x6.getD i9 default).state) != 1,0):Bool × Nat)
 (fun (i12:Bool × Nat)=>⟨[(18,bv i12.1),(19,iv (i12.2:Int))],[]⟩) fun i12 =>
 .lt 16 0 i12.2 x7.length
 (.r 20 (.aq (.p (bG (i9:Int) x6.length)) (.aq (.p (bG (i12.2:Int) x7.length)) (.aq (.wh (((x6.getD i9 default).aF) == ((x7.getD i12.2 default).aF)) true (.p (bG (i9:Int) x6.length))) (.aq (.wh (((x6.getD i9 default).aF) == ((x7.getD i12.2 default).aF)) true (.p (bG (i12.2:Int) x7.length))) (.aq (.wh ((((x6.getD i9 default).aF) == ((x7.getD i12.2 default).aF))&&(((x6.getD i9 default).ak) == ((x7.getD i12.2 default).ak))) true (.p (bG (i9:Int) x6.length))) (.aq (.wh ((((x6.getD i9 default).aF) == ((x7.getD i12.2 default).aF))&&(((x6.getD i9 default).ak) == ((x7.getD i12.2 default).ak))) true (.p (bG (i12.2:Int) x7.length))) (.aq (.wh (((((x6.getD i9 default).aF) == ((x7.getD i12.2 default).aF))&&(((x6.getD i9 default).ak) == ((x7.getD i12.2 default).ak)))&&(((x6.getD i9 default).part) == ((x7.getD i12.2 default).part))) true (.p (bG (i9:Int) x6.length))) (.aq (.wh (((((x6.getD i9 default).aF) == ((x7.getD i12.2 default).aF))&&(((x6.getD i9 default).ak) == ((x7.getD i12.2 default).ak)))&&(((x6.getD i9 default).part) == ((x7.getD i12.2 default).part))) true (.p (bG (i12.2:Int) x7.length))) (.aq (.wh ((((((x6.getD i9 default).aF) == ((x7.getD i12.2 default).aF))&&(((x6.getD i9 default).ak) == ((x7.getD i12.2 default).ak)))&&(((x6.getD i9 default).part) == ((x7.getD i12.2 default).part)))&&(((x6.getD i9 default).sign) == ((x7.getD i12.2 default).sign))) true (.p (bG (i9:Int) x6.length))) (.wh ((((((x6.getD i9 default).aF) == ((x7.getD i12.2 default).aF))&&(((x6.getD i9 default).ak) == ((x7.getD i12.2 default).ak)))&&(((x6.getD i9 default).part) == ((x7.getD i12.2 default).part)))&&(((x6.getD i9 default).sign) == ((x7.getD i12.2 default).sign))) true (.p (bG (i12.2:Int) x7.length)))))))))))) fun _ =>
 .r 21 (.aq (.wh i12.1 false (.wh (((((((x6.getD i9 default).aF) == ((x7.getD i12.2 default).aF))&&(((x6.getD i9 default).ak) == ((x7.getD i12.2 default).ak)))&&(((x6.getD i9 default).part) == ((x7.getD i12.2 default).part)))&&(((x6.getD i9 default).sign) == ((x7.getD i12.2 default).sign)))&&(((x6.getD i9 default).cz) == ((x7.getD i12.2 default).cz))) true (.p (bG (i12.2:Int) x7.length)))) (.aq (.wh i12.1 false (.wh ((((((((x6.getD i9 default).aF) == ((x7.getD i12.2 default).aF))&&(((x6.getD i9 default).ak) == ((x7.getD i12.2 default).ak)))&&(((x6.getD i9 default).part) == ((x7.getD i12.2 default).part)))&&(((x6.getD i9 default).sign) == ((x7.getD i12.2 default).sign)))&&(((x6.getD i9 default).cz) == ((x7.getD i12.2 default).cz)))&&(((x7.getD i12.2 default).state) == 1)) true (.p (bG (i12.2:Int) x7.length)))) (.wh i12.1 false (.wh ((((((((x6.getD i9 default).aF) == ((x7.getD i12.2 default).aF))&&(((x6.getD i9 default).ak) == ((x7.getD i12.2 default).ak)))&&(((x6.getD i9 default).part) == ((x7.getD i12.2 default).part)))&&(((x6.getD i9 default).sign) == ((x7.getD i12.2 default).sign)))&&(((x6.getD i9 default).cz) == ((x7.getD i12.2 default).cz)))&&(((x7.getD i12.2 default).state) == 1)) true (.p (bG (i9:Int) x6.length)))))) fun _ =>
 .r 19 .z fun _ =>
 .wi 19 (au ((i12.2:Int)+1)) ((i12.2+1:Nat):Int) <|
 .fin (.inr (i12.1||(((((((((x6.getD i9 default).aF) == ((x7.getD i12.2 default).aF))&&(((x6.getD i9 default).ak) == ((x7.getD i12.2 default).ak)))&&(((x6.getD i9 default).part) == ((x7.getD i12.2 default).part)))&&(((x6.getD i9 default).sign) == ((x7.getD i12.2 default).sign)))&&(((x6.getD i9 default).cz) == ((x7.getD i12.2 default).cz)))&&(((x7.getD i12.2 default).state) == 1))&&(decide (((x7.getD i12.2 default).sum)≥((x6.getD i9 default).sum)))),i12.2+1)))
 (.fin (.inl (.inr (i12.1,(i12.2:Int))))))
 (fun (UR:Bool × Int)=>⟨[(18,bv UR.1),(19,iv UR.2)],[]⟩) fun UR =>
 .br (!UR.1)
 (.fin (.inl (.inl (.inl false))))
 (.fin (.inr ())))
 (fun (_:Unit)=>⟨[],[]⟩) fun _ =>
 .nx 15 17 i9 (i9+1))
 (.fin (.inl (.inr ()))))
 (fun (_:Unit)=>⟨[],[]⟩) fun _ =>
 .bt
 (.loop (default:Sum (Bool) (Unit)) (fun i14=>i14≤x7.length) (fun i14=>x7.length - i14) (0:Nat)
 (fun (i14:Nat)=>⟨[(21,iv (i14:Int))],[]⟩) fun i14 =>
 .lt 16 0 i14 x7.length
 (.bt
 (.bind true (fun b16=>(∃ q,q < x6.length∧dw (x6.getD q default) (x7.getD i14 default))→b16.1=true)
 (.loop (default:Sum (Sum (Sum (Sum (Bool) (Unit)) (Nat)) (Unit)) (Bool × Int)) (fun i17=>i17.2≤x6.length∧((∃ q,q < i17.2∧dw (x6.getD q default) (x7.getD i14 default))→i17.1=true)) (fun i17=>x6.length - i17.2) ((false,0):Bool × Nat)
 (fun (i17:Bool × Nat)=>⟨[(22,bv i17.1),(23,iv (i17.2:Int))],[]⟩) fun i17 =>
 .lt 15 0 i17.2 x6.length
 (.r 31 (.aq (.wh i17.1 false (.p (bG (i17.2:Int) x6.length))) (.aq (.wh i17.1 false (.p (bG (i14:Int) x7.length))) (.aq (.wh i17.1 false (.wh (((x6.getD i17.2 default).aF) == ((x7.getD i14 default).aF)) true (.p (bG (i17.2:Int) x6.length)))) (.aq (.wh i17.1 false (.wh (((x6.getD i17.2 default).aF) == ((x7.getD i14 default).aF)) true (.p (bG (i14:Int) x7.length)))) (.aq (.wh i17.1 false (.wh ((((x6.getD i17.2 default).aF) == ((x7.getD i14 default).aF))&&(((x6.getD i17.2 default).ak) == ((x7.getD i14 default).ak))) true (.p (bG (i17.2:Int) x6.length)))) (.aq (.wh i17.1 false (.wh ((((x6.getD i17.2 default).aF) == ((x7.getD i14 default).aF))&&(((x6.getD i17.2 default).ak) == ((x7.getD i14 default).ak))) true (.p (bG (i14:Int) x7.length)))) (.aq (.wh i17.1 false (.wh (((((x6.getD i17.2 default).aF) == ((x7.getD i14 default).aF))&&(((x6.getD i17.2 default).ak) == ((x7.getD i14 default).ak)))&&(((x6.getD i17.2 default).part) == ((x7.getD i14 default).part))) true (.p (bG (i17.2:Int) x6.length)))) (.aq (.wh i17.1 false (.wh (((((x6.getD i17.2 default).aF) == ((x7.getD i14 default).aF))&&(((x6.getD i17.2 default).ak) == ((x7.getD i14 default).ak)))&&(((x6.getD i17.2 default).part) == ((x7.getD i14 default).part))) true (.p (bG (i14:Int) x7.length)))) (.aq (.wh i17.1 false (.wh ((((((x6.getD i17.2 default).aF) == ((x7.getD i14 default).aF))&&(((x6.getD i17.2 default).ak) == ((x7.getD i14 default).ak)))&&(((x6.getD i17.2 default).part) == ((x7.getD i14 default).part)))&&(((x6.getD i17.2 default).sign) == ((x7.getD i14 default).sign))) true (.p (bG (i17.2:Int) x6.length)))) (.wh i17.1 false (.wh ((((((x6.getD i17.2 default).aF) == ((x7.getD i14 default).aF))&&(((x6.getD i17.2 default).ak) == ((x7.getD i14 default).ak)))&&(((x6.getD i17.2 default).part) == ((x7.getD i14 default).part)))&&(((x6.getD i17.2 default).sign) == ((x7.getD i14 default).sign))) true (.p (bG (i14:Int) x7.length))))))))))))) fun _ =>
 .r 30 .z fun _ =>
 .wi 23 (au ((i17.2:Int)+1)) ((i17.2+1:Nat):Int) <|
 .fin (.inr (i17.1||(((((((x6.getD i17.2 default).aF) == ((x7.getD i14 default).aF))&&(((x6.getD i17.2 default).ak) == ((x7.getD i14 default).ak)))&&(((x6.getD i17.2 default).part) == ((x7.getD i14 default).part)))&&(((x6.getD i17.2 default).sign) == ((x7.getD i14 default).sign)))&&(((x6.getD i17.2 default).cz) == ((x7.getD i14 default).cz))),i17.2+1)))
 (.fin (.inl (.inr (i17.1,(i17.2:Int))))))
 (fun (b16:Bool × Int)=>⟨[(22,bv b16.1),(23,iv b16.2)],[]⟩) fun b16 =>
 .br (!b16.1)
 (.fin (.inl (.inl (.inl false))))
 (.fin (.inr ())))
 (fun (_:Unit)=>⟨[],[]⟩) fun _ =>
 .nx 26 21 i14 (i14+1))
 (.fin (.inl (.inr ()))))
 (fun (_:Unit)=>⟨[],[]⟩) fun _ =>
 .fin x1)
def qa r forum f day facts:=(kV r forum f day facts).val
theorem wI (r:ah) (forum:Int) (f:al) (day:Int) (facts:List Fact):(kV r forum f day facts).cZ (fun (x:Bool)=>x=true):=by
 refine Sk.bp _ ?_
 unfold kV
 simp only [Sk.cU,Sk.aO,reduceCtorEq,ON,kk,kp,Eb,yR,Bt,s6,maxLen]
 intro x1 _ JP x2 Yy XO
 refine ⟨fun _=>JP,fun hc=>⟨⟨⟨Nat.zero_le _,Jw.refl f,Nat.le_refl _⟩,fun i hi=>⟨fun eC _=>⟨fun _ x hx _=>⟨⟨by simp only [LN] at eC; omega,by rw [hx]; exact hi.2.1.step _,?_⟩,by simp only [LN] at eC; omega⟩,fun _ _=>⟨⟨by simp only [LN] at eC; omega,hi.2.1,by omega⟩,by simp only [LN] at eC; omega⟩⟩,fun XT=>?_⟩⟩,fun b hb x6 h6 hP6 x7 h7 hP7=>?_⟩⟩
 ·have:=Qw i.2 (facts.getD i.1 default)
  rw [hx]
  omega
 ·have e:i.1=facts.length:=by simp only [LN] at XT; omega
  rw [e] at hi
  exact hi.2
 simp only [LN] at hc
 obtain ⟨L4,DK⟩:=hc
 have hR:=XO L4
 have XU:=LU (r:=r) (f:=f) (by rw [← Yy]; exact L4)
 have TW:cm r b:=hb.1.right hR.2.2.2.2.2 (by omega)
 obtain ⟨⟨F,rfl,hm⟩,-⟩:=hb
 obtain ⟨G1,G2,G3⟩:=Vn (forum:=forum) (day:=day) hm hR.2.2.2.2.2 TW hR.2.2.2.2.1
 rw [← h6] at G1 G3
 rw [← h7] at G2 G3
 clear h6 h7 hP6 hP7 hm TW XO Yy hR
 have XP:∀ {p:Nat→Prop} {n:Nat},(∃ q,q < n+1∧p q)→¬ p n→∃ q,q < n∧p q:=fun ⟨q,h1,h2⟩ hn=>⟨q,by rcases Nat.lt_succ_iff_lt_or_eq.1 h1 with h | rfl; exact h; exact absurd h2 hn,h2⟩
 refine ⟨⟨Nat.zero_le _,fun i hi eC=>⟨fun _=>⟨⟨⟨Nat.zero_le _,fun h=>?_⟩,fun j hj=>⟨fun DH _ _ _=>⟨⟨by simp only [LN] at DH; omega,fun h=>?_⟩,by simp only [LN] at DH; omega⟩,fun DH h=>?_⟩⟩,fun b2 wK hf=>?_⟩,fun b2 _ _=>?_⟩⟩,?_⟩
 ·rcases h with h | ⟨q,h,-⟩
  ·simpa using h
  ·exact absurd h (by omega)
 ·rw [Bool.or_eq_true]
  by_cases hh:Vo (x6.getD i default) (x7.getD j.2 default)
  ·exact .inr (T3.2 hh)
  ·left
   refine hj.2 ?_
   rcases h with h | h
   ·exact .inl h
   ·exact .inr (XP h hh)
 ·have e:j.2=x7.length:=by simp only [LN] at DH; omega
  rw [← e] at h
  exact hj.2 h
 ·have hil:i < x6.length:=by simp only [LN] at eC; omega
  have:b2.1=true:=wK (by
   by_cases h1:(x6.getD i default).state=1
   ·exact .inr (XM G1 G3 hil h1)
   ·exact .inl h1)
  rw [this] at hf
  cases hf
 ·simp only [LN] at eC
  exact ⟨by omega,by omega⟩
 refine fun _=>⟨⟨Nat.zero_le _,fun i hi eC=>⟨⟨⟨⟨Nat.zero_le _,fun h=>?_⟩,fun j hj=>⟨fun DH _ _=>⟨⟨by simp only [LN] at DH; omega,fun h=>?_⟩,by simp only [LN] at DH; omega⟩,fun DH h=>?_⟩⟩,fun b2 wK hf=>?_⟩,fun b2 _ _=>?_⟩⟩,fun _=>JP⟩
 ·obtain ⟨q,h,-⟩:=h
  exact absurd h (by omega)
 ·rw [Bool.or_eq_true]
  by_cases hh:dw (x6.getD j.2 default) (x7.getD i default)
  ·exact .inr (JL.2 hh)
  ·exact .inl (hj.2 (XP h hh))
 ·have e:j.2=x6.length:=by simp only [LN] at DH; omega
  rw [← e] at h
  exact hj.2 h
 ·have hil:i < x7.length:=by simp only [LN] at eC; omega
  have:b2.1=true:=wK (XN G2 G3 hil)
  rw [this] at hf
  cases hf
 ·simp only [LN] at eC
  exact ⟨by omega,by omega⟩
theorem DA (r:ah) (forum:Int) (f:al) (day:Int) (facts:List Fact):(fun (x:Bool)=>x=true) (qa r forum f day facts):=have h:=Sk.de _ (wI r forum f day facts); h
theorem Gp (r:ah) (forum:Int) (f:al) (day:Int) (facts:List Fact):(kV r forum f day facts).bz (fun _=>True):=by
 refine Sk.aX _ ?_
 unfold kV
 simp only [Sk.km,Sk.aO,reduceCtorEq,ON,kk,kp,Eb,yR,Bt,s6,maxLen]
 intro x1 _ JP x2 Yy XO hc
 simp only [LN] at hc
 obtain ⟨L4,DK⟩:=hc
 have hR:=XO L4
 have XU:=LU (r:=r) (f:=f) (by rw [← Yy]; exact L4)
 have wn:∀ {i n:Nat},i < n→n≤2 ^ 63 - 1→au ((i:Int)+1)=((i+1:Nat):Int):=fun h h2=>(aG (by omega) (by omega)).trans (by omega)
 have nl:∀ {i n:Nat},decide ((i:Int) < (n:Int))=true→i < n:=fun h=>by simp only [LN] at h; omega
 have ng:∀ {i n:Nat},decide ((i:Int) < (n:Int))=false→i≤n→i=n:=fun h h2=>by simp only [LN] at h; omega
 refine ⟨⟨⟨Nat.zero_le _,Jw.refl f,Nat.le_refl _⟩,fun i hi Vt=>⟨fun eC=>?_,fun XT=>?_⟩⟩,fun b hb=>?_⟩
 ·have eC:=nl eC
  refine ⟨by omega,fun _=>⟨fun _=>⟨by omega,fun x hx _=>⟨wn eC Vt,⟨by omega,by rw [hx]; exact hi.2.1.step _,?_⟩,by omega⟩⟩,fun _ _=>⟨wn eC Vt,⟨by omega,hi.2.1,by omega⟩,by omega⟩⟩⟩
  have:=Qw i.2 (facts.getD i.1 default)
  rw [hx]
  omega
 ·rw [ng XT hi.1] at hi
  exact hi.2
 have TW:cm r b:=hb.1.right hR.2.2.2.2.2 (by omega)
 have hS:f.Small:=hR.2.2.2.2.2.small
 have hS2:b.Small:=TW.small
 refine ⟨⟨hR.2.2.2.2.2,hS,hR.2.1,hR.1,hR.2.2.2.1,hR.2.2.2.2.1⟩,fun x6 h6 _=>⟨⟨TW,hS2,hR.2.1,hR.1,hR.2.2.2.1,hR.2.2.2.2.1⟩,fun x7 h7 _=>?_⟩⟩
 clear TW XO Yy hR h6 h7
 have XP:∀ {p:Nat→Prop} {n:Nat},(∃ q,q < n+1∧p q)→¬ p n→∃ q,q < n∧p q:=fun ⟨q,h1,h2⟩ hn=>⟨q,by rcases Nat.lt_succ_iff_lt_or_eq.1 h1 with h | rfl; exact h; exact absurd h2 hn,h2⟩
 refine ⟨⟨Nat.zero_le _,fun i hi hm6 eC=>?_⟩,?_⟩
 ·have eC:=nl eC
  refine ⟨⟨by omega,fun _=>⟨⟨Nat.zero_le _,fun h=>?_⟩,fun j hj hm7=>⟨fun DH=>?_,fun DH h=>?_⟩⟩⟩,fun b2 _ _=>⟨wn eC hm6,by omega,by omega⟩⟩
  ·rcases h with h | ⟨q,h,-⟩
   ·simpa using h
   ·exact absurd h (by omega)
  ·have DH:=nl DH
   refine ⟨by (repeat' first | apply And.intro | intro _) <;> omega,fun _=>⟨by (repeat' first | apply And.intro | intro _) <;> omega,fun _ _=>⟨wn DH hm7,⟨by omega,fun h=>?_⟩,by omega⟩⟩⟩
   rw [Bool.or_eq_true]
   by_cases hh:Vo (x6.getD i default) (x7.getD j.2 default)
   ·exact .inr (T3.2 hh)
   ·left
    refine hj.2 ?_
    rcases h with h | h
    ·exact .inl h
    ·exact .inr (XP h hh)
  ·have e:=ng DH hj.1
   rw [← e] at h
   exact hj.2 h
 ·refine fun _=>⟨Nat.zero_le _,fun i hi hm7 eC=>?_⟩
  have eC:=nl eC
  refine ⟨⟨⟨Nat.zero_le _,fun h=>?_⟩,fun j hj hm6=>⟨fun DH=>?_,fun DH h=>?_⟩⟩,fun b2 _ _=>⟨wn eC hm7,by omega,by omega⟩⟩
  ·obtain ⟨q,h,-⟩:=h
   exact absurd h (by omega)
  ·have DH:=nl DH
   refine ⟨by (repeat' first | apply And.intro | intro _) <;> omega,fun _ _=>⟨wn DH hm6,⟨by omega,fun h=>?_⟩,by omega⟩⟩
   rw [Bool.or_eq_true]
   by_cases hh:dw (x6.getD j.2 default) (x7.getD i default)
   ·exact .inr (JL.2 hh)
   ·exact .inl (hj.2 (XP h hh))
  ·have e:=ng DH hj.1
   rw [← e] at h
   exact hj.2 h
def JM r forum f day facts:=kp tok mixed Tryz.func3 [av r.cells,iv forum,av f.cells,iv day,lv Fact.cells facts] (fun x=>bv x) true (qa r forum f day facts) (u0 (Gp r forum f day facts)) (wI r forum f day facts)
theorem Gq (r:ah) (forum:Int) (f:al) (day:Int) (facts:List Fact):gr Tryz.prog 3 [av r.cells,iv forum,av f.cells,iv day,lv Fact.cells facts] [] (bv (qa r forum f day facts)) []:=(JM r forum f day facts).pf trivial
theorem NG {ds:List D} (h:dN TT 9 ds):∃ c:ByteArray,aL ds (jz c)∧(fun s:ByteArray=>s.size≤maxLen) c:=by
 obtain ⟨x,rfl,w⟩:=h.YB rfl rfl
 exact ⟨x,aL.refl _,w⟩
theorem aa6 {ds:List D} (h:dN TT 22 ds):∃ l:List ByteArray,aL ds [mV jz l]∧(fun l=>∀ x,x∈l→(fun s:ByteArray=>s.size≤maxLen) x) l:=by
 obtain ⟨n,f,rfl,g⟩:=h.fm rfl rfl
 obtain ⟨l,y,-,w⟩:=jL jz (fun s:ByteArray=>s.size≤maxLen) (fun ds h=>NG h) g
 exact ⟨l,aL.one y,w⟩
theorem bS {ds:List D} (h:dN TT 3 ds):∃ c:Int,aL ds (bU c)∧(fun n=>dW n) c:=by
 obtain ⟨x,rfl,w⟩:=h.Cm rfl rfl
 exact ⟨x,aL.refl _,YC w⟩
theorem SM {ds:List D} (h:dN TT 64 ds):∃ l:List Int,aL ds [mV bU l]∧(fun l=>∀ x,x∈l→(fun n=>dW n) x) l:=by
 obtain ⟨n,f,rfl,g⟩:=h.fm rfl rfl
 obtain ⟨l,y,-,w⟩:=jL bU (fun n=>dW n) (fun ds h=>bS h) g
 exact ⟨l,aL.one y,w⟩
structure jA.ok (c:jA):Prop where
 name:(fun s:ByteArray=>s.size≤maxLen) c.name
 order:(fun n=>dW n) c.order
 az:(fun n=>dW n) c.az
 rest:(fun l=>∀ x,x∈l→(fun n=>dW n) x) c.rest
 fO:(fun l=>∀ x,x∈l→(fun n=>dW n) x) c.fO
 shut:(fun l=>∀ x,x∈l→(fun n=>dW n) x) c.shut
theorem jA.of {ds:List D} (h:dN TT 159 ds):∃ c:jA,aL ds c.cells∧c.ok:=by
 have q0:=h.dg rfl rfl
 obtain ⟨p0,r0,rfl,h0,q1⟩:=q0.cons_inv
 obtain ⟨x0,y0,w0⟩:=NG h0
 obtain ⟨p1,r1,rfl,h1,q2⟩:=q1.cons_inv
 obtain ⟨x1,y1,w1⟩:=bS h1
 obtain ⟨p2,r2,rfl,h2,q3⟩:=q2.cons_inv
 obtain ⟨x2,y2,w2⟩:=bS h2
 obtain ⟨p3,r3,rfl,h3,q4⟩:=q3.cons_inv
 obtain ⟨x3,y3,w3⟩:=SM h3
 obtain ⟨p4,r4,rfl,h4,q5⟩:=q4.cons_inv
 obtain ⟨x4,y4,w4⟩:=SM h4
 obtain ⟨p5,r5,rfl,h5,q6⟩:=q5.cons_inv
 obtain ⟨x5,y5,w5⟩:=SM h5
 cases q6.iW
 refine ⟨⟨x0,x1,x2,x3,x4,x5⟩,?_,⟨w0,w1,w2,w3,w4,w5⟩⟩
 have hh:=(aL.append y0 (aL.append y1 (aL.append y2 (aL.append y3 (aL.append y4 (aL.append y5 aL.nil))))))
 simpa only [jA.cells,bU,jz,qe,List.append_assoc,List.cons_append,List.nil_append,List.append_nil] using hh
theorem aa7 {ds:List D} (h:dN TT 23 ds):∃ l:List jA,aL ds [mV jA.cells l]∧(fun l=>∀ x,x∈l→jA.ok x) l:=by
 obtain ⟨n,f,rfl,g⟩:=h.fm rfl rfl
 obtain ⟨l,y,-,w⟩:=jL jA.cells jA.ok (fun ds h=>jA.of h) g
 exact ⟨l,aL.one y,w⟩
structure mY.ok (c:mY):Prop where
 Pt:(fun n=>dW n) c.Pt
theorem mY.of {ds:List D} (h:dN TT 169 ds):∃ c:mY,aL ds c.cells∧c.ok:=by
 have q0:=h.dg rfl rfl
 obtain ⟨p0,r0,rfl,h0,q1⟩:=q0.cons_inv
 obtain ⟨x0,y0,w0⟩:=bS h0
 cases q1.iW
 refine ⟨⟨x0⟩,?_,⟨w0⟩⟩
 have hh:=(aL.append y0 aL.nil)
 simpa only [mY.cells,bU,jz,qe,List.append_assoc,List.cons_append,List.nil_append,List.append_nil] using hh
theorem aa8 {ds:List D} (h:dN TT 24 ds):∃ l:List mY,aL ds [mV mY.cells l]∧(fun l=>∀ x,x∈l→mY.ok x) l:=by
 obtain ⟨n,f,rfl,g⟩:=h.fm rfl rfl
 obtain ⟨l,y,-,w⟩:=jL mY.cells mY.ok (fun ds h=>mY.of h) g
 exact ⟨l,aL.one y,w⟩
structure Aw.ok (c:Aw):Prop where
 name:(fun s:ByteArray=>s.size≤maxLen) c.name
 bZ:(fun n=>dW n) c.bZ
 group:(fun n=>dW n) c.group
theorem Aw.of {ds:List D} (h:dN TT 171 ds):∃ c:Aw,aL ds c.cells∧c.ok:=by
 have q0:=h.dg rfl rfl
 obtain ⟨p0,r0,rfl,h0,q1⟩:=q0.cons_inv
 obtain ⟨x0,y0,w0⟩:=NG h0
 obtain ⟨p1,r1,rfl,h1,q2⟩:=q1.cons_inv
 obtain ⟨x1,y1,w1⟩:=bS h1
 obtain ⟨p2,r2,rfl,h2,q3⟩:=q2.cons_inv
 obtain ⟨x2,y2,w2⟩:=bS h2
 cases q3.iW
 refine ⟨⟨x0,x1,x2⟩,?_,⟨w0,w1,w2⟩⟩
 have hh:=(aL.append y0 (aL.append y1 (aL.append y2 aL.nil)))
 simpa only [Aw.cells,bU,jz,qe,List.append_assoc,List.cons_append,List.nil_append,List.append_nil] using hh
theorem aa9 {ds:List D} (h:dN TT 25 ds):∃ l:List Aw,aL ds [mV Aw.cells l]∧(fun l=>∀ x,x∈l→Aw.ok x) l:=by
 obtain ⟨n,f,rfl,g⟩:=h.fm rfl rfl
 obtain ⟨l,y,-,w⟩:=jL Aw.cells Aw.ok (fun ds h=>Aw.of h) g
 exact ⟨l,aL.one y,w⟩
theorem T4 {ds:List D} (h:dN TT 4 ds):∃ c:Bool,aL ds (qe c)∧True:=by
 obtain ⟨x,rfl⟩:=h.Wq rfl rfl
 exact ⟨x,aL.refl _,trivial⟩
structure Choice.ok (c:Choice):Prop where
 ask:(fun n=>dW n) c.ask
 cz:(fun n=>dW n) c.cz
 whole:(fun _=>True) c.whole
theorem Choice.of {ds:List D} (h:dN TT 234 ds):∃ c:Choice,aL ds c.cells∧c.ok:=by
 have q0:=h.dg rfl rfl
 obtain ⟨p0,r0,rfl,h0,q1⟩:=q0.cons_inv
 obtain ⟨x0,y0,w0⟩:=bS h0
 obtain ⟨p1,r1,rfl,h1,q2⟩:=q1.cons_inv
 obtain ⟨x1,y1,w1⟩:=bS h1
 obtain ⟨p2,r2,rfl,h2,q3⟩:=q2.cons_inv
 obtain ⟨x2,y2,w2⟩:=T4 h2
 cases q3.iW
 refine ⟨⟨x0,x1,x2⟩,?_,⟨w0,w1,w2⟩⟩
 have hh:=(aL.append y0 (aL.append y1 (aL.append y2 aL.nil)))
 simpa only [Choice.cells,bU,jz,qe,List.append_assoc,List.cons_append,List.nil_append,List.append_nil] using hh
theorem Zl {ds:List D} (h:dN TT 108 ds):∃ l:List Choice,aL ds [mV Choice.cells l]∧(fun l=>∀ x,x∈l→Choice.ok x) l:=by
 obtain ⟨n,f,rfl,g⟩:=h.fm rfl rfl
 obtain ⟨l,y,-,w⟩:=jL Choice.cells Choice.ok (fun ds h=>Choice.of h) g
 exact ⟨l,aL.one y,w⟩
theorem Term.Zm {t:Nat} {ds:List D} (h:dN TT t ds):(t=163→∃ c:Term,aL ds c.kz)∧(t=161→∃ l:List Term,aL ds [mV Term.kz l]):=by
 refine dN.rec (motive_1:=fun t ds _=>(t=163→∃ c:Term,aL ds c.kz)∧(t=161→∃ l:List Term,aL ds [mV Term.kz l]))
  (motive_2:=fun ts ds _=>(ts=[]→ds=[])∧(ts=[161]→∃ l:List Term,aL ds [mV Term.kz l])∧(ts=[3,161]→∃ (n:Int) (l:List Term),aL ds [dI n,mV Term.kz l])∧(ts=[3,3,161]→∃ (m n:Int) (l:List Term),aL ds [dI m,dI n,mV Term.kz l])) ?_ ?_ ?_ ?_ ?_ ?_ ?_ h
 ·intro t i k hi hk n hw
  exact ⟨fun e=>(by subst e; cases hi; cases hk),fun e=>(by subst e; cases hi; cases hk)⟩
 ·intro t i hi hk b
  exact ⟨fun e=>(by subst e; cases hi; cases hk),fun e=>(by subst e; cases hi; cases hk)⟩
 ·intro t i hi hk s hw
  exact ⟨fun e=>(by subst e; cases hi; cases hk),fun e=>(by subst e; cases hi; cases hk)⟩
 ·intro t e i hi hk n f hh ih
  refine ⟨fun e=>(by subst e; cases hi; cases hk),fun e=>?_⟩
  subst e
  cases hi
  cases hk
  classical
  let g:Nat→Term:=fun j=>if hj:j < n then ((ih j hj).1 rfl).choose else default
  have hg:∀ j,j < n→aL (f j) (g j).kz:=fun j hj=>by
   simp only [g,hj,dif_pos]
   exact ((ih j hj).1 rfl).choose_spec
  refine ⟨(List.range n).map g,aL.one ?_⟩
  have e:mV Term.kz ((List.range n).map g)=.sl n fun i=>Term.kz (((List.range n).map g).getD i default):=by simp [mV]
  rw [e]
  refine rT.ZE fun i hi=>?_
  have:((List.range n).map g).getD i default=g i:=by simp [List.getD,hi]
  rw [this]
  exact hg i hi
 ·intro t i fs hi hk ds hs ih
  refine ⟨fun e=>?_,fun e=>(by subst e; cases hi; cases hk)⟩
  subst e
  cases hi
  cases hk
  obtain ⟨m,n,l,hl⟩:=ih.2.2.2 rfl
  refine ⟨⟨m,n,l⟩,?_⟩
  have h2:=(Term.Pv ⟨m,n,l⟩).2
  have:aL [dI m,dI n,mV Term.kz l] (Term.kz ⟨m,n,l⟩):=aL.cons rT.rfl' (aL.cons rT.rfl' (aL.one h2))
  exact ⟨hl.1.trans this.1,fun j hj=>(hl.2 j hj).trans (this.2 j (by rw [← hl.1]; exact hj))⟩
 ·exact ⟨fun _=>rfl,fun e=>(by cases e),fun e=>(by cases e),fun e=>(by cases e)⟩
 ·intro t ts p ds hp hs ih1 ih2
  refine ⟨fun e=>(by cases e),fun e=>?_,fun e=>?_,fun e=>?_⟩
  ·cases e
   obtain ⟨l,hl⟩:=ih1.2 rfl
   have:=ih2.1 rfl
   subst this
   exact ⟨l,by simpa using hl⟩
  ·cases e
   obtain ⟨x,rfl,w⟩:=hp.Cm rfl rfl
   obtain ⟨l,hl⟩:=ih2.2.1 rfl
   exact ⟨x,l,aL.append (aL.refl _) hl⟩
  ·cases e
   obtain ⟨x,rfl,w⟩:=hp.Cm rfl rfl
   obtain ⟨n,l,hl⟩:=ih2.2.2.1 rfl
   exact ⟨x,n,l,aL.append (aL.refl _) hl⟩
theorem Term.ofR {ds:List D} (h:dN TT 163 ds):∃ c:Term,aL ds c.kz∧True:=by
 obtain ⟨c,hc⟩:=(Term.Zm h).1 rfl
 exact ⟨c,hc,trivial⟩
theorem Term.of {ds:List D} (h:dN TT 163 ds):∃ c:Term,aL ds c.cells∧True:=by
 obtain ⟨c,hc,_⟩:=Term.ofR h
 have hu:=c.HP
 exact ⟨c,⟨hc.1.trans hu.1,fun j hj=>(hc.2 j hj).trans (hu.2 j (by rw [← hc.1]; exact hj))⟩,trivial⟩
structure tJ.ok (c:tJ):Prop where
 ask:(fun n=>dW n) c.ask
 term:(fun _=>True) c.term
theorem tJ.of {ds:List D} (h:dN TT 165 ds):∃ c:tJ,aL ds c.cells∧c.ok:=by
 have q0:=h.dg rfl rfl
 obtain ⟨p0,r0,rfl,h0,q1⟩:=q0.cons_inv
 obtain ⟨x0,y0,w0⟩:=bS h0
 obtain ⟨p1,r1,rfl,h1,q2⟩:=q1.cons_inv
 obtain ⟨x1,y1,w1⟩:=Term.of h1
 cases q2.iW
 refine ⟨⟨x0,x1⟩,?_,⟨w0,w1⟩⟩
 have hh:=(aL.append y0 (aL.append y1 aL.nil))
 simpa only [tJ.cells,bU,jz,qe,List.append_assoc,List.cons_append,List.nil_append,List.append_nil] using hh
theorem Zn {ds:List D} (h:dN TT 109 ds):∃ l:List tJ,aL ds [mV tJ.cells l]∧(fun l=>∀ x,x∈l→tJ.ok x) l:=by
 obtain ⟨n,f,rfl,g⟩:=h.fm rfl rfl
 obtain ⟨l,y,-,w⟩:=jL tJ.cells tJ.ok (fun ds h=>tJ.of h) g
 exact ⟨l,aL.one y,w⟩
structure Order.ok (c:Order):Prop where
 name:(fun s:ByteArray=>s.size≤maxLen) c.name
 GH:(fun _=>True) c.GH
 aV:(fun l=>∀ x,x∈l→Choice.ok x) c.aV
 rules:(fun l=>∀ x,x∈l→tJ.ok x) c.rules
theorem Order.of {ds:List D} (h:dN TT 111 ds):∃ c:Order,aL ds c.cells∧c.ok:=by
 have q0:=h.dg rfl rfl
 obtain ⟨p0,r0,rfl,h0,q1⟩:=q0.cons_inv
 obtain ⟨x0,y0,w0⟩:=NG h0
 obtain ⟨p1,r1,rfl,h1,q2⟩:=q1.cons_inv
 obtain ⟨x1,y1,w1⟩:=T4 h1
 obtain ⟨p2,r2,rfl,h2,q3⟩:=q2.cons_inv
 obtain ⟨x2,y2,w2⟩:=Zl h2
 obtain ⟨p3,r3,rfl,h3,q4⟩:=q3.cons_inv
 obtain ⟨x3,y3,w3⟩:=Zn h3
 cases q4.iW
 refine ⟨⟨x0,x1,x2,x3⟩,?_,⟨w0,w1,w2,w3⟩⟩
 have hh:=(aL.append y0 (aL.append y1 (aL.append y2 (aL.append y3 aL.nil))))
 simpa only [Order.cells,bU,jz,qe,List.append_assoc,List.cons_append,List.nil_append,List.append_nil] using hh
theorem aba {ds:List D} (h:dN TT 26 ds):∃ l:List Order,aL ds [mV Order.cells l]∧(fun l=>∀ x,x∈l→Order.ok x) l:=by
 obtain ⟨n,f,rfl,g⟩:=h.fm rfl rfl
 obtain ⟨l,y,-,w⟩:=jL Order.cells Order.ok (fun ds h=>Order.of h) g
 exact ⟨l,aL.one y,w⟩
structure dC.ok (c:dC):Prop where
 from_:(fun n=>dW n) c.from_
 cj:(fun n=>dW n) c.cj
 days:(fun n=>dW n) c.days
theorem dC.of {ds:List D} (h:dN TT 173 ds):∃ c:dC,aL ds c.cells∧c.ok:=by
 have q0:=h.dg rfl rfl
 obtain ⟨p0,r0,rfl,h0,q1⟩:=q0.cons_inv
 obtain ⟨x0,y0,w0⟩:=bS h0
 obtain ⟨p1,r1,rfl,h1,q2⟩:=q1.cons_inv
 obtain ⟨x1,y1,w1⟩:=bS h1
 obtain ⟨p2,r2,rfl,h2,q3⟩:=q2.cons_inv
 obtain ⟨x2,y2,w2⟩:=bS h2
 cases q3.iW
 refine ⟨⟨x0,x1,x2⟩,?_,⟨w0,w1,w2⟩⟩
 have hh:=(aL.append y0 (aL.append y1 (aL.append y2 aL.nil)))
 simpa only [dC.cells,bU,jz,qe,List.append_assoc,List.cons_append,List.nil_append,List.append_nil] using hh
theorem abb {ds:List D} (h:dN TT 27 ds):∃ l:List dC,aL ds [mV dC.cells l]∧(fun l=>∀ x,x∈l→dC.ok x) l:=by
 obtain ⟨n,f,rfl,g⟩:=h.fm rfl rfl
 obtain ⟨l,y,-,w⟩:=jL dC.cells dC.ok (fun ds h=>dC.of h) g
 exact ⟨l,aL.one y,w⟩
structure oI.ok (c:oI):Prop where
 from_:(fun n=>dW n) c.from_
 cj:(fun n=>dW n) c.cj
 num:(fun n=>dW n) c.num
 den:(fun n=>dW n) c.den
 since:(fun n=>dW n) c.since
theorem oI.of {ds:List D} (h:dN TT 175 ds):∃ c:oI,aL ds c.cells∧c.ok:=by
 have q0:=h.dg rfl rfl
 obtain ⟨p0,r0,rfl,h0,q1⟩:=q0.cons_inv
 obtain ⟨x0,y0,w0⟩:=bS h0
 obtain ⟨p1,r1,rfl,h1,q2⟩:=q1.cons_inv
 obtain ⟨x1,y1,w1⟩:=bS h1
 obtain ⟨p2,r2,rfl,h2,q3⟩:=q2.cons_inv
 obtain ⟨x2,y2,w2⟩:=bS h2
 obtain ⟨p3,r3,rfl,h3,q4⟩:=q3.cons_inv
 obtain ⟨x3,y3,w3⟩:=bS h3
 obtain ⟨p4,r4,rfl,h4,q5⟩:=q4.cons_inv
 obtain ⟨x4,y4,w4⟩:=bS h4
 cases q5.iW
 refine ⟨⟨x0,x1,x2,x3,x4⟩,?_,⟨w0,w1,w2,w3,w4⟩⟩
 have hh:=(aL.append y0 (aL.append y1 (aL.append y2 (aL.append y3 (aL.append y4 aL.nil)))))
 simpa only [oI.cells,bU,jz,qe,List.append_assoc,List.cons_append,List.nil_append,List.append_nil] using hh
theorem abc {ds:List D} (h:dN TT 28 ds):∃ l:List oI,aL ds [mV oI.cells l]∧(fun l=>∀ x,x∈l→oI.ok x) l:=by
 obtain ⟨n,f,rfl,g⟩:=h.fm rfl rfl
 obtain ⟨l,y,-,w⟩:=jL oI.cells oI.ok (fun ds h=>oI.of h) g
 exact ⟨l,aL.one y,w⟩
structure Halt.ok (c:Halt):Prop where
 order:(fun n=>dW n) c.order
 from_:(fun n=>dW n) c.from_
 cj:(fun n=>dW n) c.cj
theorem Halt.of {ds:List D} (h:dN TT 177 ds):∃ c:Halt,aL ds c.cells∧c.ok:=by
 have q0:=h.dg rfl rfl
 obtain ⟨p0,r0,rfl,h0,q1⟩:=q0.cons_inv
 obtain ⟨x0,y0,w0⟩:=bS h0
 obtain ⟨p1,r1,rfl,h1,q2⟩:=q1.cons_inv
 obtain ⟨x1,y1,w1⟩:=bS h1
 obtain ⟨p2,r2,rfl,h2,q3⟩:=q2.cons_inv
 obtain ⟨x2,y2,w2⟩:=bS h2
 cases q3.iW
 refine ⟨⟨x0,x1,x2⟩,?_,⟨w0,w1,w2⟩⟩
 have hh:=(aL.append y0 (aL.append y1 (aL.append y2 aL.nil)))
 simpa only [Halt.cells,bU,jz,qe,List.append_assoc,List.cons_append,List.nil_append,List.append_nil] using hh
theorem abd {ds:List D} (h:dN TT 29 ds):∃ l:List Halt,aL ds [mV Halt.cells l]∧(fun l=>∀ x,x∈l→Halt.ok x) l:=by
 obtain ⟨n,f,rfl,g⟩:=h.fm rfl rfl
 obtain ⟨l,y,-,w⟩:=jL Halt.cells Halt.ok (fun ds h=>Halt.of h) g
 exact ⟨l,aL.one y,w⟩
structure ah.ok (c:ah):Prop where
 ck:(fun l=>∀ x,x∈l→(fun s:ByteArray=>s.size≤maxLen) x) c.ck
 aI:(fun l=>∀ x,x∈l→jA.ok x) c.aI
 fP:(fun l=>∀ x,x∈l→mY.ok x) c.fP
 bm:(fun l=>∀ x,x∈l→Aw.ok x) c.bm
 aE:(fun l=>∀ x,x∈l→Order.ok x) c.aE
 aM:(fun l=>∀ x,x∈l→dC.ok x) c.aM
 bE:(fun l=>∀ x,x∈l→oI.ok x) c.bE
 ep:(fun l=>∀ x,x∈l→Halt.ok x) c.ep
theorem ah.of {ds:List D} (h:dN TT 31 ds):∃ c:ah,aL ds c.cells∧c.ok:=by
 have q0:=h.dg rfl rfl
 obtain ⟨p0,r0,rfl,h0,q1⟩:=q0.cons_inv
 obtain ⟨x0,y0,w0⟩:=aa6 h0
 obtain ⟨p1,r1,rfl,h1,q2⟩:=q1.cons_inv
 obtain ⟨x1,y1,w1⟩:=aa7 h1
 obtain ⟨p2,r2,rfl,h2,q3⟩:=q2.cons_inv
 obtain ⟨x2,y2,w2⟩:=aa8 h2
 obtain ⟨p3,r3,rfl,h3,q4⟩:=q3.cons_inv
 obtain ⟨x3,y3,w3⟩:=aa9 h3
 obtain ⟨p4,r4,rfl,h4,q5⟩:=q4.cons_inv
 obtain ⟨x4,y4,w4⟩:=aba h4
 obtain ⟨p5,r5,rfl,h5,q6⟩:=q5.cons_inv
 obtain ⟨x5,y5,w5⟩:=abb h5
 obtain ⟨p6,r6,rfl,h6,q7⟩:=q6.cons_inv
 obtain ⟨x6,y6,w6⟩:=abc h6
 obtain ⟨p7,r7,rfl,h7,q8⟩:=q7.cons_inv
 obtain ⟨x7,y7,w7⟩:=abd h7
 cases q8.iW
 refine ⟨⟨x0,x1,x2,x3,x4,x5,x6,x7⟩,?_,⟨w0,w1,w2,w3,w4,w5,w6,w7⟩⟩
 have hh:=(aL.append y0 (aL.append y1 (aL.append y2 (aL.append y3 (aL.append y4 (aL.append y5 (aL.append y6 (aL.append y7 aL.nil))))))))
 simpa only [ah.cells,bU,jz,qe,List.append_assoc,List.cons_append,List.nil_append,List.append_nil] using hh
structure rD.ok (c:rD):Prop where
 kind:(fun n=>dW n) c.kind
 n:(fun n=>dW n) c.n
 unit:(fun n=>dW n) c.unit
theorem rD.of {ds:List D} (h:dN TT 33 ds):∃ c:rD,aL ds c.cells∧c.ok:=by
 have q0:=h.dg rfl rfl
 obtain ⟨p0,r0,rfl,h0,q1⟩:=q0.cons_inv
 obtain ⟨x0,y0,w0⟩:=bS h0
 obtain ⟨p1,r1,rfl,h1,q2⟩:=q1.cons_inv
 obtain ⟨x1,y1,w1⟩:=bS h1
 obtain ⟨p2,r2,rfl,h2,q3⟩:=q2.cons_inv
 obtain ⟨x2,y2,w2⟩:=bS h2
 cases q3.iW
 refine ⟨⟨x0,x1,x2⟩,?_,⟨w0,w1,w2⟩⟩
 have hh:=(aL.append y0 (aL.append y1 (aL.append y2 aL.nil)))
 simpa only [rD.cells,bU,jz,qe,List.append_assoc,List.cons_append,List.nil_append,List.append_nil] using hh
structure qc.ok (c:qc):Prop where
 Bo:(fun n=>dW n) c.Bo
 mZ:(fun n=>dW n) c.mZ
 kq:(fun n=>dW n) c.kq
 sum:(fun n=>dW n) c.sum
 az:(fun n=>dW n) c.az
 cR:rD.ok c.cR
 day:(fun n=>dW n) c.day
 bZ:(fun n=>dW n) c.bZ
 yk:(fun n=>dW n) c.yk
 need:(fun n=>dW n) c.need
 lf:(fun n=>dW n) c.lf
 flags:(fun n=>dW n) c.flags
 parts:(fun n=>dW n) c.parts
theorem qc.of {ds:List D} (h:dN TT 35 ds):∃ c:qc,aL ds c.cells∧c.ok:=by
 have q0:=h.dg rfl rfl
 obtain ⟨p0,r0,rfl,h0,q1⟩:=q0.cons_inv
 obtain ⟨x0,y0,w0⟩:=bS h0
 obtain ⟨p1,r1,rfl,h1,q2⟩:=q1.cons_inv
 obtain ⟨x1,y1,w1⟩:=bS h1
 obtain ⟨p2,r2,rfl,h2,q3⟩:=q2.cons_inv
 obtain ⟨x2,y2,w2⟩:=bS h2
 obtain ⟨p3,r3,rfl,h3,q4⟩:=q3.cons_inv
 obtain ⟨x3,y3,w3⟩:=bS h3
 obtain ⟨p4,r4,rfl,h4,q5⟩:=q4.cons_inv
 obtain ⟨x4,y4,w4⟩:=bS h4
 obtain ⟨p5,r5,rfl,h5,q6⟩:=q5.cons_inv
 obtain ⟨x5,y5,w5⟩:=rD.of h5
 obtain ⟨p6,r6,rfl,h6,q7⟩:=q6.cons_inv
 obtain ⟨x6,y6,w6⟩:=bS h6
 obtain ⟨p7,r7,rfl,h7,q8⟩:=q7.cons_inv
 obtain ⟨x7,y7,w7⟩:=bS h7
 obtain ⟨p8,r8,rfl,h8,q9⟩:=q8.cons_inv
 obtain ⟨x8,y8,w8⟩:=bS h8
 obtain ⟨p9,r9,rfl,h9,q10⟩:=q9.cons_inv
 obtain ⟨x9,y9,w9⟩:=bS h9
 obtain ⟨RV,r10,rfl,h10,q11⟩:=q10.cons_inv
 obtain ⟨N8,Sw,w10⟩:=bS h10
 obtain ⟨UK,r11,rfl,h11,q12⟩:=q11.cons_inv
 obtain ⟨x11,y11,w11⟩:=bS h11
 obtain ⟨WY,r12,rfl,h12,q13⟩:=q12.cons_inv
 obtain ⟨YX,y12,w12⟩:=bS h12
 cases q13.iW
 refine ⟨⟨x0,x1,x2,x3,x4,x5,x6,x7,x8,x9,N8,x11,YX⟩,?_,⟨w0,w1,w2,w3,w4,w5,w6,w7,w8,w9,w10,w11,w12⟩⟩
 have hh:=(aL.append y0 (aL.append y1 (aL.append y2 (aL.append y3 (aL.append y4 (aL.append y5 (aL.append y6 (aL.append y7 (aL.append y8 (aL.append y9 (aL.append Sw (aL.append y11 (aL.append y12 aL.nil)))))))))))))
 simpa only [qc.cells,bU,jz,qe,List.append_assoc,List.cons_append,List.nil_append,List.append_nil] using hh
structure Sign.ok (c:Sign):Prop where
 kind:(fun n=>dW n) c.kind
 part:(fun n=>dW n) c.part
 dt:(fun n=>dW n) c.dt
 for_:(fun n=>dW n) c.for_
 cj:(fun n=>dW n) c.cj
 sum:(fun n=>dW n) c.sum
 day:(fun n=>dW n) c.day
 bZ:(fun n=>dW n) c.bZ
 flags:(fun n=>dW n) c.flags
theorem Sign.of {ds:List D} (h:dN TT 96 ds):∃ c:Sign,aL ds c.cells∧c.ok:=by
 have q0:=h.dg rfl rfl
 obtain ⟨p0,r0,rfl,h0,q1⟩:=q0.cons_inv
 obtain ⟨x0,y0,w0⟩:=bS h0
 obtain ⟨p1,r1,rfl,h1,q2⟩:=q1.cons_inv
 obtain ⟨x1,y1,w1⟩:=bS h1
 obtain ⟨p2,r2,rfl,h2,q3⟩:=q2.cons_inv
 obtain ⟨x2,y2,w2⟩:=bS h2
 obtain ⟨p3,r3,rfl,h3,q4⟩:=q3.cons_inv
 obtain ⟨x3,y3,w3⟩:=bS h3
 obtain ⟨p4,r4,rfl,h4,q5⟩:=q4.cons_inv
 obtain ⟨x4,y4,w4⟩:=bS h4
 obtain ⟨p5,r5,rfl,h5,q6⟩:=q5.cons_inv
 obtain ⟨x5,y5,w5⟩:=bS h5
 obtain ⟨p6,r6,rfl,h6,q7⟩:=q6.cons_inv
 obtain ⟨x6,y6,w6⟩:=bS h6
 obtain ⟨p7,r7,rfl,h7,q8⟩:=q7.cons_inv
 obtain ⟨x7,y7,w7⟩:=bS h7
 obtain ⟨p8,r8,rfl,h8,q9⟩:=q8.cons_inv
 obtain ⟨x8,y8,w8⟩:=bS h8
 cases q9.iW
 refine ⟨⟨x0,x1,x2,x3,x4,x5,x6,x7,x8⟩,?_,⟨w0,w1,w2,w3,w4,w5,w6,w7,w8⟩⟩
 have hh:=(aL.append y0 (aL.append y1 (aL.append y2 (aL.append y3 (aL.append y4 (aL.append y5 (aL.append y6 (aL.append y7 (aL.append y8 aL.nil)))))))))
 simpa only [Sign.cells,bU,jz,qe,List.append_assoc,List.cons_append,List.nil_append,List.append_nil] using hh
theorem abe {ds:List D} (h:dN TT 36 ds):∃ l:List Sign,aL ds [mV Sign.cells l]∧(fun l=>∀ x,x∈l→Sign.ok x) l:=by
 obtain ⟨n,f,rfl,g⟩:=h.fm rfl rfl
 obtain ⟨l,y,-,w⟩:=jL Sign.cells Sign.ok (fun ds h=>Sign.of h) g
 exact ⟨l,aL.one y,w⟩
structure di.ok (c:di):Prop where
 at_:(fun n=>dW n) c.at_
 sum:(fun n=>dW n) c.sum
theorem di.of {ds:List D} (h:dN TT 115 ds):∃ c:di,aL ds c.cells∧c.ok:=by
 have q0:=h.dg rfl rfl
 obtain ⟨p0,r0,rfl,h0,q1⟩:=q0.cons_inv
 obtain ⟨x0,y0,w0⟩:=bS h0
 obtain ⟨p1,r1,rfl,h1,q2⟩:=q1.cons_inv
 obtain ⟨x1,y1,w1⟩:=bS h1
 cases q2.iW
 refine ⟨⟨x0,x1⟩,?_,⟨w0,w1⟩⟩
 have hh:=(aL.append y0 (aL.append y1 aL.nil))
 simpa only [di.cells,bU,jz,qe,List.append_assoc,List.cons_append,List.nil_append,List.append_nil] using hh
theorem abf {ds:List D} (h:dN TT 37 ds):∃ l:List di,aL ds [mV di.cells l]∧(fun l=>∀ x,x∈l→di.ok x) l:=by
 obtain ⟨n,f,rfl,g⟩:=h.fm rfl rfl
 obtain ⟨l,y,-,w⟩:=jL di.cells di.ok (fun ds h=>di.of h) g
 exact ⟨l,aL.one y,w⟩
structure bh.ok (c:bh):Prop where
 kind:(fun n=>dW n) c.kind
 dt:(fun n=>dW n) c.dt
 cj:(fun n=>dW n) c.cj
 part:(fun n=>dW n) c.part
 at_:(fun n=>dW n) c.at_
 sum:(fun n=>dW n) c.sum
 day:(fun n=>dW n) c.day
 bZ:(fun n=>dW n) c.bZ
 form:(fun n=>dW n) c.form
theorem bh.of {ds:List D} (h:dN TT 62 ds):∃ c:bh,aL ds c.cells∧c.ok:=by
 have q0:=h.dg rfl rfl
 obtain ⟨p0,r0,rfl,h0,q1⟩:=q0.cons_inv
 obtain ⟨x0,y0,w0⟩:=bS h0
 obtain ⟨p1,r1,rfl,h1,q2⟩:=q1.cons_inv
 obtain ⟨x1,y1,w1⟩:=bS h1
 obtain ⟨p2,r2,rfl,h2,q3⟩:=q2.cons_inv
 obtain ⟨x2,y2,w2⟩:=bS h2
 obtain ⟨p3,r3,rfl,h3,q4⟩:=q3.cons_inv
 obtain ⟨x3,y3,w3⟩:=bS h3
 obtain ⟨p4,r4,rfl,h4,q5⟩:=q4.cons_inv
 obtain ⟨x4,y4,w4⟩:=bS h4
 obtain ⟨p5,r5,rfl,h5,q6⟩:=q5.cons_inv
 obtain ⟨x5,y5,w5⟩:=bS h5
 obtain ⟨p6,r6,rfl,h6,q7⟩:=q6.cons_inv
 obtain ⟨x6,y6,w6⟩:=bS h6
 obtain ⟨p7,r7,rfl,h7,q8⟩:=q7.cons_inv
 obtain ⟨x7,y7,w7⟩:=bS h7
 obtain ⟨p8,r8,rfl,h8,q9⟩:=q8.cons_inv
 obtain ⟨x8,y8,w8⟩:=bS h8
 cases q9.iW
 refine ⟨⟨x0,x1,x2,x3,x4,x5,x6,x7,x8⟩,?_,⟨w0,w1,w2,w3,w4,w5,w6,w7,w8⟩⟩
 have hh:=(aL.append y0 (aL.append y1 (aL.append y2 (aL.append y3 (aL.append y4 (aL.append y5 (aL.append y6 (aL.append y7 (aL.append y8 aL.nil)))))))))
 simpa only [bh.cells,bU,jz,qe,List.append_assoc,List.cons_append,List.nil_append,List.append_nil] using hh
theorem abg {ds:List D} (h:dN TT 38 ds):∃ l:List bh,aL ds [mV bh.cells l]∧(fun l=>∀ x,x∈l→bh.ok x) l:=by
 obtain ⟨n,f,rfl,g⟩:=h.fm rfl rfl
 obtain ⟨l,y,-,w⟩:=jL bh.cells bh.ok (fun ds h=>bh.of h) g
 exact ⟨l,aL.one y,w⟩
structure Fact.ok (c:Fact):Prop where
 kind:(fun n=>dW n) c.kind
 at_:(fun n=>dW n) c.at_
 n:(fun n=>dW n) c.n
theorem Fact.of {ds:List D} (h:dN TT 45 ds):∃ c:Fact,aL ds c.cells∧c.ok:=by
 have q0:=h.dg rfl rfl
 obtain ⟨p0,r0,rfl,h0,q1⟩:=q0.cons_inv
 obtain ⟨x0,y0,w0⟩:=bS h0
 obtain ⟨p1,r1,rfl,h1,q2⟩:=q1.cons_inv
 obtain ⟨x1,y1,w1⟩:=bS h1
 obtain ⟨p2,r2,rfl,h2,q3⟩:=q2.cons_inv
 obtain ⟨x2,y2,w2⟩:=bS h2
 cases q3.iW
 refine ⟨⟨x0,x1,x2⟩,?_,⟨w0,w1,w2⟩⟩
 have hh:=(aL.append y0 (aL.append y1 (aL.append y2 aL.nil)))
 simpa only [Fact.cells,bU,jz,qe,List.append_assoc,List.cons_append,List.nil_append,List.append_nil] using hh
theorem abh {ds:List D} (h:dN TT 39 ds):∃ l:List Fact,aL ds [mV Fact.cells l]∧(fun l=>∀ x,x∈l→Fact.ok x) l:=by
 obtain ⟨n,f,rfl,g⟩:=h.fm rfl rfl
 obtain ⟨l,y,-,w⟩:=jL Fact.cells Fact.ok (fun ds h=>Fact.of h) g
 exact ⟨l,aL.one y,w⟩
structure al.ok (c:al):Prop where
 aR:qc.ok c.aR
 af:(fun l=>∀ x,x∈l→Sign.ok x) c.af
 aN:(fun l=>∀ x,x∈l→di.ok x) c.aN
 aA:(fun l=>∀ x,x∈l→bh.ok x) c.aA
 facts:(fun l=>∀ x,x∈l→Fact.ok x) c.facts
theorem al.of {ds:List D} (h:dN TT 41 ds):∃ c:al,aL ds c.cells∧c.ok:=by
 have q0:=h.dg rfl rfl
 obtain ⟨p0,r0,rfl,h0,q1⟩:=q0.cons_inv
 obtain ⟨x0,y0,w0⟩:=qc.of h0
 obtain ⟨p1,r1,rfl,h1,q2⟩:=q1.cons_inv
 obtain ⟨x1,y1,w1⟩:=abe h1
 obtain ⟨p2,r2,rfl,h2,q3⟩:=q2.cons_inv
 obtain ⟨x2,y2,w2⟩:=abf h2
 obtain ⟨p3,r3,rfl,h3,q4⟩:=q3.cons_inv
 obtain ⟨x3,y3,w3⟩:=abg h3
 obtain ⟨p4,r4,rfl,h4,q5⟩:=q4.cons_inv
 obtain ⟨x4,y4,w4⟩:=abh h4
 cases q5.iW
 refine ⟨⟨x0,x1,x2,x3,x4⟩,?_,⟨w0,w1,w2,w3,w4⟩⟩
 have hh:=(aL.append y0 (aL.append y1 (aL.append y2 (aL.append y3 (aL.append y4 aL.nil)))))
 simpa only [al.cells,bU,jz,qe,List.append_assoc,List.cons_append,List.nil_append,List.append_nil] using hh
theorem AQ (aaz:∀ (a0:ah) (a1:Int) (a2:al) (a3:Int) (a4:List Fact),qa a0 a1 a2 a3 a4=true) (Q5:List (List D)) (h:Mn TT [31,3,41,3,39] Q5):gr Tryz.prog 3 (wY TT [31,3,41,3,39] Q5) [] (.d (.v (.bool true))) []:=by
 obtain ⟨d0,d1,d2,d3,d4,rfl⟩:∃ d0 d1 d2 d3 d4,Q5=[d0,d1,d2,d3,d4]:=by
  match Q5,h with
  | [d0,d1,d2,d3,d4],_=>exact ⟨d0,d1,d2,d3,d4,rfl⟩
 obtain ⟨h0,h1,h2,h3,h4,-⟩:=h
 obtain ⟨x0,y0,w0⟩:=ah.of h0
 obtain ⟨x1,rfl,w1⟩:=h1.Cm rfl rfl
 obtain ⟨x2,y2,w2⟩:=al.of h2
 obtain ⟨x3,rfl,w3⟩:=h3.Cm rfl rfl
 obtain ⟨n4,f4,rfl,g4⟩:=h4.fm rfl rfl
 obtain ⟨x4,y4,-,w4⟩:=jL Fact.cells Fact.ok (fun ds h=>Fact.of h) g4
 have hf:=Gq x0 x1 x2 x3 x4
 rw [aaz] at hf
 exact gr.Tg hf ⟨tE.d y0.agg,tE.rfl',tE.d y2.agg,tE.rfl',tE.d y4,trivial⟩
theorem ES (a0:ah) (a1:Int) (a2:al) (a3:Int) (a4:List Fact):qa a0 a1 a2 a3 a4=true :=
 DA a0 a1 a2 a3 a4
end
end Go.Proofs.YtgmnlkccjlnnbaaGreatDoor
