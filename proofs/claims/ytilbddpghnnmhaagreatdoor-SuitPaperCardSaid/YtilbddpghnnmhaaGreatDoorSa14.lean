/- Functions, as sketches. -/
import Derived.Test.YtilbddpghnnmhaaGreatDoorSa13
namespace Go.Proofs.YtilbddpghnnmhaaGreatDoor
noncomputable section
open Go Go.Av
set_option linter.unusedSimpArgs false
set_option linter.unusedVariables false
set_option maxHeartbeats 1000000
set_option maxRecDepth 100000
/-- two claims with the same key -/
def KG (x y:Claim):Prop:=x.debtor=y.debtor∧x.creditor=y.creditor∧x.part=y.part∧x.sign=y.sign∧x.by_=y.by_
/-- a claim put to others: the first one of its key is turned by f,or it is new -/
def Merged (f:Claim→Claim) (l:List Claim) (c:Claim) (x:List Claim):Prop :=
  (∃ i,i < l.length∧KG (l.getD i default) c∧x=l.set i (f (l.getD i default)))∨((∀ i,i < l.length→¬ KG (l.getD i default) c)∧x=l++[c])
def fG (c x:Claim):Claim:={ x with sum:=ki x.sum c.sum,state:=zY c.state x.state }
def fJ (c x:Claim):Claim:={ x with sum:=qO 1099511627776 (w64 (x.sum+c.sum)),state:=zY x.state c.state }
/-- what a payment takes from a claim -/
def Uv (a:jI) (x:Claim):Int:=qO (ki 0 a.sum) (ki 0 x.sum)
def FY (a:jI) (st:Bool) (x:Claim):Claim:=bif uG a st x then { x with sum:=w64 (ki 0 x.sum - Uv a x) } else x
/-- the same but for sum and state -/
def Hx (x y:Claim):Prop:=KG x y∧x.turn=y.turn∧x.currency=y.currency
theorem Hx.rfl' (x:Claim):Hx x x:=⟨⟨rfl,rfl,rfl,rfl,rfl⟩,rfl,rfl⟩
theorem Hx.trans {x y z:Claim} (h:Hx x y) (k:Hx y z):Hx x z:=⟨⟨h.1.1.trans k.1.1,h.1.2.1.trans k.1.2.1,h.1.2.2.1.trans k.1.2.2.1,h.1.2.2.2.1.trans k.1.2.2.2.1,h.1.2.2.2.2.trans k.1.2.2.2.2⟩,h.2.1.trans k.2.1,h.2.2.trans k.2.2⟩
/-- a claim's sum and state are as they may be -/
def ClP (x:Claim):Prop:=JH x.sum∧(x.state=1∨x.state=2)
theorem zp5 {a b:Int} (ha:a=1∨a=2) (hb:b=1∨b=2):zY a b=1∨zY a b=2:=by
  rcases ha with rfl | rfl <;> rcases hb with rfl | rfl
  · exact .inl (by kernel_rfl)
  · exact .inr (by kernel_rfl)
  · exact .inr (by kernel_rfl)
  · exact .inr (by kernel_rfl)
/-- a claim that comes of a payment for a claim of l -/
def Sub (l:List Claim) (a:jI) (c:Claim):Prop:=(c.creditor=a.who∧c.by_=a.at_∧c.debtor≠a.who)∧(∃ x∈l,x.debtor=c.debtor∧x.part=c.part∧x.sign=c.sign∧x.currency=c.currency)∧((∀ x∈l,ClP x)→ClP c)
def zfD (l:List Claim) (a:jI) (inn:List Claim):Prop:=(∀ c∈inn,Sub l a c)∧inn.Pairwise fun x y=>¬ KG x y
theorem zpL {a b:Int} (ha:JH a) (hb:JH b):JH (ki a b):=by unfold ki JH at *; split <;> omega
theorem KG.comm {x y:Claim} (h:KG x y):KG y x:=⟨h.1.symm,h.2.1.symm,h.2.2.1.symm,h.2.2.2.1.symm,h.2.2.2.2.symm⟩
theorem KG.tr {x y z:Claim} (h:KG x y) (k:KG y z):KG x z:=⟨h.1.trans k.1,h.2.1.trans k.2.1,h.2.2.1.trans k.2.2.1,h.2.2.2.1.trans k.2.2.2.1,h.2.2.2.2.trans k.2.2.2.2⟩
theorem zlF {l:List Claim} {i:Nat} {y x:Claim} (h:x∈l.set i y):x=y∨x∈l:=by
  rcases List.mem_or_eq_of_mem_set h with h | h
  · exact .inr h
  · exact .inl h
theorem uP {l:List Claim} {i:Nat} (h:i < l.length):l.getD i default∈l:=Qg h _
theorem zap {l:List Claim} {i j:Nat} {y:Claim} (h:j < l.length):(l.set i y).getD j default=if i=j then y else l.getD j default:=by
  simp only [List.getD,List.getElem?_set]
  split
  · subst_vars; simp [h]
  · rfl
theorem zfD.group {l:List Claim} {a:jI} {inn x:List Claim} {c:Claim} (h:zfD l a inn) (hc:Sub l a c) (hm:Merged (fG c) inn c x):zfD l a x:=by
  rcases hm with ⟨i,hi,hk,rfl⟩ | ⟨hn,rfl⟩
  · have hs:=h.1 _ (uP hi)
    have hx:KG (fG c (inn.getD i default)) (inn.getD i default):=⟨rfl,rfl,rfl,rfl,rfl⟩
    refine ⟨fun z hz=>?_,?_⟩
    · rcases zlF hz with rfl | hz
      · exact ⟨hs.1,hs.2.1,fun hP=>⟨zpL (hs.2.2 hP).1 (hc.2.2 hP).1,zp5 (hc.2.2 hP).2 (hs.2.2 hP).2⟩⟩
      · exact h.1 z hz
    · rw [List.pairwise_iff_getElem]
      intro p q hp hq hpq
      have hp':p < inn.length:=by simpa using hp
      have hq':q < inn.length:=by simpa using hq
      have h0:=List.pairwise_iff_getElem.1 h.2 p q hp' hq' hpq
      simp only [List.getElem_set]
      have e:∀ j (hj:j < inn.length),i=j→KG (fG c (inn.getD i default)) inn[j]:=by
        rintro j hj rfl
        simpa [List.getD,hj] using hx
      intro hk2
      apply h0
      split at hk2 <;> split at hk2
      · omega
      · exact (e p hp' ‹_›).comm.tr hk2
      · exact hk2.tr (e q hq' ‹_›)
      · exact hk2
  · refine ⟨fun z hz=>?_,?_⟩
    · rcases List.mem_append.1 hz with hz | hz
      · exact h.1 z hz
      · rw [List.mem_singleton.1 hz]; exact hc
    · rw [List.pairwise_append]
      refine ⟨h.2,List.pairwise_singleton _ _,fun x hx y hy=>?_⟩
      rw [List.mem_singleton.1 hy]
      obtain ⟨j,hj,rfl⟩:=List.getElem_of_mem hx
      have:=hn j hj
      rwa [show inn.getD j default=inn[j] by simp [List.getD,hj]] at this
/-- a list without twins is not longer than one that holds it -/
theorem zjx {α:Type}:∀ (l D:List α),l.Pairwise (·≠·)→(∀ x∈l,x∈D)→l.length≤D.length
  | [],D,_,_=>Nat.zero_le _
  | x :: r,D,hp,hs=>by
    classical
    have hx:x∈D:=hs x (by simp)
    rw [List.pairwise_cons] at hp
    have:=zjx r (D.erase x) hp.2 (fun y hy=>(List.mem_erase_of_ne (fun e=>hp.1 y hy e.symm)).2 (hs y (by simp [hy])))
    rw [List.length_erase_of_mem hx] at this
    have hpos:0 < D.length:=List.length_pos_of_mem hx
    simp only [List.length_cons]
    omega
def dps (x:Claim):Int × Int × Int:=(x.debtor,x.part,x.sign)
theorem zfD.len {l:List Claim} {a:jI} {inn:List Claim} (h:zfD l a inn) {D:List (Int × Int × Int)} (hD:∀ x∈l,dps x∈D):inn.length≤D.length:=by
  have:=zjx (inn.map dps) D ?_ ?_
  · simpa using this
  · rw [List.pairwise_map]
    refine List.Pairwise.imp_of_mem ?_ h.2
    intro x y hx hy hne e
    have hx:=(h.1 x hx).1
    have hy:=(h.1 y hy).1
    simp only [dps,Prod.mk.injEq] at e
    exact hne ⟨e.1,hx.1.trans hy.1.symm,e.2.1,e.2.2,hx.2.1.trans hy.2.1.symm⟩
  · intro z hz
    obtain ⟨c,hc,rfl⟩:=List.mem_map.1 hz
    obtain ⟨x,hx,e1,e2,e3,-⟩:=(h.1 c hc).2.1
    have:=hD x hx
    rwa [show dps x=dps c by simp [dps,e1,e2,e3]] at this
/-- the claims while the payment goes over them -/
def zbP (l:List Claim) (a:jI) (st:Bool) (k:Nat) (out inn:List Claim):Prop :=
  out.length=l.length∧(∀ i,i < l.length→out.getD i default=if i < k then FY a st (l.getD i default) else l.getD i default)∧zfD l a inn
theorem zbP.init (l:List Claim) (a:jI) (st:Bool):zbP l a st 0 l []:=⟨rfl,fun i _=>by simp,fun c hc=>by simp at hc,.nil⟩
theorem zbP.skip {l:List Claim} {a:jI} {st:Bool} {k:Nat} {out inn:List Claim} (h:zbP l a st k out inn) (hk:k < l.length) (hm:uG a st (l.getD k default)=false):zbP l a st (k+1) out inn:=by
  refine ⟨h.1,fun i hi=>?_,h.2.2⟩
  rw [h.2.1 i hi]
  by_cases hik:i=k
  · subst hik; rw [if_neg (Nat.lt_irrefl i),if_pos (Nat.lt_succ_self i)]; unfold FY; rw [hm]; rfl
  · by_cases h1:i < k
    · rw [if_pos h1,if_pos (by omega)]
    · rw [if_neg h1,if_neg (by omega)]
theorem zbP.meet {l:List Claim} {a:jI} {st:Bool} {k:Nat} {out inn inn':List Claim} (h:zbP l a st k out inn) (hk:k < l.length) (hm:uG a st (l.getD k default)=true) (hi:zfD l a inn') :
    zbP l a st (k+1) (out.set k { out.getD k default with sum:=w64 (ki 0 (l.getD k default).sum - Uv a (l.getD k default)) }) inn':=by
  have hok:=h.2.1 k hk
  rw [if_neg (Nat.lt_irrefl k)] at hok
  refine ⟨by rw [List.length_set]; exact h.1,fun i hi=>?_,hi⟩
  rw [zap (by rw [h.1]; exact hi)]
  by_cases hik:k=i
  · subst hik; rw [if_pos rfl,if_pos (by omega),hok]; unfold FY; rw [hm]; rfl
  · rw [if_neg hik,h.2.1 i hi]
    by_cases h1:i < k
    · rw [if_pos h1,if_pos (by omega)]
    · rw [if_neg h1,if_neg (by omega)]
theorem zlP {l:List Claim} {a:jI} {c:Claim} (hc:c∈l) (hd:c.debtor≠a.who) (s:Int) (hs:s=Uv a c):Sub l a { c with creditor:=a.who,by_:=a.at_,sum:=s }:=by
  subst hs
  refine ⟨⟨rfl,rfl,hd⟩,⟨c,hc,rfl,rfl,rfl,rfl⟩,fun hP=>?_⟩
  have:=(hP c hc).1
  refine ⟨?_,(hP c hc).2⟩
  unfold JH at *
  show 0≤Uv a c∧Uv a c≤1099511627776
  unfold Uv qO ki
  constructor <;> (repeat' split) <;> omega
/-- the claims while the new ones are joined to them -/
def zik (a:jI) (m inn:List Claim) (k:Nat) (v:List Claim):Prop :=
  (m.length≤v.length∧v.length≤m.length+k)∧(∀ i,i < m.length→Hx (v.getD i default) (m.getD i default)∧((m.getD i default).creditor≠a.who→v.getD i default=m.getD i default)) ∧
    (∀ i,m.length≤i→i < v.length→∃ c∈inn,Hx (v.getD i default) c)∧((∀ x∈m,ClP x)→(∀ x∈inn,ClP x)→∀ x∈v,ClP x)
theorem zik.init (a:jI) (m inn:List Claim):zik a m inn 0 m:=⟨⟨Nat.le_refl _,Nat.le_refl _⟩,fun i hi=>⟨Hx.rfl' _,fun _=>rfl⟩,fun i h1 h2=>absurd h2 (by omega),fun h _=>h⟩
theorem zr0 {c x:Claim} (hc:ClP c) (hx:ClP x):ClP (fJ c x):=by
  refine ⟨?_,zp5 hx.2 hc.2⟩
  unfold ClP JH at *
  show 0≤qO _ _∧qO _ _≤_
  rw [jj (by omega) (by omega)]
  unfold qO; split <;> omega
theorem zik.step {a:jI} {m inn v x:List Claim} {k:Nat} {c:Claim} (h:zik a m inn k v) (hc:c∈inn) (hw:c.creditor=a.who) (hm:Merged (fJ c) v c x):zik a m inn (k+1) x:=by
  obtain ⟨⟨h1,h2⟩,h3,h4,h5⟩:=h
  rcases hm with ⟨i,hi,hk,rfl⟩ | ⟨hn,rfl⟩
  · have hl:Hx (fJ c (v.getD i default)) (v.getD i default):=⟨⟨rfl,rfl,rfl,rfl,rfl⟩,rfl,rfl⟩
    refine ⟨⟨by simpa using h1,by rw [List.length_set]; omega⟩,fun j hj=>?_,fun j hj hj2=>?_,fun hP hQ z hz=>?_⟩
    · rw [zap (by omega)]
      split
      · subst_vars
        refine ⟨hl.trans (h3 _ hj).1,fun hne=>absurd ?_ hne⟩
        have e2:=hk.2.1
        have e3:=(h3 _ hj).1.1.2.1
        rw [← e3,e2,hw]
      · exact h3 j hj
    · rw [List.length_set] at hj2
      rw [zap hj2]
      split
      · subst_vars
        obtain ⟨d,hd,e⟩:=h4 _ hj hj2
        exact ⟨d,hd,hl.trans e⟩
      · exact h4 j hj hj2
    · rcases zlF hz with rfl | hz
      · exact zr0 (hQ c hc) (h5 hP hQ _ (uP hi))
      · exact h5 hP hQ z hz
  · have e:∀ j,j < v.length→(v++[c]).getD j default=v.getD j default:=fun j hj=>by simp [List.getD,List.getElem?_append_left hj]
    refine ⟨⟨by simp; omega,by simp; omega⟩,fun j hj=>?_,fun j hj hj2=>?_,fun hP hQ z hz=>?_⟩
    · rw [e j (by omega)]; exact h3 j hj
    · by_cases hjv:j < v.length
      · rw [e j hjv]; exact h4 j hj hjv
      · have:j=v.length:=by simp at hj2; omega
        subst this
        exact ⟨c,hc,by simp [List.getD]; exact Hx.rfl' _⟩
    · rcases List.mem_append.1 hz with hz | hz
      · exact h5 hP hQ z hz
      · rw [List.mem_singleton.1 hz]; exact hQ c hc
/-- what a payment makes of claims -/
structure Wi (l:List Claim) (a:jI) (st:Bool) (out:List Claim):Prop where
  len:l.length≤out.length
  old:∀ i,i < l.length→Hx (out.getD i default) (l.getD i default)∧((l.getD i default).creditor≠a.who→out.getD i default=FY a st (l.getD i default))
  new:∀ i,l.length≤i→i < out.length→(out.getD i default).creditor=a.who∧(out.getD i default).by_=a.at_∧(out.getD i default).debtor≠a.who∧∃ x∈l,x.debtor=(out.getD i default).debtor∧x.part=(out.getD i default).part∧x.sign=(out.getD i default).sign∧x.currency=(out.getD i default).currency
  sums:(∀ x∈l,ClP x)→∀ x∈out,ClP x
  few:∀ D:List (Int × Int × Int),(∀ x∈l,dps x∈D)→out.length≤l.length+D.length
theorem zm5 (a:jI) (st:Bool) (x:Claim):Hx (FY a st x) x:=by
  unfold FY
  cases uG a st x
  · exact Hx.rfl' x
  · exact ⟨⟨rfl,rfl,rfl,rfl,rfl⟩,rfl,rfl⟩
theorem zra {a:jI} {st:Bool} {x:Claim} (h:ClP x):ClP (FY a st x):=by
  unfold FY
  cases uG a st x
  · exact h
  · refine ⟨?_,h.2⟩
    unfold ClP JH at *
    have h1:0≤Uv a x∧Uv a x≤x.sum:=by unfold Uv qO ki; constructor <;> (repeat' split) <;> omega
    have h2:ki 0 x.sum=x.sum:=by unfold ki; split <;> omega
    show 0≤w64 _∧w64 _≤_
    rw [h2,jj (by omega) (by omega)]
    omega
theorem Wi.mk' {l:List Claim} {a:jI} {st:Bool} {m inn v:List Claim} {k n:Nat} (h0:zbP l a st n m inn) (hn:n=l.length) (h1:zik a m inn k v) (hk:k≤inn.length):Wi l a st v:=by
  subst hn
  obtain ⟨hl,hr,hi⟩:=h0
  obtain ⟨⟨h11,h12⟩,h13,h14,h15⟩:=h1
  have hr':∀ i,i < l.length→m.getD i default=FY a st (l.getD i default):=fun i h=>by rw [hr i h,if_pos h]
  refine ⟨by omega,fun i h=>?_,fun i h h2=>?_,fun hP=>?_,fun D hD=>?_⟩
  · have h3:=h13 i (by omega)
    rw [hr' i h] at h3
    refine ⟨h3.1.trans (zm5 a st _),fun hne=>h3.2 ?_⟩
    rw [(zm5 a st (l.getD i default)).1.2.1]
    exact hne
  · obtain ⟨c,hc,e⟩:=h14 i (by omega) h2
    obtain ⟨⟨k1,k2,k3⟩,⟨x,hx,e1,e2,e3,e4⟩,-⟩:=hi.1 c hc
    obtain ⟨⟨f1,f2,f3,f4,f5⟩,-,f6⟩:=e
    exact ⟨f2.trans k1,f5.trans k2,fun z=>k3 (f1 ▸ z),x,hx,e1.trans f1.symm,e2.trans f3.symm,e3.trans f4.symm,e4.trans f6.symm⟩
  · refine h15 (fun x hx=>?_) (fun x hx=>(hi.1 x hx).2.2 hP)
    obtain ⟨i,hi',rfl⟩:=List.getElem_of_mem hx
    have:=hr' i (by omega)
    rw [show m.getD i default=m[i] by simp [List.getD,hi']] at this
    rw [this]
    exact zra (hP _ (uP (by omega)))
  · have:=hi.len hD
    omega
theorem zjZ {x c:Claim}:((x.debtor == c.debtor)&&((x.creditor == c.creditor)&&((x.part == c.part)&&((x.sign == c.sign)&&((x.by_ == c.by_)&&true)))))=true↔KG x c:=by
  simp only [Bool.and_eq_true,beq_iff_eq,Bool.and_true]
  exact Iff.rfl
theorem zoK {l:List Claim} {i:Nat} (h:i < l.length) (y:Claim) (s:Int):(l.set i y).set i { (l.set i y).getD i default with state:=s }=l.set i { y with state:=s }:=by
  rw [List.set_set,zap h,if_pos rfl]
theorem zoi {l:List Claim} {c:Claim} {i:Nat} (h:∀ q,q < i→¬ KG (l.getD q default) c) (hk:(((l.getD i default).debtor == c.debtor)&&(((l.getD i default).creditor == c.creditor)&&(((l.getD i default).part == c.part)&&(((l.getD i default).sign == c.sign)&&(((l.getD i default).by_ == c.by_)&&true)))))=false):∀ q,q < i+1→¬ KG (l.getD q default) c:=by
  intro q hq e
  by_cases h1:q < i
  · exact h q h1 e
  · obtain rfl:q=i:=by omega
    rw [zjZ.2 e] at hk
    cases hk
theorem Merged.len {f:Claim→Claim} {l x:List Claim} {c:Claim} (h:Merged f l c x):x.length≤l.length+1:=by
  rcases h with ⟨i,hi,-,rfl⟩ | ⟨-,rfl⟩
  · rw [List.length_set]; omega
  · simp
def Jc (l:List Claim) (c_:Claim):Sk ((List Claim)) :=
 .bind true (fun b1=>∀ q,q < l.length→¬ KG (l.getD q default) c_)
 (.loop (default:Sum ((List Claim)) (Unit)) (fun i2=>i2≤l.length∧∀ q,q < i2→¬ KG (l.getD q default) c_) (fun i2=>l.length - i2) (0:Nat)
 (fun (i2:Nat)=>⟨[(9,iv ((i2:Nat):Int))],[]⟩) fun i2 =>
 .bnd 0 0 l.length <|
 .br (decide (((i2:Nat):Int) < ((l.length:Nat):Int)))
 (.r 3 (.andl (.p (ixP ((i2:Nat):Int) l.length)) (.p (i2 < l.length))) fun _ =>
 .r 4 (.dep ((ZH (l.getD i2 default)).c) fun _=>(ZH c_).c) fun p6 =>
 .br ((p6.1.debtor == p6.2.debtor)&&((p6.1.creditor == p6.2.creditor)&&((p6.1.part == p6.2.part)&&((p6.1.sign == p6.2.sign)&&((p6.1.by_ == p6.2.by_)&&true)))))
 (.r 5 (.andl (.p (ixP ((i2:Nat):Int) l.length)) (.andl (.o [.nrm (VI Claim.E l i2 ({ l.getD i2 default with sum:=ki ((l.getD i2 default).sum) c_.sum }))]) (.p (i2 < l.length)))) fun _ =>
 .wn 777776 l.length (l.set i2 ({ l.getD i2 default with sum:=ki ((l.getD i2 default).sum) c_.sum })).length <|
 .r 6 (.depr ((zA c_.state ((l.getD i2 default).state)).c) fun x5=>.andl (.p (ixP ((i2:Nat):Int) ((l.set i2 ({ l.getD i2 default with sum:=ki ((l.getD i2 default).sum) c_.sum })).length))) (.andl (.o [.nrm (VI Claim.E (l.set i2 ({ l.getD i2 default with sum:=ki ((l.getD i2 default).sum) c_.sum })) i2 ({ (l.set i2 ({ l.getD i2 default with sum:=ki ((l.getD i2 default).sum) c_.sum })).getD i2 default with state:=x5 }))]) (.p (i2 < (l.set i2 ({ l.getD i2 default with sum:=ki ((l.getD i2 default).sum) c_.sum })).length)))) fun x5 =>
 .wn 777776 (l.set i2 ({ l.getD i2 default with sum:=ki ((l.getD i2 default).sum) c_.sum })).length ((l.set i2 ({ l.getD i2 default with sum:=ki ((l.getD i2 default).sum) c_.sum })).set i2 ({ (l.set i2 ({ l.getD i2 default with sum:=ki ((l.getD i2 default).sum) c_.sum })).getD i2 default with state:=x5 })).length <|
 .fin (.inl (.inl ((l.set i2 ({ l.getD i2 default with sum:=ki ((l.getD i2 default).sum) c_.sum })).set i2 ({ (l.set i2 ({ l.getD i2 default with sum:=ki ((l.getD i2 default).sum) c_.sum })).getD i2 default with state:=x5 })))))
 (.r 8 .z fun _ =>
 .wi 9 (w64 (((i2:Nat):Int)+1)) ((i2+1:Nat):Int) <|
 .fin (.inr (i2+1))))
 (.fin (.inl (.inr ()))))
 (fun (_:Unit)=>⟨[],[]⟩) fun _ =>
 .r 9 (.andl (.o [.nrm (qk Claim.E [c_])]) (.andl (.o [.nrm (gy Claim.E l [c_])]) (.andl (.t (Claim.E.ones [c_])) (.p (szP l.length [c_].length 72))))) fun _ =>
 .fin (l++[c_])
def Fv (l:List Claim) (c_:Claim):(List Claim):=(Jc l c_).val
theorem zhW (l:List Claim) (c_:Claim):(Jc l c_).pst (fun (x:(List Claim))=>Merged (fG c_) l c_ x):=by
  refine Sk.pst_of _ ?_
  unfold Jc
  simp only [Sk.pstq,Sk.isLoop,reduceCtorEq,ON,kk,zA,ZH,Fs,forall_eq,maxLen]
  refine ⟨⟨⟨Nat.zero_le _,fun q hq=>absurd hq (by omega)⟩,fun i hi=>⟨fun hc _=>⟨fun hk _=>?_,fun hk _=>⟨⟨?_,zoi hi.2 hk⟩,by simp only [LN] at hc; omega⟩⟩,fun hc=>?_⟩⟩,fun _ hb _=>.inr ⟨hb,rfl⟩⟩
  all_goals simp only [LN] at hc
  · exact .inl ⟨i,by omega,zjZ.1 hk,zoK (by omega) _ _⟩
  · omega
  · exact fun q hq=>hi.2 q (by omega)

theorem zg3 (l:List Claim) (c_:Claim):(fun (x:(List Claim))=>Merged (fG c_) l c_ x) (Fv l c_):=have h:=Sk.pval _ (zhW l c_); h
theorem zj2 (l:List Claim) (c_:Claim) (hl:l.length≤1000000000000):(Jc l c_).obs (fun _=>True):=by
  refine Sk.obs_of _ ?_
  unfold Jc
  simp only [Sk.obq,Sk.isLoop,reduceCtorEq,ON,kk,zA,ZH,Fs,forall_eq,maxLen]
  refine ⟨⟨⟨Nat.zero_le _,fun q hq=>absurd hq (by omega)⟩,fun i hi hm=>⟨fun hc=>?_,fun hc q hq=>hi.2 q (by simp only [LN] at hc; omega)⟩⟩,fun b hb=>?_⟩
  · simp only [LN] at hc
    refine ⟨⟨⟨by omega,by omega⟩,by omega⟩,fun _=>⟨fun hk=>?_,fun hk _=>⟨(jj (by omega) (by omega)).trans (by omega),⟨by omega,zoi hi.2 hk⟩,by omega⟩⟩⟩
    simp only [List.length_set]
    refine ⟨⟨⟨by omega,by omega⟩,by omega⟩,fun _=>?_⟩
    (repeat' first | exact trivial | (apply And.intro) | (intro h))
    all_goals first | rfl | trivial | omega
  · simp only [List.length_cons,List.length_nil]
    omega

theorem zii (l:List Claim) (c_:Claim) (hl:l.length≤1000000000000):FnA Tryz.prog 124 [ow 777776 l,av c_.cells] [(777776,jz 67 9 Claim.cells l)] (ow 777777 (Fv l c_)) [(777777,jz 67 9 Claim.cells (Fv l c_))] :=
  FnA.sk tok mixed (fun x=>ow 777777 x) (fun x=>[(777777,jz 67 9 Claim.cells x)]) Tryz.func124 rfl (by kernel_rfl) 3000 (Jc l c_) (by kernel_rfl) (zj2 l c_ hl)
def KZ (κ κ':Nat) (l:List Claim) (c_:Claim):WY ((List Claim)):=⟨Tryz.prog,124,[ow κ l,av c_.cells],[(κ,jz 67 9 Claim.cells l)],fun x=>ow κ' x,fun x=>[(κ',jz 67 9 Claim.cells x)],Fv l c_,(l.length≤1000000000000),fun h=>FnA.rekeyA κ rfl (FnA.rekeyR κ' (zii l c_ h)),fun (x:(List Claim))=>Merged (fG c_) l c_ x,zg3 l c_⟩
def KD (l:List Claim) (c_:Claim):Sk ((List Claim)) :=
 .bind true (fun b1=>∀ q,q < l.length→¬ KG (l.getD q default) c_)
 (.loop (default:Sum ((List Claim)) (Unit)) (fun i2=>i2≤l.length∧∀ q,q < i2→¬ KG (l.getD q default) c_) (fun i2=>l.length - i2) (0:Nat)
 (fun (i2:Nat)=>⟨[(9,iv ((i2:Nat):Int))],[]⟩) fun i2 =>
 .bnd 0 0 l.length <|
 .br (decide (((i2:Nat):Int) < ((l.length:Nat):Int)))
 (.r 3 (.andl (.p (ixP ((i2:Nat):Int) l.length)) (.p (i2 < l.length))) fun _ =>
 .r 4 (.dep ((ZH (l.getD i2 default)).c) fun _=>(ZH c_).c) fun p6 =>
 .br ((p6.1.debtor == p6.2.debtor)&&((p6.1.creditor == p6.2.creditor)&&((p6.1.part == p6.2.part)&&((p6.1.sign == p6.2.sign)&&((p6.1.by_ == p6.2.by_)&&true)))))
 (.r 5 (.andl (.p (ixP ((i2:Nat):Int) l.length)) (.andl (.o [.nrm (VI Claim.E l i2 ({ l.getD i2 default with sum:=qO 1099511627776 (w64 (((l.getD i2 default).sum)+c_.sum)) }))]) (.p (i2 < l.length)))) fun _ =>
 .wn 777776 l.length (l.set i2 ({ l.getD i2 default with sum:=qO 1099511627776 (w64 (((l.getD i2 default).sum)+c_.sum)) })).length <|
 .r 6 (.depr ((zA ((l.getD i2 default).state) c_.state).c) fun x5=>.andl (.p (ixP ((i2:Nat):Int) ((l.set i2 ({ l.getD i2 default with sum:=qO 1099511627776 (w64 (((l.getD i2 default).sum)+c_.sum)) })).length))) (.andl (.o [.nrm (VI Claim.E (l.set i2 ({ l.getD i2 default with sum:=qO 1099511627776 (w64 (((l.getD i2 default).sum)+c_.sum)) })) i2 ({ (l.set i2 ({ l.getD i2 default with sum:=qO 1099511627776 (w64 (((l.getD i2 default).sum)+c_.sum)) })).getD i2 default with state:=x5 }))]) (.p (i2 < (l.set i2 ({ l.getD i2 default with sum:=qO 1099511627776 (w64 (((l.getD i2 default).sum)+c_.sum)) })).length)))) fun x5 =>
 .wn 777776 (l.set i2 ({ l.getD i2 default with sum:=qO 1099511627776 (w64 (((l.getD i2 default).sum)+c_.sum)) })).length ((l.set i2 ({ l.getD i2 default with sum:=qO 1099511627776 (w64 (((l.getD i2 default).sum)+c_.sum)) })).set i2 ({ (l.set i2 ({ l.getD i2 default with sum:=qO 1099511627776 (w64 (((l.getD i2 default).sum)+c_.sum)) })).getD i2 default with state:=x5 })).length <|
 .fin (.inl (.inl ((l.set i2 ({ l.getD i2 default with sum:=qO 1099511627776 (w64 (((l.getD i2 default).sum)+c_.sum)) })).set i2 ({ (l.set i2 ({ l.getD i2 default with sum:=qO 1099511627776 (w64 (((l.getD i2 default).sum)+c_.sum)) })).getD i2 default with state:=x5 })))))
 (.r 8 .z fun _ =>
 .wi 9 (w64 (((i2:Nat):Int)+1)) ((i2+1:Nat):Int) <|
 .fin (.inr (i2+1))))
 (.fin (.inl (.inr ()))))
 (fun (_:Unit)=>⟨[],[]⟩) fun _ =>
 .r 9 (.andl (.o [.nrm (qk Claim.E [c_])]) (.andl (.o [.nrm (gy Claim.E l [c_])]) (.andl (.t (Claim.E.ones [c_])) (.p (szP l.length [c_].length 72))))) fun _ =>
 .fin (l++[c_])
def zbm (l:List Claim) (c_:Claim):(List Claim):=(KD l c_).val
theorem zke (l:List Claim) (c_:Claim):(KD l c_).pst (fun (x:(List Claim))=>Merged (fJ c_) l c_ x):=by
  refine Sk.pst_of _ ?_
  unfold KD
  simp only [Sk.pstq,Sk.isLoop,reduceCtorEq,ON,kk,zA,ZH,Fs,forall_eq,maxLen]
  refine ⟨⟨⟨Nat.zero_le _,fun q hq=>absurd hq (by omega)⟩,fun i hi=>⟨fun hc _=>⟨fun hk _=>?_,fun hk _=>⟨⟨?_,zoi hi.2 hk⟩,by simp only [LN] at hc; omega⟩⟩,fun hc=>?_⟩⟩,fun _ hb _=>.inr ⟨hb,rfl⟩⟩
  all_goals simp only [LN] at hc
  · exact .inl ⟨i,by omega,zjZ.1 hk,zoK (by omega) _ _⟩
  · omega
  · exact fun q hq=>hi.2 q (by omega)

theorem ziq (l:List Claim) (c_:Claim):(fun (x:(List Claim))=>Merged (fJ c_) l c_ x) (zbm l c_):=have h:=Sk.pval _ (zke l c_); h
theorem zlA (l:List Claim) (c_:Claim) (hl:l.length≤1000000000000):(KD l c_).obs (fun _=>True):=by
  refine Sk.obs_of _ ?_
  unfold KD
  simp only [Sk.obq,Sk.isLoop,reduceCtorEq,ON,kk,zA,ZH,Fs,forall_eq,maxLen]
  refine ⟨⟨⟨Nat.zero_le _,fun q hq=>absurd hq (by omega)⟩,fun i hi hm=>⟨fun hc=>?_,fun hc q hq=>hi.2 q (by simp only [LN] at hc; omega)⟩⟩,fun b hb=>?_⟩
  · simp only [LN] at hc
    refine ⟨⟨⟨by omega,by omega⟩,by omega⟩,fun _=>⟨fun hk=>?_,fun hk _=>⟨(jj (by omega) (by omega)).trans (by omega),⟨by omega,zoi hi.2 hk⟩,by omega⟩⟩⟩
    simp only [List.length_set]
    refine ⟨⟨⟨by omega,by omega⟩,by omega⟩,fun _=>?_⟩
    (repeat' first | exact trivial | (apply And.intro) | (intro h))
    all_goals first | rfl | trivial | omega
  · simp only [List.length_cons,List.length_nil]
    omega

theorem zla (l:List Claim) (c_:Claim) (hl:l.length≤1000000000000):FnA Tryz.prog 125 [ow 777776 l,av c_.cells] [(777776,jz 67 9 Claim.cells l)] (ow 777777 (zbm l c_)) [(777777,jz 67 9 Claim.cells (zbm l c_))] :=
  FnA.sk tok mixed (fun x=>ow 777777 x) (fun x=>[(777777,jz 67 9 Claim.cells x)]) Tryz.func125 rfl (by kernel_rfl) 3000 (KD l c_) (by kernel_rfl) (zlA l c_ hl)
def ZP (κ κ':Nat) (l:List Claim) (c_:Claim):WY ((List Claim)):=⟨Tryz.prog,125,[ow κ l,av c_.cells],[(κ,jz 67 9 Claim.cells l)],fun x=>ow κ' x,fun x=>[(κ',jz 67 9 Claim.cells x)],zbm l c_,(l.length≤1000000000000),fun h=>FnA.rekeyA κ rfl (FnA.rekeyR κ' (zla l c_ h)),fun (x:(List Claim))=>Merged (fJ c_) l c_ x,ziq l c_⟩
def Jl (l:List Claim) (a:jI) (kind:Int) (stranger:Bool):Sk ((List Claim) × (List Step)) :=
 .r 2 ((Vk 21 l).c) fun x1 =>
 .bind true (fun b2=>zbP l a stranger l.length b2.1 b2.2.2∧b2.2.1.length≤l.length∧b2.2.2.length≤l.length)
 (.loop (default:Sum ((List Claim) × (List Step)) ((List Claim) × (List Step) × (List Claim))) (fun i3=>i3.2.2.2≤l.length∧zbP l a stranger i3.2.2.2 i3.1 i3.2.2.1∧i3.2.1.length≤i3.2.2.2∧i3.2.2.1.length≤i3.2.2.2) (fun i3=>l.length - i3.2.2.2) ((x1,[],[],0):(List Claim) × (List Step) × (List Claim) × Nat)
 (fun (i3:(List Claim) × (List Step) × (List Claim) × Nat)=>⟨[(8,ow 100006 i3.1),(9,ow 100007 i3.2.1),(11,ow 100008 i3.2.2.1),(24,iv ((i3.2.2.2:Nat):Int))],[(100006,jz 67 9 Claim.cells i3.1),(100007,jz 165 4 Step.cells i3.2.1),(100008,jz 67 9 Claim.cells i3.2.2.1)]⟩) fun i3 =>
 .bnd 22 0 l.length <|
 .br (decide (((i3.2.2.2:Nat):Int) < ((l.length:Nat):Int)))
 (.r 6 (.p (ixP ((i3.2.2.2:Nat):Int) l.length)) fun _ =>
 .r 7 ((Hf a stranger (l.getD i3.2.2.2 default)).c) fun x4 =>
 .br (!x4)
 (.r 14 .z fun _ =>
 .wi 24 (w64 (((i3.2.2.2:Nat):Int)+1)) ((i3.2.2.2+1:Nat):Int) <|
 .fin (.inr (i3.1,i3.2.1,i3.2.2.1,i3.2.2.2+1)))
 (.r 9 (.andl (.p (ixP ((i3.2.2.2:Nat):Int) i3.1.length)) (.andl (.o [.nrm (VI Claim.E i3.1 i3.2.2.2 ({ i3.1.getD i3.2.2.2 default with sum:=w64 ((ki 0 ((l.getD i3.2.2.2 default).sum)) - (qO (ki 0 a.sum) (ki 0 ((l.getD i3.2.2.2 default).sum)))) }))]) (.p (i3.2.2.2 < i3.1.length)))) fun _ =>
 .wn 100006 i3.1.length (i3.1.set i3.2.2.2 ({ i3.1.getD i3.2.2.2 default with sum:=w64 ((ki 0 ((l.getD i3.2.2.2 default).sum)) - (qO (ki 0 a.sum) (ki 0 ((l.getD i3.2.2.2 default).sum)))) })).length <|
 .r 10 (.andl (.o [.nrm (qk Step.E [({ debtor:=(l.getD i3.2.2.2 default).debtor,creditor:=(l.getD i3.2.2.2 default).creditor,sign:=(l.getD i3.2.2.2 default).sign,sum:=qO (ki 0 a.sum) (ki 0 ((l.getD i3.2.2.2 default).sum)) }:Step)])]) (.andl (.o [.nrm (gy Step.E i3.2.1 [({ debtor:=(l.getD i3.2.2.2 default).debtor,creditor:=(l.getD i3.2.2.2 default).creditor,sign:=(l.getD i3.2.2.2 default).sign,sum:=qO (ki 0 a.sum) (ki 0 ((l.getD i3.2.2.2 default).sum)) }:Step)])]) (.andl (.t (Step.E.ones [({ debtor:=(l.getD i3.2.2.2 default).debtor,creditor:=(l.getD i3.2.2.2 default).creditor,sign:=(l.getD i3.2.2.2 default).sign,sum:=qO (ki 0 a.sum) (ki 0 ((l.getD i3.2.2.2 default).sum)) }:Step)])) (.p (szP i3.2.1.length [({ debtor:=(l.getD i3.2.2.2 default).debtor,creditor:=(l.getD i3.2.2.2 default).creditor,sign:=(l.getD i3.2.2.2 default).sign,sum:=qO (ki 0 a.sum) (ki 0 ((l.getD i3.2.2.2 default).sum)) }:Step)].length 32))))) fun _ =>
 .br (((kind != 1)&&((((l.getD i3.2.2.2 default).turn) == 0)||(decide (((l.getD i3.2.2.2 default).sign) < a.at_))))&&(((l.getD i3.2.2.2 default).debtor) != a.who))
 (.r 13 ((KZ 100008 90 i3.2.2.1 ({ l.getD i3.2.2.2 default with creditor:=a.who,by_:=a.at_,sum:=qO (ki 0 a.sum) (ki 0 ((l.getD i3.2.2.2 default).sum)) })).c) fun x5 =>
 .r 14 .z fun _ =>
 .wi 24 (w64 (((i3.2.2.2:Nat):Int)+1)) ((i3.2.2.2+1:Nat):Int) <|
 .fin (.inr (i3.1.set i3.2.2.2 ({ i3.1.getD i3.2.2.2 default with sum:=w64 ((ki 0 ((l.getD i3.2.2.2 default).sum)) - (qO (ki 0 a.sum) (ki 0 ((l.getD i3.2.2.2 default).sum)))) }),i3.2.1++[({ debtor:=(l.getD i3.2.2.2 default).debtor,creditor:=(l.getD i3.2.2.2 default).creditor,sign:=(l.getD i3.2.2.2 default).sign,sum:=qO (ki 0 a.sum) (ki 0 ((l.getD i3.2.2.2 default).sum)) }:Step)],x5,i3.2.2.2+1)))
 (.r 14 .z fun _ =>
 .wi 24 (w64 (((i3.2.2.2:Nat):Int)+1)) ((i3.2.2.2+1:Nat):Int) <|
 .fin (.inr (i3.1.set i3.2.2.2 ({ i3.1.getD i3.2.2.2 default with sum:=w64 ((ki 0 ((l.getD i3.2.2.2 default).sum)) - (qO (ki 0 a.sum) (ki 0 ((l.getD i3.2.2.2 default).sum)))) }),i3.2.1++[({ debtor:=(l.getD i3.2.2.2 default).debtor,creditor:=(l.getD i3.2.2.2 default).creditor,sign:=(l.getD i3.2.2.2 default).sign,sum:=qO (ki 0 a.sum) (ki 0 ((l.getD i3.2.2.2 default).sum)) }:Step)],i3.2.2.1,i3.2.2.2+1)))))
 (.fin (.inl (.inr (i3.1,i3.2.1,i3.2.2.1)))))
 (fun (b2:(List Claim) × (List Step) × (List Claim))=>⟨[(8,ow 100003 b2.1),(9,ow 100004 b2.2.1),(11,ow 100005 b2.2.2)],[(100003,jz 67 9 Claim.cells b2.1),(100004,jz 165 4 Step.cells b2.2.1),(100005,jz 67 9 Claim.cells b2.2.2)]⟩) fun b2 =>
 .bind true (fun b6=>zik a b2.1 b2.2.2 b2.2.2.length b6)
 (.loop (default:Sum ((List Claim) × (List Step)) ((List Claim))) (fun i7=>i7.2≤b2.2.2.length∧zik a b2.1 b2.2.2 i7.2 i7.1) (fun i7=>b2.2.2.length - i7.2) ((b2.1,0):(List Claim) × Nat)
 (fun (i7:(List Claim) × Nat)=>⟨[(8,ow 100011 i7.1),(94,iv ((i7.2:Nat):Int))],[(100011,jz 67 9 Claim.cells i7.1)]⟩) fun i7 =>
 .bnd 92 0 b2.2.2.length <|
 .br (decide (((i7.2:Nat):Int) < ((b2.2.2.length:Nat):Int)))
 (.r 17 (.andl (.p (ixP ((i7.2:Nat):Int) b2.2.2.length)) (.p (i7.2 < b2.2.2.length))) fun _ =>
 .r 18 ((ZP 100011 100 i7.1 (b2.2.2.getD i7.2 default)).c) fun x8 =>
 .r 19 .z fun _ =>
 .wi 94 (w64 (((i7.2:Nat):Int)+1)) ((i7.2+1:Nat):Int) <|
 .fin (.inr (x8,i7.2+1)))
 (.fin (.inl (.inr i7.1))))
 (fun (b6:(List Claim))=>⟨[(8,ow 100010 b6)],[(100010,jz 67 9 Claim.cells b6)]⟩) fun b6 =>
 .fz 100004 <|
 .fin (b6,b2.2.1)
def GL (l:List Claim) (a:jI) (kind:Int) (stranger:Bool):(List Claim) × (List Step):=(Jl l a kind stranger).val
theorem ziJ (l:List Claim) (a:jI) (kind:Int) (stranger:Bool):(Jl l a kind stranger).pst (fun (x:(List Claim) × (List Step))=>Wi l a stranger x.1):=by
  refine Sk.pst_of _ ?_
  unfold Jl
  simp only [Sk.pstq,Sk.isLoop,reduceCtorEq,ON,kk,KZ,ZP,Hf,Vk,KZ,ZP,WY.c,uU,forall_eq,maxLen]
  intro hx
  refine ⟨⟨⟨Nat.zero_le _,by rw [hx.2]; exact zbP.init l a stranger,Nat.le_refl _,Nat.le_refl _⟩,fun i hi=>⟨fun hc _=>?_,fun hc=>?_⟩⟩,fun b hb=>⟨⟨⟨Nat.zero_le _,zik.init a _ _⟩,fun i hi=>⟨fun hc _ hM _=>?_,fun hc=>?_⟩⟩,fun b1 hb1=>Wi.mk' hb.1 rfl hb1 (Nat.le_refl _)⟩⟩
  all_goals simp only [LN] at hc
  · have hk:i.2.2.2 < l.length:=by omega
    have hi2:=hi.2.2
    refine ⟨fun hm _=>⟨⟨by omega,hi.2.1.skip hk (by rw [uU]; exact (Bool.not_eq_true' _).mp hm),by omega,by omega⟩,by omega⟩,fun hm _ _=>?_⟩
    have hm':uG a stranger (l.getD i.2.2.2 default)=true:=by rw [uU]; exact (Bool.not_eq_false' _).mp hm
    refine ⟨fun hg hM _=>⟨⟨by omega,hi.2.1.meet hk hm' (hi.2.1.2.2.group (zlP (uP hk) ?_ _ rfl) hM),?_,?_⟩,by omega⟩,fun _ _=>⟨⟨by omega,hi.2.1.meet hk hm' hi.2.1.2.2,?_,by omega⟩,by omega⟩⟩
    · simp only [LN] at hg
      exact hg.2
    · rw [List.length_append,List.length_singleton]; omega
    · exact Nat.le_trans hM.len (by omega)
    · rw [List.length_append,List.length_singleton]; omega
  · have e:i.2.2.2=l.length:=by omega
    rw [e] at hi
    exact hi.2
  · have hk:i.2 < b.2.2.length:=by omega
    have hin:=hb.1.2.2.1 _ (uP hk)
    exact ⟨⟨by omega,hi.2.step (uP hk) hin.1.1 hM⟩,by omega⟩
  · have e:i.2=b.2.2.length:=by omega
    rw [e] at hi
    exact hi.2

theorem zfq (l:List Claim) (a:jI) (kind:Int) (stranger:Bool):(fun (x:(List Claim) × (List Step))=>Wi l a stranger x.1) (GL l a kind stranger):=have h:=Sk.pval _ (ziJ l a kind stranger); h
theorem zkS (l:List Claim) (a:jI) (kind:Int) (stranger:Bool) (hl:l.length≤1000000000):(Jl l a kind stranger).obs (fun _=>True):=by
  refine Sk.obs_of _ ?_
  unfold Jl
  simp only [Sk.obq,Sk.isLoop,reduceCtorEq,ON,kk,KZ,ZP,Hf,Vk,KZ,ZP,WY.c,uU,forall_eq,maxLen]
  refine ⟨hl,fun hx=>⟨⟨⟨Nat.zero_le _,by rw [hx.2]; exact zbP.init l a stranger,Nat.le_refl _,Nat.le_refl _⟩,fun i hi hmx=>⟨fun hc=>?_,fun hc=>?_⟩⟩,fun b hb=>⟨⟨Nat.zero_le _,zik.init a _ _⟩,fun i hi hmx=>⟨fun hc=>?_,fun hc=>?_⟩⟩⟩⟩
  all_goals simp only [LN] at hc
  · have hk:i.2.2.2 < l.length:=by omega
    have hi2:=hi.2.2
    have hol:=hi.2.1.1
    have hw:w64 ((i.2.2.2:Int)+1)=((i.2.2.2+1:Nat):Int):=(jj (by omega) (by omega)).trans (by omega)
    refine ⟨⟨by omega,by omega⟩,fun _=>⟨fun hm _=>⟨hw,⟨by omega,hi.2.1.skip hk (by rw [uU]; exact (Bool.not_eq_true' _).mp hm),by omega,by omega⟩,by omega⟩,fun hm=>⟨⟨⟨by omega,by omega⟩,by omega⟩,fun _=>⟨by rw [List.length_set],⟨by simp only [List.length_singleton]; omega,by simp only [List.length_singleton]; omega⟩,fun _=>?_⟩⟩⟩⟩
    have hm':uG a stranger (l.getD i.2.2.2 default)=true:=by rw [uU]; exact (Bool.not_eq_false' _).mp hm
    refine ⟨fun hg=>⟨by omega,fun hM _=>⟨hw,⟨by omega,hi.2.1.meet hk hm' (hi.2.1.2.2.group (zlP (uP hk) ?_ _ rfl) hM),?_,?_⟩,by omega⟩⟩,fun _ _=>⟨hw,⟨by omega,hi.2.1.meet hk hm' hi.2.1.2.2,?_,by omega⟩,by omega⟩⟩
    · simp only [LN] at hg
      exact hg.2
    · rw [List.length_append,List.length_singleton]; omega
    · exact Nat.le_trans hM.len (by omega)
    · rw [List.length_append,List.length_singleton]; omega
  · have e:i.2.2.2=l.length:=by omega
    rw [e] at hi
    exact hi.2
  · have hk:i.2 < b.2.2.length:=by omega
    have hin:=hb.1.2.2.1 _ (uP hk)
    have hln:=hi.2.1
    have hol:=hb.1.1
    exact ⟨⟨⟨by omega,by omega⟩,hk⟩,fun _=>⟨by omega,fun hM _=>⟨(jj (by omega) (by omega)).trans (by omega),⟨by omega,hi.2.step (uP hk) hin.1.1 hM⟩,by omega⟩⟩⟩
  · have e:i.2=b.2.2.length:=by omega
    rw [e] at hi
    exact hi.2

theorem ziu (l:List Claim) (a:jI) (kind:Int) (stranger:Bool) (hl:l.length≤1000000000):FnA Tryz.prog 81 [lv Claim.cells l,av a.cells,iv kind,bv stranger] [] (.tup [ow 777777 (GL l a kind stranger).1,lv Step.cells ((GL l a kind stranger).2)]) [(777777,jz 67 9 Claim.cells (GL l a kind stranger).1)] :=
  FnA.sk tok mixed (fun x=>.tup [ow 777777 x.1,lv Step.cells x.2]) (fun x=>[(777777,jz 67 9 Claim.cells x.1)]) Tryz.func81 rfl (by kernel_rfl) 3000 (Jl l a kind stranger) (by kernel_rfl) (zkS l a kind stranger hl)
def Wr (κ:Nat) (l:List Claim) (a:jI) (kind:Int) (stranger:Bool):vT ((List Claim) × (List Step)):=⟨Tryz.prog,81,[lv Claim.cells l,av a.cells,iv kind,bv stranger],fun x=>.tup [ow κ x.1,lv Step.cells x.2],fun x=>[(κ,jz 67 9 Claim.cells x.1)],GL l a kind stranger,(l.length≤1000000000),fun h=>FnA.rekeyT κ rfl (ziu l a kind stranger h),fun (x:(List Claim) × (List Step))=>Wi l a stranger x.1,zfq l a kind stranger⟩
theorem zmu {β Y γ:Type} (g:Y→List β) {f:List β→Y→γ ⊕ List β}:∀ (l:List Y) (s:List β),(∀ s y,y∈l→f s y=.inr (s++g y))→Qn f l s=.inr (s++l.flatMap g)
  | [],s,_=>by simp [Qn]
  | y :: r,s,h=>by
    simp only [Qn,h s y (by simp)]
    rw [zmu g r _ (fun s z hz=>h s z (by simp [hz]))]
    simp
theorem zlx {α β ι δ:Type} [Inhabited α] (l:List α) (g:α→List β) (pack:List β→Nat→ι) {f:ι→δ ⊕ ι} {d:δ} (e:List β→δ)
    (hs:∀ s i,i < l.length→f (pack s i)=.inr (pack (s++g (l.getD i default)) (i+1))) (he:∀ s,f (pack s l.length)=.inl (e s)) {n:Nat} (hn:l.length < n) (s:List β):iter f d n (pack s 0)=e (s++l.flatMap g):=by
  rw [Qz (d:=d) l pack (fun x s=>.inr (s++g x)) e hs he hn s,GM (fun x s=>s++g x) e]
  congr 1
  clear hs he hn
  induction l generalizing s with
  | nil=>simp
  | cons x r ih=>rw [List.foldl_cons,ih]; simp
/-- a claim of an owner by a signature,if there is one -/
def WU (r:jg) (forum:Int) (f:jh) (day:Int) (c:qc) (eff:List kh) (links:List Int) (part:Int) (o:yu) (sign:Int):List Claim :=
  bif (jU c o sign links eff).1 == 0||(c.view.now.signs.getD sign.toNat default).who == o.firm then [] else
  [{ debtor:=(c.view.now.signs.getD sign.toNat default).who,creditor:=o.firm,part:=part,sign:=sign,by_:=o.sign,turn:=(jU c o sign links eff).2,sum:=(KA r forum f sign day).rest,currency:=f.bill.currency,state:=(jU c o sign links eff).1 }]
def zhb (r:jg) (forum:Int) (f:jh) (day:Int) (c:qc) (eff:List kh):List Claim :=
  c.view.lead.flatMap fun part=>(jJ c (jp c.view part)).flatMap fun o=>(jR c.view part o.sign (jp c.view part)).flatMap fun sign=>WU r forum f day c eff (jp c.view part) part o sign
theorem zi3 (r:jg) (forum:Int) (f:jh) (day:Int):qo r forum f day=bif !(jx r forum f day).2 then [] else zhb r forum f day (jx r forum f day).1 (kH r forum f day):=by
  unfold qo JI
  dsimp +instances only [Sk.val_bind,Sk.val_loop,Sk.val_bnd,Sk.val_br,Sk.val_r,Sk.val_wi,Sk.val_fin,Sk.val_rf,Ctr.c_v,kk,zbI,UL,QE,Qh,KU,YG,uY,Cal.andl_v]
  cases (jx r forum f day).2 with
  | false=>rfl
  | true =>
    simp only [Bool.not_true,cond_false]
    refine Eq.trans (congrArg (fun q=>Kv q fun b=>b) (zlx (jx r forum f day).1.view.lead (fun part=>(jJ (jx r forum f day).1 (jp (jx r forum f day).1.view part)).flatMap fun o=>(jR (jx r forum f day).1.view part o.sign (jp (jx r forum f day).1.view part)).flatMap fun sign=>WU r forum f day (jx r forum f day).1 (kH r forum f day) (jp (jx r forum f day).1.view part) part o sign) (fun s i=>(i,s)) (fun s=>Sum.inr s) (fun s i hi=>?_) (fun s=>?_) (by simp) [])) ?_
    · dsimp only
      rw [decide_eq_true (by omega),cond_true]
      rw [zmu (fun o=>(jR (jx r forum f day).1.view ((jx r forum f day).1.view.lead.getD i default) o.sign (jp (jx r forum f day).1.view ((jx r forum f day).1.view.lead.getD i default))).flatMap fun sign=>WU r forum f day (jx r forum f day).1 (kH r forum f day) (jp (jx r forum f day).1.view ((jx r forum f day).1.view.lead.getD i default)) ((jx r forum f day).1.view.lead.getD i default) o sign) _ s (fun s y _=>?_)]
      · rfl
      · refine Eq.trans (congrArg (fun q=>Kv (Kv q _) _) (zlx (jR (jx r forum f day).1.view ((jx r forum f day).1.view.lead.getD i default) y.sign (jp (jx r forum f day).1.view ((jx r forum f day).1.view.lead.getD i default))) (fun sign=>WU r forum f day (jx r forum f day).1 (kH r forum f day) (jp (jx r forum f day).1.view ((jx r forum f day).1.view.lead.getD i default)) ((jx r forum f day).1.view.lead.getD i default) y sign) (fun s i=>(i,s)) (fun s=>Sum.inr (((jR (jx r forum f day).1.view ((jx r forum f day).1.view.lead.getD i default) y.sign (jp (jx r forum f day).1.view ((jx r forum f day).1.view.lead.getD i default))).length:Int),s)) (fun s k hk=>?_) (fun s=>?_) (by simp) s)) ?_
        · dsimp only
          rw [decide_eq_true (by omega),cond_true]
          unfold WU
          cases (jU (jx r forum f day).1 y ((jR (jx r forum f day).1.view ((jx r forum f day).1.view.lead.getD i default) y.sign (jp (jx r forum f day).1.view ((jx r forum f day).1.view.lead.getD i default))).getD k default) (jp (jx r forum f day).1.view ((jx r forum f day).1.view.lead.getD i default)) (kH r forum f day)).1 == 0||((jx r forum f day).1.view.now.signs.getD ((jR (jx r forum f day).1.view ((jx r forum f day).1.view.lead.getD i default) y.sign (jp (jx r forum f day).1.view ((jx r forum f day).1.view.lead.getD i default))).getD k default).toNat default).who == y.firm with
          | true=>simp only [cond_true,List.append_nil]
          | false=>simp only [cond_false]
        · dsimp only
          rw [decide_eq_false (by omega),cond_false]
        · rfl
    · dsimp only
      rw [decide_eq_false (by omega),cond_false]
    · rw [List.nil_append]
      rfl
theorem Ya {α β:Type} {g:α→List β} {m:Nat}:∀ (l:List α),(∀ x,x∈l→(g x).length≤m)→(l.flatMap g).length≤l.length * m
  | [],_=>by simp
  | x :: r,h=>by
    have h1:=Ya r (fun y hy=>h y (by simp [hy]))
    have h2:=h x (by simp)
    rw [List.flatMap_cons,List.length_append,List.length_cons,Nat.succ_mul]
    omega
theorem zfL {r:jg} {forum:Int} {f:jh} {day:Int} (hF:jX r f):(qo r forum f day).length≤67240:=by
  rw [zi3]
  cases ht:(jx r forum f day).2 with
  | false=>simp
  | true =>
    rw [Bool.not_true,cond_false]
    have he:=(WJ r forum f day ht).1
    have hv:(jx r forum f day).1.view=jY f day:=by rw [he]
    have ho:=YX f day
    have h40:=hF.2.1.1
    have hk:∀ part,(jp (jY f day) part).length≤40:=fun part=>by
      have h:=(us (jY f day) part).1
      rw [ho.1] at h
      omega
    unfold zhb
    rw [hv]
    refine Nat.le_trans (Ya (m:=1640) _ fun part _=>Nat.le_trans (Ya (m:=40) _ fun o _=>Nat.le_trans (Ya (m:=1) _ fun s _=>?_) ?_) ?_) ?_
    · unfold WU
      cases (jU (jx r forum f day).1 o s (jp (jY f day) part) (kH r forum f day)).1 == 0||((jx r forum f day).1.view.now.signs.getD s.toNat default).who == o.firm <;> simp
    · have h:=(gC (jY f day) part o.sign (jp (jY f day) part)).1
      have h2:=Ql f day
      rw [ho.2.1] at h
      omega
    · have h:=Bt (jx r forum f day).1 (jp (jY f day) part)
      have h2:=hk part
      omega
    · have h:=ho.2.2.2.2
      omega
/-- how many links lie from one signature to another -/
def zj7 (links:List Int) (lo hi:Int):Nat:=(links.filter fun l=>decide (l≤hi)&&decide (l≥lo)).length
def zkr (links:List Int) (hi:Int):Nat:=(links.filter fun l=>decide (l≤hi)).length
theorem zpE (links:List Int) (lo hi:Int) {i:Nat} (h:i < links.length):zj7 (links.take (i+1)) lo hi=zj7 (links.take i) lo hi+(bif decide (links.getD i default≤hi)&&decide (links.getD i default≥lo) then 1 else 0):=by
  unfold zj7
  rw [List.take_succ_eq_append_getElem h,List.filter_append,List.length_append,show links.getD i default=links[i] by simp [List.getD,h]]
  congr 1
  cases hc:decide (links[i]≤hi)&&decide (links[i]≥lo) with
  | true=>rw [List.filter_cons_of_pos (by simpa using hc)]; rfl
  | false=>rw [List.filter_cons_of_neg (by simpa using hc)]; rfl
theorem zpc (links:List Int) (hi:Int) {i:Nat} (h:i < links.length):zkr (links.take (i+1)) hi=zkr (links.take i) hi+(bif decide (links.getD i default≤hi) then 1 else 0):=by
  unfold zkr
  rw [List.take_succ_eq_append_getElem h,List.filter_append,List.length_append,show links.getD i default=links[i] by simp [List.getD,h]]
  congr 1
  cases hc:decide (links[i]≤hi) with
  | true=>rw [List.filter_cons_of_pos (by simpa using hc)]; rfl
  | false=>rw [List.filter_cons_of_neg (by simpa using hc)]; rfl
theorem zq5 (links:List Int) (lo hi:Int):zj7 links lo hi≤links.length:=List.length_filter_le ..
theorem zrh (links:List Int) (hi:Int):zkr links hi≤links.length:=List.length_filter_le ..
def Gj (c:qc):Bool:=(c.due != (-1))&&decide (c.view.day≥c.due)
theorem zqC (c:qc) (o:yu) (sign:Int) (links:List Int) (eff:List kh) (hl:links.length≤1000000):jU c o sign links eff =
    bif (c.view.now.signs.getD (jK c.view sign).toNat default).kind == 1 then (bif !(Gj c) then (0,0) else (ZF o.state (eff.getD sign.toNat default).binds,0)) else
    bif ((!(Gj c))&&(!(kL c.view.now.acts)))||(!((eff.getD (jK c.view sign).toNat default).recourse)) then (0,0) else
    (ZF (ZF o.state (eff.getD sign.toNat default).binds) (Hl c.r c.forum c.view.all (jK c.view sign) c.view.day).all,
      bif !(slices_Contains links (jK c.view sign)) then (1+(zkr links o.sign:Int)) else (zj7 links (jK c.view sign) o.sign:Int)):=by
  unfold jU zX
  dsimp +instances only [Sk.val_bind,Sk.val_loop,Sk.val_bnd,Sk.val_br,Sk.val_r,Sk.val_wi,Sk.val_fin,Ctr.c_v,kk,Cal.andl_v,Cal.wh_v,Cal.dep_v,ZZ,QI,vq,jr,QW]
  have hloop:∀ d:(Int × Int) ⊕ (Int × Int),iter (fun i5:Int × Int × Nat=>bif decide (((i5.2.2:Nat):Int) < ((links.length:Nat):Int)) then
      (Kv (bif decide ((links.getD i5.2.2 default)≤o.sign) then (Sum.inr (w64 (i5.2.1+1)):(((Int × Int) ⊕ (Int × Int)) ⊕ (Int × Int × Nat)) ⊕ Int) else Sum.inr i5.2.1) fun b6=>bif (decide ((links.getD i5.2.2 default)≤o.sign))&&(decide ((links.getD i5.2.2 default)≥jK c.view sign)) then Sum.inr (w64 (i5.1+1),b6,i5.2.2+1) else Sum.inr (i5.1,b6,i5.2.2+1))
      else Sum.inl (Sum.inr (i5.1,i5.2.1))) d (links.length - 0+1) (0,1,0)=Sum.inr ((zj7 links (jK c.view sign) o.sign:Int),1+(zkr links o.sign:Int)):=by
    intro d
    refine (zkJ links.length (fun n=>((zj7 (links.take n) (jK c.view sign) o.sign:Int),1+(zkr (links.take n) o.sign:Int))) (fun s i=>(s.1,s.2,i)) (fun s=>Sum.inr s) (fun i hi=>?_) ?_ (m:=links.length - 0+1) (by omega)).trans ?_
    · dsimp only
      rw [decide_eq_true (by omega),cond_true,zpE links _ _ hi,zpc links _ hi]
      have h1:=zq5 (links.take i) (jK c.view sign) o.sign
      have h2:=zrh (links.take i) o.sign
      have h3:(links.take i).length≤links.length:=by rw [List.length_take]; exact Nat.min_le_right _ _
      rw [jj (n:=(zj7 (links.take i) (jK c.view sign) o.sign:Int)+1) (by omega) (by omega),jj (n:=1+(zkr (links.take i) o.sign:Int)+1) (by omega) (by omega)]
      cases decide (links.getD i default≤o.sign) with
      | false=>simp [Kv]
      | true =>
        cases decide (links.getD i default≥jK c.view sign) with
        | false=>simp [Kv]; omega
        | true=>simp [Kv]; omega
    · dsimp only
      rw [decide_eq_false (by omega),cond_false]
    · rw [List.take_length]
  cases (c.view.now.signs.getD (jK c.view sign).toNat default).kind == 1 with
  | true=>rfl
  | false =>
    simp only [cond_false]
    show (bif ((!(Gj c))&&(!(kL c.view.now.acts)))||(!((eff.getD (jK c.view sign).toNat default).recourse)) then (0,0) else _)=_
    cases ((!(Gj c))&&(!(kL c.view.now.acts)))||(!((eff.getD (jK c.view sign).toNat default).recourse)) with
    | true=>rfl
    | false =>
      simp only [cond_false]
      refine (congrArg (fun q=>Kv q _) (hloop _)).trans ?_
      show Kv (bif !(slices_Contains links (jK c.view sign)) then Sum.inr (1+(zkr links o.sign:Int)) else Sum.inr (zj7 links (jK c.view sign) o.sign:Int)) _=_
      cases slices_Contains links (jK c.view sign) <;> rfl
theorem zl1 (a b:Int):ZF a b=0∨ZF a b=1∨ZF a b=2:=by
  have e:ZF a b=bif (a == 0)||(b == 0) then 0 else bif (a == 2)||(b == 2) then 2 else 1:=by kernel_rfl
  rw [e]
  cases (a == 0)||(b == 0) <;> cases (a == 2)||(b == 2) <;> simp
theorem zpq (c:qc) (o:yu) (sign:Int) (links:List Int) (eff:List kh) (hl:links.length≤1000000):(jU c o sign links eff).1=0∨(jU c o sign links eff).1=1∨(jU c o sign links eff).1=2:=by
  rw [zqC c o sign links eff hl]
  cases (c.view.now.signs.getD (jK c.view sign).toNat default).kind == 1 with
  | true =>
    cases Gj c with
    | false=>exact .inl rfl
    | true=>exact zl1 _ _
  | false =>
    rw [cond_false]
    cases ((!(Gj c))&&(!(kL c.view.now.acts)))||(!((eff.getD (jK c.view sign).toNat default).recourse)) with
    | true=>exact .inl rfl
    | false=>exact zl1 _ _
theorem zsh {r:jg} {forum:Int} {f:jh} {day:Int} (h:(jx r forum f day).2=true):(jx r forum f day).1=⟨jY f day,r,forum,Ju r forum f day⟩:=(WJ r forum f day h).1
theorem zmn (f:jh) (day:Int):(jY f day).all=f:=by rw [zk6]
theorem ze8 (f:jh) (day:Int):(jY f day).now=ji f day:=by rw [zk6]
theorem zpO (f:jh) (day:Int):(jY f day).day=day:=by rw [zk6]
/-- where a claim comes from -/
structure zs2 (r:jg) (forum:Int) (f:jh) (day:Int) (c:Claim) (part:Int) (o:yu) (sign:Int):Prop where
  lead:part∈(jY f day).lead
  own:o∈jJ (jx r forum f day).1 (jp (jY f day) part)
  li:sign∈jR (jY f day) part o.sign (jp (jY f day) part)
  st:(jU (jx r forum f day).1 o sign (jp (jY f day) part) (kH r forum f day)).1≠0
  ne:((ji f day).signs.getD sign.toNat default).who≠o.firm
  eq:c = { debtor:=((ji f day).signs.getD sign.toNat default).who,creditor:=o.firm,part:=part,sign:=sign,by_:=o.sign,turn:=(jU (jx r forum f day).1 o sign (jp (jY f day) part) (kH r forum f day)).2,sum:=(KA r forum f sign day).rest,currency:=f.bill.currency,state:=(jU (jx r forum f day).1 o sign (jp (jY f day) part) (kH r forum f day)).1 }
theorem zls {r:jg} {forum:Int} {f:jh} {day:Int} {c:Claim} (h:c∈qo r forum f day):((jx r forum f day).1=⟨jY f day,r,forum,Ju r forum f day⟩)∧∃ part o sign,zs2 r forum f day c part o sign:=by
  rw [zi3] at h
  cases ht:(jx r forum f day).2 with
  | false=>rw [ht] at h; cases h
  | true =>
    rw [ht,Bool.not_true,cond_false] at h
    have he:=zsh ht
    refine ⟨he,?_⟩
    unfold zhb at h
    have hv:(jx r forum f day).1.view=jY f day:=by rw [he]
    rw [hv] at h
    obtain ⟨part,hp,h⟩:=List.mem_flatMap.1 h
    obtain ⟨o,ho,h⟩:=List.mem_flatMap.1 h
    obtain ⟨sign,hs,h⟩:=List.mem_flatMap.1 h
    unfold WU at h
    rw [hv,ze8] at h
    cases hc:(jU (jx r forum f day).1 o sign (jp (jY f day) part) (kH r forum f day)).1 == 0||((ji f day).signs.getD sign.toNat default).who == o.firm with
    | true=>rw [hc] at h; cases h
    | false =>
      rw [hc,cond_false,List.mem_singleton] at h
      simp only [Bool.or_eq_false_iff,beq_eq_false_iff_ne,ne_eq] at hc
      exact ⟨part,o,sign,hp,ho,hs,hc.1,hc.2,h⟩
theorem zo4 {f:jh} {day part:Int}:(jp (jY f day) part).length≤f.signs.length:=by
  have:=(us (jY f day) part).1
  rwa [zmn] at this
theorem zc6 {r:jg} {forum:Int} {f:jh} {day:Int} {c:Claim} (hF:jX r f) (hR:r.RateOK) (h:c∈qo r forum f day) :
    (0≤c.sign∧c.sign < f.signs.length)∧(-1≤c.by_∧c.by_ < f.signs.length)∧c.debtor=(f.signs.getD c.sign.toNat default).who∧c.creditor=(if 0≤c.by_ then (f.signs.getD c.by_.toNat default).to_ else f.bill.payee) ∧
      c.debtor≠c.creditor∧(c.state=1∨c.state=2)∧JH c.sum∧c.currency=f.bill.currency:=by
  obtain ⟨he,part,o,sign,k⟩:=zls h
  have hlen:=Ql f day
  have hl:=znh k.li
  have hm:=zmV hl.2
  rw [ze8] at hm
  have hll:(jp (jY f day) part).length≤1000000:=by have:=zo4 (f:=f) (day:=day) (part:=part); have:=hF.2.1.1; omega
  have hs:=zpq (jx r forum f day).1 o sign (jp (jY f day) part) (kH r forum f day) hll
  have hst:=k.st
  have ho:=(znt k.own).1
  have hvn:(jx r forum f day).1.view.now=ji f day:=by rw [he]; exact ze8 f day
  rw [hvn,zlX] at ho
  have hby:(o.sign = -1∧o.firm=f.bill.payee)∨(0≤o.sign∧o.sign < f.signs.length∧o.firm=(f.signs.getD o.sign.toNat default).to_):=by
    rcases ho with ho | ⟨h1,h2⟩
    · exact .inl ho
    · have hk:=zps h1
      rw [zmn,zpO] at hk
      have hin:=hF.at_in hk.1 hk.2.1 hk.2.2.2.2.1
      rw [zal f day _ (by omega)] at h2
      exact .inr ⟨hk.1,hk.2.1,h2⟩
  have hown:KA r forum f sign day=KA r forum f sign day:=rfl
  have hsum:=Gi r forum f sign day ⟨hF,hR⟩
  obtain rfl:=k.eq
  refine ⟨⟨hm.1,by have:=hm.2.1; show sign < _; omega⟩,?_,?_,?_,k.ne,?_,hsum,rfl⟩
  · show -1≤o.sign∧o.sign < _
    rcases hby with hby | hby <;> omega
  · show ((ji f day).signs.getD sign.toNat default).who=_
    rw [zal f day _ (by omega)]
  · show o.firm=if 0≤o.sign then (f.signs.getD o.sign.toNat default).to_ else f.bill.payee
    rcases hby with hby | hby
    · rw [if_neg (by omega)]; exact hby.2
    · rw [if_pos hby.1]; exact hby.2.2
  · show (jU _ _ _ _ _).1=1∨_
    rcases hs with hs | hs | hs
    · exact absurd hs hst
    · exact .inl hs
    · exact .inr hs
/-- an act that is a payment -/
def zcp (g:jh) (a:jI):Prop:=a.kind=6∧0≤a.at_∧a.at_ < (g.signs.length:Int)
def zld (g:jh) (st:Bool) (to_:Int):Prop:=st=true↔∀ q,q < g.signs.length→(g.signs.getD q default).who≠to_
/-- the claims after the first k acts -/
inductive Qm (g:jh) (l0:List Claim):Nat→List Claim→Prop
  | zero:Qm g l0 0 l0
  | skip {k:Nat} {l:List Claim}:Qm g l0 k l→k < g.acts.length→¬ zcp g (g.acts.getD k default)→Qm g l0 (k+1) l
  | pay {k:Nat} {l out:List Claim} {st:Bool}:Qm g l0 k l→k < g.acts.length→zcp g (g.acts.getD k default)→zld g st (g.acts.getD k default).to_→Wi l (g.acts.getD k default) st out→Qm g l0 (k+1) out
theorem Qm.len {g:jh} {l0 l:List Claim} {k:Nat} (h:Qm g l0 k l):l0.length≤l.length:=by
  induction h with
  | zero=>exact Nat.le_refl _
  | skip _ _ _ ih=>exact ih
  | pay _ _ _ _ ha ih=>exact Nat.le_trans ih ha.len
theorem Qm.like {g:jh} {l0 l:List Claim} {k:Nat} (h:Qm g l0 k l):∀ i,i < l0.length→Hx (l.getD i default) (l0.getD i default):=by
  induction h with
  | zero=>exact fun i _=>Hx.rfl' _
  | skip _ _ _ ih=>exact ih
  | pay h _ _ _ ha ih=>exact fun i hi=>(ha.old i (Nat.lt_of_lt_of_le hi h.len)).1.trans (ih i hi)
theorem zqO {x y:Claim} (h:Hx x y):dps x=dps y:=by simp only [dps,h.1.1,h.1.2.2.1,h.1.2.2.2.1]
theorem Qm.dps {g:jh} {l0 l:List Claim} {k:Nat} (h:Qm g l0 k l):∀ x∈l,dps x∈l0.map dps:=by
  induction h with
  | zero=>exact fun x hx=>List.mem_map.2 ⟨x,hx,rfl⟩
  | skip _ _ _ ih=>exact ih
  | @pay k l out st h _ _ _ ha ih =>
    intro x hx
    obtain ⟨i,hi,rfl⟩:=List.getElem_of_mem hx
    have e:out[i]=out.getD i default:=by simp [List.getD,hi]
    rw [e]
    by_cases h1:i < l.length
    · rw [zqO (ha.old i h1).1]
      exact ih _ (uP h1)
    · obtain ⟨-,-,-,x,hx,e1,e2,e3,-⟩:=ha.new i (by omega) hi
      have:=ih x hx
      rwa [show Go.Proofs.YtilbddpghnnmhaaGreatDoor.dps (out.getD i default)=Go.Proofs.YtilbddpghnnmhaaGreatDoor.dps x by simp only [Go.Proofs.YtilbddpghnnmhaaGreatDoor.dps,e1,e2,e3]]
theorem Qm.count {g:jh} {l0 l:List Claim} {k:Nat} (h:Qm g l0 k l):l.length≤l0.length+k * l0.length∧k≤g.acts.length:=by
  induction h with
  | zero=>simp
  | skip _ _ _ ih=>exact ⟨by rw [Nat.succ_mul]; omega,by omega⟩
  | pay h _ _ _ ha ih =>
    have:=ha.few _ h.dps
    rw [List.length_map] at this
    exact ⟨by rw [Nat.succ_mul]; omega,by omega⟩
theorem Qm.new {g:jh} {l0 l:List Claim} {k:Nat} (h:Qm g l0 k l):∀ i,l0.length≤i→i < l.length→∃ q,q < k∧zcp g (g.acts.getD q default)∧(l.getD i default).creditor=(g.acts.getD q default).who∧(l.getD i default).by_=(g.acts.getD q default).at_∧(l.getD i default).debtor≠(l.getD i default).creditor:=by
  induction h with
  | zero=>exact fun i h1 h2=>absurd h2 (by omega)
  | skip _ _ _ ih =>
    intro i h1 h2
    obtain ⟨q,hq,h⟩:=ih i h1 h2
    exact ⟨q,by omega,h⟩
  | pay h _ hp _ ha ih =>
    rename_i k l out st _ _
    intro i h1 h2
    by_cases h3:i < l.length
    · obtain ⟨q,hq,e0,e1,e2,e3⟩:=ih i h1 h3
      have hl:=(ha.old i h3).1
      exact ⟨q,by omega,e0,hl.1.2.1.trans e1,hl.1.2.2.2.2.trans e2,by rw [hl.1.1,hl.1.2.1]; exact e3⟩
    · obtain ⟨e1,e2,e3,-⟩:=ha.new i (by omega) h2
      exact ⟨k,by omega,hp,e1,e2,by rw [e1]; exact e3⟩
theorem Qm.sums {g:jh} {l0 l:List Claim} {k:Nat} (h:Qm g l0 k l) (h0:∀ x∈l0,ClP x):∀ x∈l,ClP x:=by
  induction h with
  | zero=>exact h0
  | skip _ _ _ ih=>exact ih
  | pay _ _ _ _ ha ih=>exact ha.sums ih
/-- what was paid to a creditor by the first k acts -/
def WE (g:jh) (cr:Int):Nat→Int
  | 0=>0
  | k+1=>WE g cr k+(bif (g.acts.getD k default).kind == 6&&((g.acts.getD k default).to_ == cr||cr == -1&&!(g.signs.any fun s=>s.who == (g.acts.getD k default).to_)) then (g.acts.getD k default).sum else 0)
/-- payments are right -/
def zpT (g:jh):Prop:=∀ q,q < g.acts.length→(g.acts.getD q default).kind=6→zcp g (g.acts.getD q default)∧JH (g.acts.getD q default).sum
theorem zlq {g:jh} {st:Bool} {to_:Int} (h:zld g st to_):st = !(g.signs.any fun s=>s.who == to_):=by
  have:st=true↔(!(g.signs.any fun s=>s.who == to_))=true:=by
    rw [show (st=true)=_ from propext h,Bool.not_eq_true',List.any_eq_false]
    constructor
    · intro h x hx
      obtain ⟨i,hi,rfl⟩:=List.getElem_of_mem hx
      have:=h i hi
      rw [show g.signs.getD i default=g.signs[i] by simp [List.getD,hi]] at this
      simpa using this
    · intro h q hq
      have:=h (g.signs.getD q default) (Qg hq _)
      simpa using this
  exact Bool.eq_iff_iff.2 this
theorem zjy {g:jh} (hg:zpT g) (cr:Int):∀ k,k≤g.acts.length→0≤WE g cr k∧WE g cr k≤1099511627776 * (k:Int)
  | 0,_=>⟨Int.le_refl _,by simp [WE]⟩
  | k+1,hk=>by
    have ih:=zjy hg cr k (by omega)
    have h1:=hg k (by omega)
    rw [WE]
    generalize hb:((g.acts.getD k default).kind == 6&&_)=b
    cases b with
    | false=>simp only [cond_false]; omega
    | true =>
      have h2:=h1 (by simp only [Bool.and_eq_true,beq_iff_eq] at hb; exact hb.1)
      have h3:=h2.2
      unfold JH at h3
      simp only [cond_true]
      omega
theorem Qm.rest {g:jh} {l0 l:List Claim} {k:Nat} (h:Qm g l0 k l) (hg:zpT g) (h0:∀ x∈l0,ClP x):∀ i,i < l0.length→(∀ q,q < k→(g.acts.getD q default).kind=6→(g.acts.getD q default).who≠(l0.getD i default).creditor)→(l.getD i default).sum=max 0 ((l0.getD i default).sum - WE g (l0.getD i default).creditor k):=by
  induction h with
  | zero =>
    intro i hi _
    have:=(h0 _ (uP hi)).1
    unfold JH at this
    simp only [WE]
    omega
  | skip h hk hn ih =>
    rename_i k l
    intro i hi hw
    rw [ih i hi (fun q hq=>hw q (by omega))]
    have hk6:((g.acts.getD k default).kind == 6)=false:=by
      rw [beq_eq_false_iff_ne]
      exact fun e=>hn (hg k hk e).1
    rw [WE,hk6,Bool.false_and,cond_false,Int.add_zero]
  | pay h hk hp hs ha ih =>
    rename_i k l out st
    intro i hi hw
    have hil:i < l.length:=Nat.lt_of_lt_of_le hi h.len
    have hlike:=h.like i hi
    have hcr:(l.getD i default).creditor=(l0.getD i default).creditor:=hlike.1.2.1
    have e1:=(ha.old i hil).2 (by rw [hcr]; exact fun e=>hw k (by omega) hp.1 e.symm)
    have e2:=ih i hi (fun q hq=>hw q (by omega))
    have hsum:=(hg k hk hp.1).2
    have hb:=zjy hg (l0.getD i default).creditor k (by omega)
    have hl0:=(h0 _ (uP hi)).1
    have hls:=(h.sums h0 _ (uP hil)).1
    rw [e1]
    rw [WE]
    unfold FY
    have hm:uG (g.acts.getD k default) st (l.getD i default)=((g.acts.getD k default).kind == 6&&((g.acts.getD k default).to_ == (l0.getD i default).creditor||(l0.getD i default).creditor == -1&&!(g.signs.any fun s=>s.who == (g.acts.getD k default).to_))):=by
      rw [uU,hcr,zlq hs,hp.1]
      simp only [beq_self_eq_true,Bool.true_and]
      rw [show ((l0.getD i default).creditor == (g.acts.getD k default).to_)=((g.acts.getD k default).to_ == (l0.getD i default).creditor) from Bool.eq_iff_iff.2 (by simp only [beq_iff_eq]; exact eq_comm)]
    rw [← hm]
    unfold JH at *
    cases uG (g.acts.getD k default) st (l.getD i default) with
    | false=>simp only [cond_false]; rw [e2]; omega
    | true =>
      simp only [cond_true]
      have h1:Uv (g.acts.getD k default) (l.getD i default)=min (g.acts.getD k default).sum (l.getD i default).sum:=by unfold Uv qO ki; (repeat' split) <;> omega
      have h2:ki 0 (l.getD i default).sum=(l.getD i default).sum:=by unfold ki; split <;> omega
      rw [h1,h2,jj (by omega) (by omega)]
      omega
theorem zgY {g:jh} {x:Bool} {t:Int} {p:qt→Bool} (hp:∀ s,p s=true↔s.who=t) (h:x=true↔∃ q,q < g.signs.length∧p (g.signs.getD q default)=true):zld g (!x) t:=by
  constructor
  · intro hx q hq e
    have:=h.2 ⟨q,hq,(hp _).2 e⟩
    rw [this] at hx
    cases hx
  · intro hq
    cases hx:x with
    | false=>rfl
    | true =>
      obtain ⟨q,h1,h2⟩:=h.1 hx
      exact absurd ((hp _).1 h2) (hq q h1)
theorem zos {g:jh} {a:jI} (h:((a.kind != 6)||decide (a.at_ < 0)||decide (a.at_≥((g.signs.length:Nat):Int)))=true):¬ zcp g a:=by
  rintro ⟨h1,h2,h3⟩
  simp only [Bool.or_eq_true,bne_iff_ne,decide_eq_true_eq] at h
  rcases h with (h | h) | h
  · exact h h1
  · omega
  · omega
theorem zng {g:jh} {a:jI} (h:((a.kind != 6)||decide (a.at_ < 0)||decide (a.at_≥((g.signs.length:Nat):Int)))=false):zcp g a:=by
  simp only [Bool.or_eq_false_iff,bne_eq_false_iff_eq,decide_eq_false_iff_not] at h
  exact ⟨h.1.1,by omega,by omega⟩
def QQ (r:jg) (forum:Int) (f:jh) (day:Int):Sk ((List Claim) × Unit) :=
 .r 1 ((ju f day).c) fun x1 =>
 .r 2 ((Gc 29 r forum f day).c) fun x2 =>
 .r 3 (.o [.nrmm (mkM dI)]) fun _ =>
 .cl 30 ([]:List (Int × Int)) <|
 .bind true (fun b3=>Qm x1 x2 x1.acts.length b3)
 (.loop (default:Sum ((List Claim) × Unit) ((List Claim))) (fun i4=>i4.2≤x1.acts.length∧Qm x1 x2 i4.2 i4.1) (fun i4=>x1.acts.length - i4.2) ((x2,0):(List Claim) × Nat)
 (fun (i4:(List Claim) × Nat)=>⟨[(11,ow 100006 i4.1),(34,iv ((i4.2:Nat):Int))],[(100006,jz 67 9 Claim.cells i4.1)]⟩) fun i4 =>
 .bnd 32 0 x1.acts.length <|
 .br (decide (((i4.2:Nat):Int) < ((x1.acts.length:Nat):Int)))
 (.bind true (fun b5=>Qm x1 x2 (i4.2+1) b5)
 (.r 6 (.p (ixP ((i4.2:Nat):Int) x1.acts.length)) fun _ =>
 .br (((((x1.acts.getD i4.2 default).kind) != 6)||(decide (((x1.acts.getD i4.2 default).at_) < 0)))||(decide (((x1.acts.getD i4.2 default).at_)≥((x1.signs.length:Nat):Int))))
 (.fin (.inr i4.1))
 (.r 8 ((uc x1.signs (x1.acts.getD i4.2 default)).c) fun x6 =>
 .fz 100006 <|
 .r 9 (.andl (.p (ixP ((x1.acts.getD i4.2 default).at_) x1.signs.length)) ((Wr 70 i4.1 (x1.acts.getD i4.2 default) ((x1.signs.getD (((x1.acts.getD i4.2 default).at_).toNat) default).kind) (!x6)).c)) fun x7 =>
 .r 10 (.o [.nrmm (mkM dB)]) fun _ =>
 .bind true (fun _=>True)
 (.loop (default:Sum (Sum (Sum (Sum ((List Claim) × Unit) ((List Claim))) ((List Claim) × Nat)) ((List Claim))) (Int × (List (Int × Bool)))) (fun i9=>i9.1≤x7.2.length) (fun i9=>x7.2.length - i9.1) ((0,([]:List (Int × Bool))):Nat × (List (Int × Bool)))
 (fun (i9:Nat × (List (Int × Bool)))=>⟨[(76,iv ((i9.1:Nat):Int))],[(73,mpM dB i9.2)]⟩) fun i9 =>
 .bnd 17 0 x7.2.length <|
 .br (decide (((i9.1:Nat):Int) < ((x7.2.length:Nat):Int)))
 (.r 13 (.p (ixP ((i9.1:Nat):Int) x7.2.length)) fun _ =>
 .r 14 (.andl (.t (Jy dB i9.2)) (.o [.nrmm (znU dB i9.2 ((x7.2.getD i9.1 default).creditor) true)])) fun _ =>
 .r 15 .z fun _ =>
 .wi 76 (w64 (((i9.1:Nat):Int)+1)) ((i9.1+1:Nat):Int) <|
 .fin (.inr (i9.1+1,gt i9.2 ((x7.2.getD i9.1 default).creditor) true)))
 (.fin (.inl (.inr (((i9.1:Nat):Int),i9.2)))))
 (fun (b8:Int × (List (Int × Bool)))=>⟨[(76,iv b8.1)],[(73,mpM dB b8.2)]⟩) fun b8 =>
 .bind true (fun _=>True)
 (.mr b8.2.length (fun _=>True) (():Unit)
 (fun g11 s13=>⟨[],[(85,.it 73 b8.2.length s13)]⟩)
 (fun g15=>⟨[],[]⟩)
 (fun g11 i12 =>
 .brt <|
 .r 18 (.p (i12 < b8.2.length)) fun _ =>
 .op 30 fun m14 =>
 .r 19 (.andl (.andl (.t (Jy dI m14)) (.o [.cast 94 (zlM dI m14 ((b8.2.getD i12 default).1) (0:Int))])) (.andl (.t (Jy dI m14)) (.o [.nrmm (znU dI m14 ((b8.2.getD i12 default).1) (qO 1099511627776 (w64 ((km m14 ((b8.2.getD i12 default).1) (0:Int))+((x1.acts.getD i4.2 default).sum)))))]))) fun _ =>
 .cl 30 (gt m14 ((b8.2.getD i12 default).1) (qO 1099511627776 (w64 ((km m14 ((b8.2.getD i12 default).1) (0:Int))+((x1.acts.getD i4.2 default).sum))))) <|
 .fin ()) fun g15 =>
 .brf <|
 .fin (.inr ()))
 (fun (_:Unit)=>⟨[(85,.any)],[]⟩) fun _ =>
 .fin (.inr x7.1)))
 (fun (b5:(List Claim))=>⟨[(11,ow 100008 b5)],[(100008,jz 67 9 Claim.cells b5)]⟩) fun b5 =>
 .r 21 .z fun _ =>
 .wi 34 (w64 (((i4.2:Nat):Int)+1)) ((i4.2+1:Nat):Int) <|
 .fin (.inr (b5,i4.2+1)))
 (.fin (.inl (.inr i4.1))))
 (fun (b3:(List Claim))=>⟨[(11,ow 100004 b3)],[(100004,jz 67 9 Claim.cells b3)]⟩) fun b3 =>
 .fin (b3,())
def zeL (r:jg) (forum:Int) (f:jh) (day:Int):(List Claim) × Unit:=(QQ r forum f day).val
theorem zlU (r:jg) (forum:Int) (f:jh) (day:Int):(QQ r forum f day).pst (fun (x:(List Claim) × Unit)=>Qm (ji f day) (qo r forum f day) (ji f day).acts.length x.1):=by
  refine Sk.pst_of _ ?_
  unfold QQ
  simp only [Sk.pstq,Sk.isLoop,reduceCtorEq,ON,kk,Gc,Wr,ju,uc,maxLen]
  intro x hx _ x1 hx1 _
  refine ⟨⟨⟨Nat.zero_le _,.zero⟩,fun i hi=>⟨fun hc=>⟨fun _=>⟨fun hs=>?_,fun hs x4 _ h4 x5 _ h5 _=>⟨⟨Nat.zero_le _,fun j hj hc2 _ _ _=>?_⟩,fun b b1 _=>?_⟩⟩,fun b _ hb _=>?_⟩,fun hc=>?_⟩⟩,fun b hb=>?_⟩
  all_goals try simp only [LN] at hc
  · exact hi.2.skip (by omega) (zos hs)
  · simp only [LN] at hc2
    omega
  · exact hi.2.pay (by omega) (zng hs) (zgY (p:=fun s=>kq s (x.acts.getD i.2 default)) (fun s=>by show kq s _=true↔_; rw [Zm,beq_iff_eq]) h4) h5
  · exact ⟨⟨by omega,hb⟩,by omega⟩
  · have e:i.2=x.acts.length:=by omega
    rw [← e]
    exact hi.2
  · subst hx hx1
    exact hb

theorem zk5 (r:jg) (forum:Int) (f:jh) (day:Int):(fun (x:(List Claim) × Unit)=>Qm (ji f day) (qo r forum f day) (ji f day).acts.length x.1) (zeL r forum f day):=have h:=Sk.pval _ (zlU r forum f day); h
theorem zoe (r:jg) (forum:Int) (f:jh) (day:Int) (hF:jX r f) (h_f_Small:f.Small) (h_r_ByOK:r.ByOK) (h_r_Small:r.Small) (h_r_FirmOK:r.FirmOK) (h_r_RateOK:r.RateOK):(QQ r forum f day).obs (fun _=>True):=by
  refine Sk.obs_of _ ?_
  unfold QQ
  simp only [Sk.obq,Sk.isLoop,reduceCtorEq,ON,kk,Sk.pst,Gc,Wr,ju,uc,maxLen]
  refine ⟨h_f_Small,fun x hx hl=>⟨⟨hF,h_f_Small,h_r_ByOK,h_r_Small,h_r_FirmOK,h_r_RateOK⟩,fun x1 hx1 _=>⟨⟨Nat.zero_le _,.zero⟩,fun i hi hmx=>⟨fun hc=>⟨⟨?_,fun _=>⟨fun hs=>?_,fun hs x4 _ h4=>⟨⟨?_,?_⟩,fun x5 _ h5 _=>⟨⟨Nat.zero_le _,fun j hj hm2 hc2=>?_⟩,fun b=>⟨fun _ _ h=>h,fun b1 _=>?_⟩⟩⟩⟩⟩,fun b _ hb _=>?_⟩,fun hc=>?_⟩⟩⟩⟩
  all_goals try simp only [LN] at hc
  · exact ⟨by omega,by omega⟩
  · exact hi.2.skip (by omega) (zos hs)
  · exact (zng hs).2
  · have h1:=hi.2.count.1
    have h2:x1.length≤67240:=by rw [hx1]; exact zfL hF
    have h3:=hF.2.1.2.2.2.1
    have h4:=Nat.mul_le_mul (show i.2≤100 by omega) h2
    omega
  · simp only [LN] at hc2
    exact ⟨⟨by omega,by omega⟩,fun _ _ _=>⟨(jj (by omega) (by omega)).trans (by omega),by omega,by omega⟩⟩
  · exact hi.2.pay (by omega) (zng hs) (zgY (p:=fun s=>kq s (x.acts.getD i.2 default)) (fun s=>by show kq s _=true↔_; rw [Zm,beq_iff_eq]) h4) h5
  · exact ⟨(jj (by omega) (by omega)).trans (by omega),⟨by omega,hb⟩,by omega⟩
  · have e:i.2=x.acts.length:=by omega
    rw [← e]
    exact hi.2

theorem zlQ (r:jg) (forum:Int) (f:jh) (day:Int) (hF:jX r f) (h_f_Small:f.Small) (h_r_ByOK:r.ByOK) (h_r_Small:r.Small) (h_r_FirmOK:r.FirmOK) (h_r_RateOK:r.RateOK):FnA Tryz.prog 53 [av r.cells,iv forum,av f.cells,iv day] [] (.tup [ow 777777 (zeL r forum f day).1,.any]) [(777777,jz 67 9 Claim.cells (zeL r forum f day).1)] :=
  FnA.sk tok mixed (fun x=>.tup [ow 777777 x.1,.any]) (fun x=>[(777777,jz 67 9 Claim.cells x.1)]) Tryz.func53 rfl (by kernel_rfl) 3000 (QQ r forum f day) (by kernel_rfl) (zoe r forum f day hF h_f_Small h_r_ByOK h_r_Small h_r_FirmOK h_r_RateOK)
def Bp (κ:Nat) (r:jg) (forum:Int) (f:jh) (day:Int):vT ((List Claim) × Unit):=⟨Tryz.prog,53,[av r.cells,iv forum,av f.cells,iv day],fun x=>.tup [ow κ x.1,.any],fun x=>[(κ,jz 67 9 Claim.cells x.1)],zeL r forum f day,(jX r f)∧(f.Small)∧(r.ByOK)∧(r.Small)∧(r.FirmOK)∧(r.RateOK),fun h=>FnA.rekeyT κ rfl (zlQ r forum f day h.1 h.2.1 h.2.2.1 h.2.2.2.1 h.2.2.2.2.1 h.2.2.2.2.2),fun (x:(List Claim) × Unit)=>Qm (ji f day) (qo r forum f day) (ji f day).acts.length x.1,zk5 r forum f day⟩
def yQ (r:jg) (forum:Int) (f:jh) (day:Int):Sk ((List Claim)) :=
 .r 1 ((Bp 16 r forum f day).c) fun x1 =>
 .fin x1.1
def gK (r:jg) (forum:Int) (f:jh) (day:Int):(List Claim):=(yQ r forum f day).val
theorem zfI (r:jg) (forum:Int) (f:jh) (day:Int):(yQ r forum f day).pst (fun (x:(List Claim))=>Qm (ji f day) (qo r forum f day) (ji f day).acts.length x):=by
  unfold yQ
  try simp only [Bp]
  exact okP

theorem Xd (r:jg) (forum:Int) (f:jh) (day:Int):(fun (x:(List Claim))=>Qm (ji f day) (qo r forum f day) (ji f day).acts.length x) (gK r forum f day):=have h:=Sk.pval _ (zfI r forum f day); h
theorem zhx (r:jg) (forum:Int) (f:jh) (day:Int) (hF:jX r f) (h_f_Small:f.Small) (h_r_ByOK:r.ByOK) (h_r_Small:r.Small) (h_r_FirmOK:r.FirmOK) (h_r_RateOK:r.RateOK):(yQ r forum f day).obs (fun _=>True):=by
  unfold yQ
  try simp only [Bp]
  exact okD

theorem zg8 (r:jg) (forum:Int) (f:jh) (day:Int) (hF:jX r f) (h_f_Small:f.Small) (h_r_ByOK:r.ByOK) (h_r_Small:r.Small) (h_r_FirmOK:r.FirmOK) (h_r_RateOK:r.RateOK):FnA Tryz.prog 30 [av r.cells,iv forum,av f.cells,iv day] [] (ow 777777 (gK r forum f day)) [(777777,jz 67 9 Claim.cells (gK r forum f day))] :=
  FnA.sk tok mixed (fun x=>ow 777777 x) (fun x=>[(777777,jz 67 9 Claim.cells x)]) Tryz.func30 rfl (by kernel_rfl) 3000 (yQ r forum f day) (by kernel_rfl) (zhx r forum f day hF h_f_Small h_r_ByOK h_r_Small h_r_FirmOK h_r_RateOK)
def YZ (κ:Nat) (r:jg) (forum:Int) (f:jh) (day:Int):vT ((List Claim)):=⟨Tryz.prog,30,[av r.cells,iv forum,av f.cells,iv day],fun x=>ow κ x,fun x=>[(κ,jz 67 9 Claim.cells x)],gK r forum f day,(jX r f)∧(f.Small)∧(r.ByOK)∧(r.Small)∧(r.FirmOK)∧(r.RateOK),fun h=>FnA.rekey κ (zg8 r forum f day h.1 h.2.1 h.2.2.1 h.2.2.2.1 h.2.2.2.2.1 h.2.2.2.2.2),fun (x:(List Claim))=>Qm (ji f day) (qo r forum f day) (ji f day).acts.length x,Xd r forum f day⟩
def zE (r:jg) (forum:Int) (f:jh) (day:Int):Sk (Int) :=
 .r 1 (.dep ((gU r forum f 0 day).c) fun x1=>(ky x1).c) fun p3 =>
 .fin p3.2
def FH (r:jg) (forum:Int) (f:jh) (day:Int):Int:=(zE r forum f day).val
theorem WG (r:jg) (forum:Int) (f:jh) (day:Int) (h_f_Small:f.Small) (h_r_ByOK:r.ByOK) (h_r_Small:r.Small):(zE r forum f day).obs (fun _=>True):=by
  simp only [jh.Small,jg.Small,jg.ByOK] at h_f_Small
  simp only [jh.Small,jg.Small,jg.ByOK] at h_r_ByOK
  simp only [jh.Small,jg.Small,jg.ByOK] at h_r_Small
  unfold zE
  try simp only [gU,ky,jh.Small,jg.Small,jg.ByOK]
  exact okD

def Qx (r:jg) (forum:Int) (f:jh) (day:Int):Ctr (Int):=kk tok mixed Tryz.func126 [av r.cells,iv forum,av f.cells,iv day] (fun x=>iv x) true (zE r forum f day) (FH r forum f day) (fun (h:(f.Small)∧(r.ByOK)∧(r.Small))=>WG r forum f day h.1 h.2.1 h.2.2)
def Qp (r:jg) (forum:Int) (f:jh) (c_:Claim) (day:Int):Sk (Int × Int) :=
 .br (c_.turn == 0)
 (.r 2 ((jS r forum f day).c) fun x1 =>
 .fin (13,x1))
 (.bind true (fun _=>True)
 (.loop (default:Sum (Int × Int) (Unit)) (fun i3=>i3≤f.acts.length) (fun i3=>f.acts.length - i3) (0:Nat)
 (fun (i3:Nat)=>⟨[(25,iv ((i3:Nat):Int))],[]⟩) fun i3 =>
 .bnd 23 0 f.acts.length <|
 .br (decide (((i3:Nat):Int) < ((f.acts.length:Nat):Int)))
 (.r 5 (.p (ixP ((i3:Nat):Int) f.acts.length)) fun _ =>
 .br (((((f.acts.getD i3 default).kind) == 6)&&(((f.acts.getD i3 default).who) == c_.creditor))&&(((f.acts.getD i3 default).at_) == c_.by_))
 (.fin (.inl (.inl (15,(f.acts.getD i3 default).day))))
 (.r 8 .z fun _ =>
 .wi 25 (w64 (((i3:Nat):Int)+1)) ((i3+1:Nat):Int) <|
 .fin (.inr (i3+1))))
 (.fin (.inl (.inr ()))))
 (fun (_:Unit)=>⟨[],[]⟩) fun _ =>
 .r 9 ((Qx r forum f day).c) fun x4 =>
 .fin (14,x4))
def zl7 (r:jg) (forum:Int) (f:jh) (c_:Claim) (day:Int):Int × Int:=(Qp r forum f c_ day).val
theorem zho (r:jg) (forum:Int) (f:jh) (c_:Claim) (day:Int) (h_f_Small:f.Small) (h_r_ByOK:r.ByOK) (h_r_Small:r.Small):(Qp r forum f c_ day).obs (fun _=>True):=by
  simp only [jh.Small,jg.Small,jg.ByOK] at h_f_Small
  simp only [jh.Small,jg.Small,jg.ByOK] at h_r_ByOK
  simp only [jh.Small,jg.Small,jg.ByOK] at h_r_Small
  unfold Qp
  try simp only [jS,Qx,jh.Small,jg.Small,jg.ByOK]
  exact okD

def Bh (r:jg) (forum:Int) (f:jh) (c_:Claim) (day:Int):Ctr (Int × Int):=kk tok mixed Tryz.func82 [av r.cells,iv forum,av f.cells,av c_.cells,iv day] (fun x=>.tup [iv x.1,iv x.2]) true (Qp r forum f c_ day) (zl7 r forum f c_ day) (fun (h:(f.Small)∧(r.ByOK)∧(r.Small))=>zho r forum f c_ day h.1 h.2.1 h.2.2)
def uj (a:jI) (c_:Claim):Sk (Bool) :=
 .br (a.at_ != c_.sign)
 (.fin false)
 (.fin ((a.kind == 9)||((a.kind == 8)&&((c_.creditor == (-1))||(a.who == c_.creditor)))))
def zbK (a:jI) (c_:Claim):Bool:=(uj a c_).val
theorem FC (a:jI) (c_:Claim):(uj a c_).obs (fun _=>True):=by
  unfold uj
  exact okE

def Uj (a:jI) (c_:Claim):Ctr (Bool):=kk tok mixed Tryz.func83 [av a.cells,av c_.cells] (fun x=>bv x) true (uj a c_) (zbK a c_) (fun (_:True)=>FC a c_)
end
end Go.Proofs.YtilbddpghnnmhaaGreatDoor

