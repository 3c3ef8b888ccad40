/- Functions, as sketches. -/
import Derived.Test.YtilbddpghnnmhaaGreatDoorSa13
namespace Go.Proofs.YtilbddpghnnmhaaGreatDoor
noncomputable section
open Go Go.Av
set_option linter.unusedSimpArgs false
set_option linter.unusedVariables false
set_option maxHeartbeats 1000000
set_option maxRecDepth 100000
/-- two claims with the same key -/
def Ka (x y:Claim):Prop:=x.debtor=y.debtor∧x.creditor=y.creditor∧x.part=y.part∧x.sign=y.sign∧x.by_=y.by_
/-- a claim put to others: the first one of its key is turned by f,or it is new -/
def Merged (f:Claim→Claim) (l:List Claim) (c:Claim) (x:List Claim):Prop :=
  (∃ i,i < l.length∧Ka (l.getD i default) c∧x=l.set i (f (l.getD i default)))∨((∀ i,i < l.length→¬ Ka (l.getD i default) c)∧x=l++[c])
def fG (c x:Claim):Claim:={ x with sum:=jP x.sum c.sum,state:=vA c.state x.state }
def fJ (c x:Claim):Claim:={ x with sum:=qI 1099511627776 (w64 (x.sum+c.sum)),state:=vA x.state c.state }
/-- what a payment takes from a claim -/
def Ua (a:jE) (x:Claim):Int:=qI (jP 0 a.sum) (jP 0 x.sum)
def FK (a:jE) (st:Bool) (x:Claim):Claim:=bif ug a st x then { x with sum:=w64 (jP 0 x.sum - Ua a x) } else x
/-- the same but for sum and state -/
def Xv (x y:Claim):Prop:=Ka x y∧x.turn=y.turn∧x.currency=y.currency
theorem Xv.rfl' (x:Claim):Xv x x:=⟨⟨rfl,rfl,rfl,rfl,rfl⟩,rfl,rfl⟩
theorem Xv.trans {x y z:Claim} (h:Xv x y) (k:Xv y z):Xv x z:=⟨⟨h.1.1.trans k.1.1,h.1.2.1.trans k.1.2.1,h.1.2.2.1.trans k.1.2.2.1,h.1.2.2.2.1.trans k.1.2.2.2.1,h.1.2.2.2.2.trans k.1.2.2.2.2⟩,h.2.1.trans k.2.1,h.2.2.trans k.2.2⟩
/-- a claim's sum and state are as they may be -/
def ClP (x:Claim):Prop:=yO x.sum∧(x.state=1∨x.state=2)
theorem zp4 {a b:Int} (ha:a=1∨a=2) (hb:b=1∨b=2):vA a b=1∨vA a b=2:=by
  rcases ha with rfl | rfl <;> rcases hb with rfl | rfl
  · exact .inl (by kernel_rfl)
  · exact .inr (by kernel_rfl)
  · exact .inr (by kernel_rfl)
  · exact .inr (by kernel_rfl)
/-- a claim that comes of a payment for a claim of l -/
def Sub (l:List Claim) (a:jE) (c:Claim):Prop:=(c.creditor=a.who∧c.by_=a.at_∧c.debtor≠a.who)∧(∃ x∈l,x.debtor=c.debtor∧x.part=c.part∧x.sign=c.sign∧x.currency=c.currency)∧((∀ x∈l,ClP x)→ClP c)
def zeS (l:List Claim) (a:jE) (inn:List Claim):Prop:=(∀ c∈inn,Sub l a c)∧inn.Pairwise fun x y=>¬ Ka x y
theorem zp6 {a b:Int} (ha:yO a) (hb:yO b):yO (jP a b):=by unfold jP yO at *; split <;> omega
theorem Ka.comm {x y:Claim} (h:Ka x y):Ka y x:=⟨h.1.symm,h.2.1.symm,h.2.2.1.symm,h.2.2.2.1.symm,h.2.2.2.2.symm⟩
theorem Ka.tr {x y z:Claim} (h:Ka x y) (k:Ka y z):Ka x z:=⟨h.1.trans k.1,h.2.1.trans k.2.1,h.2.2.1.trans k.2.2.1,h.2.2.2.1.trans k.2.2.2.1,h.2.2.2.2.trans k.2.2.2.2⟩
theorem zlL {l:List Claim} {i:Nat} {y x:Claim} (h:x∈l.set i y):x=y∨x∈l:=by
  rcases List.mem_or_eq_of_mem_set h with h | h
  · exact .inr h
  · exact .inl h
theorem uf {l:List Claim} {i:Nat} (h:i < l.length):l.getD i default∈l:=Kv h _
theorem za9 {l:List Claim} {i j:Nat} {y:Claim} (h:j < l.length):(l.set i y).getD j default=if i=j then y else l.getD j default:=by
  simp only [List.getD,List.getElem?_set]
  split
  · subst_vars; simp [h]
  · rfl
theorem zeS.group {l:List Claim} {a:jE} {inn x:List Claim} {c:Claim} (h:zeS l a inn) (hc:Sub l a c) (hm:Merged (fG c) inn c x):zeS l a x:=by
  rcases hm with ⟨i,hi,hk,rfl⟩ | ⟨hn,rfl⟩
  · have hs:=h.1 _ (uf hi)
    have hx:Ka (fG c (inn.getD i default)) (inn.getD i default):=⟨rfl,rfl,rfl,rfl,rfl⟩
    refine ⟨fun z hz=>?_,?_⟩
    · rcases zlL hz with rfl | hz
      · exact ⟨hs.1,hs.2.1,fun hP=>⟨zp6 (hs.2.2 hP).1 (hc.2.2 hP).1,zp4 (hc.2.2 hP).2 (hs.2.2 hP).2⟩⟩
      · exact h.1 z hz
    · rw [List.pairwise_iff_getElem]
      intro p q hp hq hpq
      have hp':p < inn.length:=by simpa using hp
      have hq':q < inn.length:=by simpa using hq
      have h0:=List.pairwise_iff_getElem.1 h.2 p q hp' hq' hpq
      simp only [List.getElem_set]
      have e:∀ j (hj:j < inn.length),i=j→Ka (fG c (inn.getD i default)) inn[j]:=by
        rintro j hj rfl
        simpa [List.getD,hj] using hx
      intro hk2
      apply h0
      split at hk2 <;> split at hk2
      · omega
      · exact (e p hp' ‹_›).comm.tr hk2
      · exact hk2.tr (e q hq' ‹_›)
      · exact hk2
  · refine ⟨fun z hz=>?_,?_⟩
    · rcases List.mem_append.1 hz with hz | hz
      · exact h.1 z hz
      · rw [List.mem_singleton.1 hz]; exact hc
    · rw [List.pairwise_append]
      refine ⟨h.2,List.pairwise_singleton _ _,fun x hx y hy=>?_⟩
      rw [List.mem_singleton.1 hy]
      obtain ⟨j,hj,rfl⟩:=List.getElem_of_mem hx
      have:=hn j hj
      rwa [show inn.getD j default=inn[j] by simp [List.getD,hj]] at this
/-- a list without twins is not longer than one that holds it -/
theorem zi3 {α:Type}:∀ (l D:List α),l.Pairwise (·≠·)→(∀ x∈l,x∈D)→l.length≤D.length
  | [],D,_,_=>Nat.zero_le _
  | x :: r,D,hp,hs=>by
    classical
    have hx:x∈D:=hs x (by simp)
    rw [List.pairwise_cons] at hp
    have:=zi3 r (D.erase x) hp.2 (fun y hy=>(List.mem_erase_of_ne (fun e=>hp.1 y hy e.symm)).2 (hs y (by simp [hy])))
    rw [List.length_erase_of_mem hx] at this
    have hpos:0 < D.length:=List.length_pos_of_mem hx
    simp only [List.length_cons]
    omega
def dps (x:Claim):Int × Int × Int:=(x.debtor,x.part,x.sign)
theorem zeS.len {l:List Claim} {a:jE} {inn:List Claim} (h:zeS l a inn) {D:List (Int × Int × Int)} (hD:∀ x∈l,dps x∈D):inn.length≤D.length:=by
  have:=zi3 (inn.map dps) D ?_ ?_
  · simpa using this
  · rw [List.pairwise_map]
    refine List.Pairwise.imp_of_mem ?_ h.2
    intro x y hx hy hne e
    have hx:=(h.1 x hx).1
    have hy:=(h.1 y hy).1
    simp only [dps,Prod.mk.injEq] at e
    exact hne ⟨e.1,hx.1.trans hy.1.symm,e.2.1,e.2.2,hx.2.1.trans hy.2.1.symm⟩
  · intro z hz
    obtain ⟨c,hc,rfl⟩:=List.mem_map.1 hz
    obtain ⟨x,hx,e1,e2,e3,-⟩:=(h.1 c hc).2.1
    have:=hD x hx
    rwa [show dps x=dps c by simp [dps,e1,e2,e3]] at this
/-- the claims while the payment goes over them -/
def zcC (l:List Claim) (a:jE) (st:Bool) (k:Nat) (out inn:List Claim):Prop :=
  out.length=l.length∧(∀ i,i < l.length→out.getD i default=if i < k then FK a st (l.getD i default) else l.getD i default)∧zeS l a inn
theorem zcC.init (l:List Claim) (a:jE) (st:Bool):zcC l a st 0 l []:=⟨rfl,fun i _=>by simp,fun c hc=>by simp at hc,.nil⟩
theorem zcC.skip {l:List Claim} {a:jE} {st:Bool} {k:Nat} {out inn:List Claim} (h:zcC l a st k out inn) (hk:k < l.length) (hm:ug a st (l.getD k default)=false):zcC l a st (k+1) out inn:=by
  refine ⟨h.1,fun i hi=>?_,h.2.2⟩
  rw [h.2.1 i hi]
  by_cases hik:i=k
  · subst hik; rw [if_neg (Nat.lt_irrefl i),if_pos (Nat.lt_succ_self i)]; unfold FK; rw [hm]; rfl
  · by_cases h1:i < k
    · rw [if_pos h1,if_pos (by omega)]
    · rw [if_neg h1,if_neg (by omega)]
theorem zcC.meet {l:List Claim} {a:jE} {st:Bool} {k:Nat} {out inn inn':List Claim} (h:zcC l a st k out inn) (hk:k < l.length) (hm:ug a st (l.getD k default)=true) (hi:zeS l a inn') :
    zcC l a st (k+1) (out.set k { out.getD k default with sum:=w64 (jP 0 (l.getD k default).sum - Ua a (l.getD k default)) }) inn':=by
  have hok:=h.2.1 k hk
  rw [if_neg (Nat.lt_irrefl k)] at hok
  refine ⟨by rw [List.length_set]; exact h.1,fun i hi=>?_,hi⟩
  rw [za9 (by rw [h.1]; exact hi)]
  by_cases hik:k=i
  · subst hik; rw [if_pos rfl,if_pos (by omega),hok]; unfold FK; rw [hm]; rfl
  · rw [if_neg hik,h.2.1 i hi]
    by_cases h1:i < k
    · rw [if_pos h1,if_pos (by omega)]
    · rw [if_neg h1,if_neg (by omega)]
theorem zmP {l:List Claim} {a:jE} {c:Claim} (hc:c∈l) (hd:c.debtor≠a.who) (s:Int) (hs:s=Ua a c):Sub l a { c with creditor:=a.who,by_:=a.at_,sum:=s }:=by
  subst hs
  refine ⟨⟨rfl,rfl,hd⟩,⟨c,hc,rfl,rfl,rfl,rfl⟩,fun hP=>?_⟩
  have:=(hP c hc).1
  refine ⟨?_,(hP c hc).2⟩
  unfold yO at *
  show 0≤Ua a c∧Ua a c≤1099511627776
  unfold Ua qI jP
  constructor <;> (repeat' split) <;> omega
/-- the claims while the new ones are joined to them -/
def zic (a:jE) (m inn:List Claim) (k:Nat) (v:List Claim):Prop :=
  (m.length≤v.length∧v.length≤m.length+k)∧(∀ i,i < m.length→Xv (v.getD i default) (m.getD i default)∧((m.getD i default).creditor≠a.who→v.getD i default=m.getD i default)) ∧
    (∀ i,m.length≤i→i < v.length→∃ c∈inn,Xv (v.getD i default) c)∧((∀ x∈m,ClP x)→(∀ x∈inn,ClP x)→∀ x∈v,ClP x)
theorem zic.init (a:jE) (m inn:List Claim):zic a m inn 0 m:=⟨⟨Nat.le_refl _,Nat.le_refl _⟩,fun i hi=>⟨Xv.rfl' _,fun _=>rfl⟩,fun i h1 h2=>absurd h2 (by omega),fun h _=>h⟩
theorem zr7 {c x:Claim} (hc:ClP c) (hx:ClP x):ClP (fJ c x):=by
  refine ⟨?_,zp4 hx.2 hc.2⟩
  unfold ClP yO at *
  show 0≤qI _ _∧qI _ _≤_
  rw [jj (by omega) (by omega)]
  unfold qI; split <;> omega
theorem zic.step {a:jE} {m inn v x:List Claim} {k:Nat} {c:Claim} (h:zic a m inn k v) (hc:c∈inn) (hw:c.creditor=a.who) (hm:Merged (fJ c) v c x):zic a m inn (k+1) x:=by
  obtain ⟨⟨h1,h2⟩,h3,h4,h5⟩:=h
  rcases hm with ⟨i,hi,hk,rfl⟩ | ⟨hn,rfl⟩
  · have hl:Xv (fJ c (v.getD i default)) (v.getD i default):=⟨⟨rfl,rfl,rfl,rfl,rfl⟩,rfl,rfl⟩
    refine ⟨⟨by simpa using h1,by rw [List.length_set]; omega⟩,fun j hj=>?_,fun j hj hj2=>?_,fun hP hQ z hz=>?_⟩
    · rw [za9 (by omega)]
      split
      · subst_vars
        refine ⟨hl.trans (h3 _ hj).1,fun hne=>absurd ?_ hne⟩
        have e2:=hk.2.1
        have e3:=(h3 _ hj).1.1.2.1
        rw [← e3,e2,hw]
      · exact h3 j hj
    · rw [List.length_set] at hj2
      rw [za9 hj2]
      split
      · subst_vars
        obtain ⟨d,hd,e⟩:=h4 _ hj hj2
        exact ⟨d,hd,hl.trans e⟩
      · exact h4 j hj hj2
    · rcases zlL hz with rfl | hz
      · exact zr7 (hQ c hc) (h5 hP hQ _ (uf hi))
      · exact h5 hP hQ z hz
  · have e:∀ j,j < v.length→(v++[c]).getD j default=v.getD j default:=fun j hj=>by simp [List.getD,List.getElem?_append_left hj]
    refine ⟨⟨by simp; omega,by simp; omega⟩,fun j hj=>?_,fun j hj hj2=>?_,fun hP hQ z hz=>?_⟩
    · rw [e j (by omega)]; exact h3 j hj
    · by_cases hjv:j < v.length
      · rw [e j hjv]; exact h4 j hj hjv
      · have:j=v.length:=by simp at hj2; omega
        subst this
        exact ⟨c,hc,by simp [List.getD]; exact Xv.rfl' _⟩
    · rcases List.mem_append.1 hz with hz | hz
      · exact h5 hP hQ z hz
      · rw [List.mem_singleton.1 hz]; exact hQ c hc
/-- what a payment makes of claims -/
structure Wq (l:List Claim) (a:jE) (st:Bool) (out:List Claim):Prop where
  len:l.length≤out.length
  old:∀ i,i < l.length→Xv (out.getD i default) (l.getD i default)∧((l.getD i default).creditor≠a.who→out.getD i default=FK a st (l.getD i default))
  new:∀ i,l.length≤i→i < out.length→(out.getD i default).creditor=a.who∧(out.getD i default).by_=a.at_∧(out.getD i default).debtor≠a.who∧∃ x∈l,x.debtor=(out.getD i default).debtor∧x.part=(out.getD i default).part∧x.sign=(out.getD i default).sign∧x.currency=(out.getD i default).currency
  sums:(∀ x∈l,ClP x)→∀ x∈out,ClP x
  few:∀ D:List (Int × Int × Int),(∀ x∈l,dps x∈D)→out.length≤l.length+D.length
theorem zl5 (a:jE) (st:Bool) (x:Claim):Xv (FK a st x) x:=by
  unfold FK
  cases ug a st x
  · exact Xv.rfl' x
  · exact ⟨⟨rfl,rfl,rfl,rfl,rfl⟩,rfl,rfl⟩
theorem zqU {a:jE} {st:Bool} {x:Claim} (h:ClP x):ClP (FK a st x):=by
  unfold FK
  cases ug a st x
  · exact h
  · refine ⟨?_,h.2⟩
    unfold ClP yO at *
    have h1:0≤Ua a x∧Ua a x≤x.sum:=by unfold Ua qI jP; constructor <;> (repeat' split) <;> omega
    have h2:jP 0 x.sum=x.sum:=by unfold jP; split <;> omega
    show 0≤w64 _∧w64 _≤_
    rw [h2,jj (by omega) (by omega)]
    omega
theorem Wq.mk' {l:List Claim} {a:jE} {st:Bool} {m inn v:List Claim} {k n:Nat} (h0:zcC l a st n m inn) (hn:n=l.length) (h1:zic a m inn k v) (hk:k≤inn.length):Wq l a st v:=by
  subst hn
  obtain ⟨hl,hr,hi⟩:=h0
  obtain ⟨⟨h11,h12⟩,h13,h14,h15⟩:=h1
  have hr':∀ i,i < l.length→m.getD i default=FK a st (l.getD i default):=fun i h=>by rw [hr i h,if_pos h]
  refine ⟨by omega,fun i h=>?_,fun i h h2=>?_,fun hP=>?_,fun D hD=>?_⟩
  · have h3:=h13 i (by omega)
    rw [hr' i h] at h3
    refine ⟨h3.1.trans (zl5 a st _),fun hne=>h3.2 ?_⟩
    rw [(zl5 a st (l.getD i default)).1.2.1]
    exact hne
  · obtain ⟨c,hc,e⟩:=h14 i (by omega) h2
    obtain ⟨⟨k1,k2,k3⟩,⟨x,hx,e1,e2,e3,e4⟩,-⟩:=hi.1 c hc
    obtain ⟨⟨f1,f2,f3,f4,f5⟩,-,f6⟩:=e
    exact ⟨f2.trans k1,f5.trans k2,fun z=>k3 (f1 ▸ z),x,hx,e1.trans f1.symm,e2.trans f3.symm,e3.trans f4.symm,e4.trans f6.symm⟩
  · refine h15 (fun x hx=>?_) (fun x hx=>(hi.1 x hx).2.2 hP)
    obtain ⟨i,hi',rfl⟩:=List.getElem_of_mem hx
    have:=hr' i (by omega)
    rw [show m.getD i default=m[i] by simp [List.getD,hi']] at this
    rw [this]
    exact zqU (hP _ (uf (by omega)))
  · have:=hi.len hD
    omega
theorem zkH {x c:Claim}:((x.debtor == c.debtor)&&((x.creditor == c.creditor)&&((x.part == c.part)&&((x.sign == c.sign)&&((x.by_ == c.by_)&&true)))))=true↔Ka x c:=by
  simp only [Bool.and_eq_true,beq_iff_eq,Bool.and_true]
  exact Iff.rfl
theorem zoo {l:List Claim} {i:Nat} (h:i < l.length) (y:Claim) (s:Int):(l.set i y).set i { (l.set i y).getD i default with state:=s }=l.set i { y with state:=s }:=by
  rw [List.set_set,za9 h,if_pos rfl]
theorem zog {l:List Claim} {c:Claim} {i:Nat} (h:∀ q,q < i→¬ Ka (l.getD q default) c) (hk:(((l.getD i default).debtor == c.debtor)&&(((l.getD i default).creditor == c.creditor)&&(((l.getD i default).part == c.part)&&(((l.getD i default).sign == c.sign)&&(((l.getD i default).by_ == c.by_)&&true)))))=false):∀ q,q < i+1→¬ Ka (l.getD q default) c:=by
  intro q hq e
  by_cases h1:q < i
  · exact h q h1 e
  · obtain rfl:q=i:=by omega
    rw [zkH.2 e] at hk
    cases hk
theorem Merged.len {f:Claim→Claim} {l x:List Claim} {c:Claim} (h:Merged f l c x):x.length≤l.length+1:=by
  rcases h with ⟨i,hi,-,rfl⟩ | ⟨-,rfl⟩
  · rw [List.length_set]; omega
  · simp
def gS (l:List Claim) (c_:Claim):Sk ((List Claim)) :=
 .bind true (fun b1=>∀ q,q < l.length→¬ Ka (l.getD q default) c_)
 (.loop (default:Sum ((List Claim)) (Unit)) (fun i2=>i2≤l.length∧∀ q,q < i2→¬ Ka (l.getD q default) c_) (fun i2=>l.length - i2) (0:Nat)
 (fun (i2:Nat)=>⟨[(9,iv ((i2:Nat):Int))],[]⟩) fun i2 =>
 .bnd 0 0 l.length <|
 .br (decide (((i2:Nat):Int) < ((l.length:Nat):Int)))
 (.r 3 (.andl (.p (ixP ((i2:Nat):Int) l.length)) (.p (i2 < l.length))) fun _ =>
 .r 4 (.dep ((Zl (l.getD i2 default)).c) fun _=>(Zl c_).c) fun p6 =>
 .br ((p6.1.debtor == p6.2.debtor)&&((p6.1.creditor == p6.2.creditor)&&((p6.1.part == p6.2.part)&&((p6.1.sign == p6.2.sign)&&((p6.1.by_ == p6.2.by_)&&true)))))
 (.r 5 (.andl (.p (ixP ((i2:Nat):Int) l.length)) (.andl (.o [.nrm (Vw Claim.E l i2 ({ l.getD i2 default with sum:=jP ((l.getD i2 default).sum) c_.sum }))]) (.p (i2 < l.length)))) fun _ =>
 .wn 777776 l.length (l.set i2 ({ l.getD i2 default with sum:=jP ((l.getD i2 default).sum) c_.sum })).length <|
 .r 6 (.depr ((zu c_.state ((l.getD i2 default).state)).c) fun x5=>.andl (.p (ixP ((i2:Nat):Int) ((l.set i2 ({ l.getD i2 default with sum:=jP ((l.getD i2 default).sum) c_.sum })).length))) (.andl (.o [.nrm (Vw Claim.E (l.set i2 ({ l.getD i2 default with sum:=jP ((l.getD i2 default).sum) c_.sum })) i2 ({ (l.set i2 ({ l.getD i2 default with sum:=jP ((l.getD i2 default).sum) c_.sum })).getD i2 default with state:=x5 }))]) (.p (i2 < (l.set i2 ({ l.getD i2 default with sum:=jP ((l.getD i2 default).sum) c_.sum })).length)))) fun x5 =>
 .wn 777776 (l.set i2 ({ l.getD i2 default with sum:=jP ((l.getD i2 default).sum) c_.sum })).length ((l.set i2 ({ l.getD i2 default with sum:=jP ((l.getD i2 default).sum) c_.sum })).set i2 ({ (l.set i2 ({ l.getD i2 default with sum:=jP ((l.getD i2 default).sum) c_.sum })).getD i2 default with state:=x5 })).length <|
 .fin (.inl (.inl ((l.set i2 ({ l.getD i2 default with sum:=jP ((l.getD i2 default).sum) c_.sum })).set i2 ({ (l.set i2 ({ l.getD i2 default with sum:=jP ((l.getD i2 default).sum) c_.sum })).getD i2 default with state:=x5 })))))
 (.r 8 .z fun _ =>
 .wi 9 (w64 (((i2:Nat):Int)+1)) ((i2+1:Nat):Int) <|
 .fin (.inr (i2+1))))
 (.fin (.inl (.inr ()))))
 (fun (_:Unit)=>⟨[],[]⟩) fun _ =>
 .r 9 (.andl (.o [.nrm (qt Claim.E [c_])]) (.andl (.o [.nrm (Ji Claim.E l [c_])]) (.andl (.t (Claim.E.ones [c_])) (.p (szP l.length [c_].length 72))))) fun _ =>
 .fin (l++[c_])
def HR (l:List Claim) (c_:Claim):(List Claim):=(gS l c_).val
theorem ziT (l:List Claim) (c_:Claim):(gS l c_).pst (fun (x:(List Claim))=>Merged (fG c_) l c_ x):=by
  refine Sk.pst_of _ ?_
  unfold gS
  simp only [Sk.pstq,Sk.isLoop,reduceCtorEq,ON,kk,zu,Zl,HO,forall_eq,maxLen]
  refine ⟨⟨⟨Nat.zero_le _,fun q hq=>absurd hq (by omega)⟩,fun i hi=>⟨fun hc _=>⟨fun hk _=>?_,fun hk _=>⟨⟨?_,zog hi.2 hk⟩,by simp only [LN] at hc; omega⟩⟩,fun hc=>?_⟩⟩,fun _ hb _=>.inr ⟨hb,rfl⟩⟩
  all_goals simp only [LN] at hc
  · exact .inl ⟨i,by omega,zkH.1 hk,zoo (by omega) _ _⟩
  · omega
  · exact fun q hq=>hi.2 q (by omega)

theorem zgj (l:List Claim) (c_:Claim):(fun (x:(List Claim))=>Merged (fG c_) l c_ x) (HR l c_):=have h:=Sk.pval _ (ziT l c_); h
theorem zjZ (l:List Claim) (c_:Claim) (hl:l.length≤1000000000000):(gS l c_).obs (fun _=>True):=by
  refine Sk.obs_of _ ?_
  unfold gS
  simp only [Sk.obq,Sk.isLoop,reduceCtorEq,ON,kk,zu,Zl,HO,forall_eq,maxLen]
  refine ⟨⟨⟨Nat.zero_le _,fun q hq=>absurd hq (by omega)⟩,fun i hi hm=>⟨fun hc=>?_,fun hc q hq=>hi.2 q (by simp only [LN] at hc; omega)⟩⟩,fun b hb=>?_⟩
  · simp only [LN] at hc
    refine ⟨⟨⟨by omega,by omega⟩,by omega⟩,fun _=>⟨fun hk=>?_,fun hk _=>⟨(jj (by omega) (by omega)).trans (by omega),⟨by omega,zog hi.2 hk⟩,by omega⟩⟩⟩
    simp only [List.length_set]
    refine ⟨⟨⟨by omega,by omega⟩,by omega⟩,fun _=>?_⟩
    (repeat' first | exact trivial | (apply And.intro) | (intro h))
    all_goals first | rfl | trivial | omega
  · simp only [List.length_cons,List.length_nil]
    omega

theorem ziI (l:List Claim) (c_:Claim) (hl:l.length≤1000000000000):FnA Tryz.prog 124 [ow 777776 l,av c_.cells] [(777776,jy 67 9 Claim.cells l)] (ow 777777 (HR l c_)) [(777777,jy 67 9 Claim.cells (HR l c_))] :=
  FnA.sk tok mixed (fun x=>ow 777777 x) (fun x=>[(777777,jy 67 9 Claim.cells x)]) Tryz.func124 rfl (by kernel_rfl) 3000 (gS l c_) (by kernel_rfl) (zjZ l c_ hl)
def KN (κ κ':Nat) (l:List Claim) (c_:Claim):WI ((List Claim)):=⟨Tryz.prog,124,[ow κ l,av c_.cells],[(κ,jy 67 9 Claim.cells l)],fun x=>ow κ' x,fun x=>[(κ',jy 67 9 Claim.cells x)],HR l c_,(l.length≤1000000000000),fun h=>FnA.rekeyA κ rfl (FnA.rekeyR κ' (ziI l c_ h)),fun (x:(List Claim))=>Merged (fG c_) l c_ x,zgj l c_⟩
def JZ (l:List Claim) (c_:Claim):Sk ((List Claim)) :=
 .bind true (fun b1=>∀ q,q < l.length→¬ Ka (l.getD q default) c_)
 (.loop (default:Sum ((List Claim)) (Unit)) (fun i2=>i2≤l.length∧∀ q,q < i2→¬ Ka (l.getD q default) c_) (fun i2=>l.length - i2) (0:Nat)
 (fun (i2:Nat)=>⟨[(9,iv ((i2:Nat):Int))],[]⟩) fun i2 =>
 .bnd 0 0 l.length <|
 .br (decide (((i2:Nat):Int) < ((l.length:Nat):Int)))
 (.r 3 (.andl (.p (ixP ((i2:Nat):Int) l.length)) (.p (i2 < l.length))) fun _ =>
 .r 4 (.dep ((Zl (l.getD i2 default)).c) fun _=>(Zl c_).c) fun p6 =>
 .br ((p6.1.debtor == p6.2.debtor)&&((p6.1.creditor == p6.2.creditor)&&((p6.1.part == p6.2.part)&&((p6.1.sign == p6.2.sign)&&((p6.1.by_ == p6.2.by_)&&true)))))
 (.r 5 (.andl (.p (ixP ((i2:Nat):Int) l.length)) (.andl (.o [.nrm (Vw Claim.E l i2 ({ l.getD i2 default with sum:=qI 1099511627776 (w64 (((l.getD i2 default).sum)+c_.sum)) }))]) (.p (i2 < l.length)))) fun _ =>
 .wn 777776 l.length (l.set i2 ({ l.getD i2 default with sum:=qI 1099511627776 (w64 (((l.getD i2 default).sum)+c_.sum)) })).length <|
 .r 6 (.depr ((zu ((l.getD i2 default).state) c_.state).c) fun x5=>.andl (.p (ixP ((i2:Nat):Int) ((l.set i2 ({ l.getD i2 default with sum:=qI 1099511627776 (w64 (((l.getD i2 default).sum)+c_.sum)) })).length))) (.andl (.o [.nrm (Vw Claim.E (l.set i2 ({ l.getD i2 default with sum:=qI 1099511627776 (w64 (((l.getD i2 default).sum)+c_.sum)) })) i2 ({ (l.set i2 ({ l.getD i2 default with sum:=qI 1099511627776 (w64 (((l.getD i2 default).sum)+c_.sum)) })).getD i2 default with state:=x5 }))]) (.p (i2 < (l.set i2 ({ l.getD i2 default with sum:=qI 1099511627776 (w64 (((l.getD i2 default).sum)+c_.sum)) })).length)))) fun x5 =>
 .wn 777776 (l.set i2 ({ l.getD i2 default with sum:=qI 1099511627776 (w64 (((l.getD i2 default).sum)+c_.sum)) })).length ((l.set i2 ({ l.getD i2 default with sum:=qI 1099511627776 (w64 (((l.getD i2 default).sum)+c_.sum)) })).set i2 ({ (l.set i2 ({ l.getD i2 default with sum:=qI 1099511627776 (w64 (((l.getD i2 default).sum)+c_.sum)) })).getD i2 default with state:=x5 })).length <|
 .fin (.inl (.inl ((l.set i2 ({ l.getD i2 default with sum:=qI 1099511627776 (w64 (((l.getD i2 default).sum)+c_.sum)) })).set i2 ({ (l.set i2 ({ l.getD i2 default with sum:=qI 1099511627776 (w64 (((l.getD i2 default).sum)+c_.sum)) })).getD i2 default with state:=x5 })))))
 (.r 8 .z fun _ =>
 .wi 9 (w64 (((i2:Nat):Int)+1)) ((i2+1:Nat):Int) <|
 .fin (.inr (i2+1))))
 (.fin (.inl (.inr ()))))
 (fun (_:Unit)=>⟨[],[]⟩) fun _ =>
 .r 9 (.andl (.o [.nrm (qt Claim.E [c_])]) (.andl (.o [.nrm (Ji Claim.E l [c_])]) (.andl (.t (Claim.E.ones [c_])) (.p (szP l.length [c_].length 72))))) fun _ =>
 .fin (l++[c_])
def zaH (l:List Claim) (c_:Claim):(List Claim):=(JZ l c_).val
theorem zj0 (l:List Claim) (c_:Claim):(JZ l c_).pst (fun (x:(List Claim))=>Merged (fJ c_) l c_ x):=by
  refine Sk.pst_of _ ?_
  unfold JZ
  simp only [Sk.pstq,Sk.isLoop,reduceCtorEq,ON,kk,zu,Zl,HO,forall_eq,maxLen]
  refine ⟨⟨⟨Nat.zero_le _,fun q hq=>absurd hq (by omega)⟩,fun i hi=>⟨fun hc _=>⟨fun hk _=>?_,fun hk _=>⟨⟨?_,zog hi.2 hk⟩,by simp only [LN] at hc; omega⟩⟩,fun hc=>?_⟩⟩,fun _ hb _=>.inr ⟨hb,rfl⟩⟩
  all_goals simp only [LN] at hc
  · exact .inl ⟨i,by omega,zkH.1 hk,zoo (by omega) _ _⟩
  · omega
  · exact fun q hq=>hi.2 q (by omega)

theorem ziJ (l:List Claim) (c_:Claim):(fun (x:(List Claim))=>Merged (fJ c_) l c_ x) (zaH l c_):=have h:=Sk.pval _ (zj0 l c_); h
theorem zla (l:List Claim) (c_:Claim) (hl:l.length≤1000000000000):(JZ l c_).obs (fun _=>True):=by
  refine Sk.obs_of _ ?_
  unfold JZ
  simp only [Sk.obq,Sk.isLoop,reduceCtorEq,ON,kk,zu,Zl,HO,forall_eq,maxLen]
  refine ⟨⟨⟨Nat.zero_le _,fun q hq=>absurd hq (by omega)⟩,fun i hi hm=>⟨fun hc=>?_,fun hc q hq=>hi.2 q (by simp only [LN] at hc; omega)⟩⟩,fun b hb=>?_⟩
  · simp only [LN] at hc
    refine ⟨⟨⟨by omega,by omega⟩,by omega⟩,fun _=>⟨fun hk=>?_,fun hk _=>⟨(jj (by omega) (by omega)).trans (by omega),⟨by omega,zog hi.2 hk⟩,by omega⟩⟩⟩
    simp only [List.length_set]
    refine ⟨⟨⟨by omega,by omega⟩,by omega⟩,fun _=>?_⟩
    (repeat' first | exact trivial | (apply And.intro) | (intro h))
    all_goals first | rfl | trivial | omega
  · simp only [List.length_cons,List.length_nil]
    omega

theorem zkm (l:List Claim) (c_:Claim) (hl:l.length≤1000000000000):FnA Tryz.prog 125 [ow 777776 l,av c_.cells] [(777776,jy 67 9 Claim.cells l)] (ow 777777 (zaH l c_)) [(777777,jy 67 9 Claim.cells (zaH l c_))] :=
  FnA.sk tok mixed (fun x=>ow 777777 x) (fun x=>[(777777,jy 67 9 Claim.cells x)]) Tryz.func125 rfl (by kernel_rfl) 3000 (JZ l c_) (by kernel_rfl) (zla l c_ hl)
def Zr (κ κ':Nat) (l:List Claim) (c_:Claim):WI ((List Claim)):=⟨Tryz.prog,125,[ow κ l,av c_.cells],[(κ,jy 67 9 Claim.cells l)],fun x=>ow κ' x,fun x=>[(κ',jy 67 9 Claim.cells x)],zaH l c_,(l.length≤1000000000000),fun h=>FnA.rekeyA κ rfl (FnA.rekeyR κ' (zkm l c_ h)),fun (x:(List Claim))=>Merged (fJ c_) l c_ x,ziJ l c_⟩
def Ja (l:List Claim) (a:jE) (kind:Int) (stranger:Bool):Sk ((List Claim) × (List Step)) :=
 .r 2 ((Zx 21 l).c) fun x1 =>
 .bind true (fun b2=>zcC l a stranger l.length b2.1 b2.2.2∧b2.2.1.length≤l.length∧b2.2.2.length≤l.length)
 (.loop (default:Sum ((List Claim) × (List Step)) ((List Claim) × (List Step) × (List Claim))) (fun i3=>i3.2.2.2≤l.length∧zcC l a stranger i3.2.2.2 i3.1 i3.2.2.1∧i3.2.1.length≤i3.2.2.2∧i3.2.2.1.length≤i3.2.2.2) (fun i3=>l.length - i3.2.2.2) ((x1,[],[],0):(List Claim) × (List Step) × (List Claim) × Nat)
 (fun (i3:(List Claim) × (List Step) × (List Claim) × Nat)=>⟨[(8,ow 100006 i3.1),(9,ow 100007 i3.2.1),(11,ow 100008 i3.2.2.1),(24,iv ((i3.2.2.2:Nat):Int))],[(100006,jy 67 9 Claim.cells i3.1),(100007,jy 165 4 Step.cells i3.2.1),(100008,jy 67 9 Claim.cells i3.2.2.1)]⟩) fun i3 =>
 .bnd 22 0 l.length <|
 .br (decide (((i3.2.2.2:Nat):Int) < ((l.length:Nat):Int)))
 (.r 6 (.p (ixP ((i3.2.2.2:Nat):Int) l.length)) fun _ =>
 .r 7 ((XE a stranger (l.getD i3.2.2.2 default)).c) fun x4 =>
 .br (!x4)
 (.r 14 .z fun _ =>
 .wi 24 (w64 (((i3.2.2.2:Nat):Int)+1)) ((i3.2.2.2+1:Nat):Int) <|
 .fin (.inr (i3.1,i3.2.1,i3.2.2.1,i3.2.2.2+1)))
 (.r 9 (.andl (.p (ixP ((i3.2.2.2:Nat):Int) i3.1.length)) (.andl (.o [.nrm (Vw Claim.E i3.1 i3.2.2.2 ({ i3.1.getD i3.2.2.2 default with sum:=w64 ((jP 0 ((l.getD i3.2.2.2 default).sum)) - (qI (jP 0 a.sum) (jP 0 ((l.getD i3.2.2.2 default).sum)))) }))]) (.p (i3.2.2.2 < i3.1.length)))) fun _ =>
 .wn 100006 i3.1.length (i3.1.set i3.2.2.2 ({ i3.1.getD i3.2.2.2 default with sum:=w64 ((jP 0 ((l.getD i3.2.2.2 default).sum)) - (qI (jP 0 a.sum) (jP 0 ((l.getD i3.2.2.2 default).sum)))) })).length <|
 .r 10 (.andl (.o [.nrm (qt Step.E [({ debtor:=(l.getD i3.2.2.2 default).debtor,creditor:=(l.getD i3.2.2.2 default).creditor,sign:=(l.getD i3.2.2.2 default).sign,sum:=qI (jP 0 a.sum) (jP 0 ((l.getD i3.2.2.2 default).sum)) }:Step)])]) (.andl (.o [.nrm (Ji Step.E i3.2.1 [({ debtor:=(l.getD i3.2.2.2 default).debtor,creditor:=(l.getD i3.2.2.2 default).creditor,sign:=(l.getD i3.2.2.2 default).sign,sum:=qI (jP 0 a.sum) (jP 0 ((l.getD i3.2.2.2 default).sum)) }:Step)])]) (.andl (.t (Step.E.ones [({ debtor:=(l.getD i3.2.2.2 default).debtor,creditor:=(l.getD i3.2.2.2 default).creditor,sign:=(l.getD i3.2.2.2 default).sign,sum:=qI (jP 0 a.sum) (jP 0 ((l.getD i3.2.2.2 default).sum)) }:Step)])) (.p (szP i3.2.1.length [({ debtor:=(l.getD i3.2.2.2 default).debtor,creditor:=(l.getD i3.2.2.2 default).creditor,sign:=(l.getD i3.2.2.2 default).sign,sum:=qI (jP 0 a.sum) (jP 0 ((l.getD i3.2.2.2 default).sum)) }:Step)].length 32))))) fun _ =>
 .br (((kind != 1)&&((((l.getD i3.2.2.2 default).turn) == 0)||(decide (((l.getD i3.2.2.2 default).sign) < a.at_))))&&(((l.getD i3.2.2.2 default).debtor) != a.who))
 (.r 13 ((KN 100008 90 i3.2.2.1 ({ l.getD i3.2.2.2 default with creditor:=a.who,by_:=a.at_,sum:=qI (jP 0 a.sum) (jP 0 ((l.getD i3.2.2.2 default).sum)) })).c) fun x5 =>
 .r 14 .z fun _ =>
 .wi 24 (w64 (((i3.2.2.2:Nat):Int)+1)) ((i3.2.2.2+1:Nat):Int) <|
 .fin (.inr (i3.1.set i3.2.2.2 ({ i3.1.getD i3.2.2.2 default with sum:=w64 ((jP 0 ((l.getD i3.2.2.2 default).sum)) - (qI (jP 0 a.sum) (jP 0 ((l.getD i3.2.2.2 default).sum)))) }),i3.2.1++[({ debtor:=(l.getD i3.2.2.2 default).debtor,creditor:=(l.getD i3.2.2.2 default).creditor,sign:=(l.getD i3.2.2.2 default).sign,sum:=qI (jP 0 a.sum) (jP 0 ((l.getD i3.2.2.2 default).sum)) }:Step)],x5,i3.2.2.2+1)))
 (.r 14 .z fun _ =>
 .wi 24 (w64 (((i3.2.2.2:Nat):Int)+1)) ((i3.2.2.2+1:Nat):Int) <|
 .fin (.inr (i3.1.set i3.2.2.2 ({ i3.1.getD i3.2.2.2 default with sum:=w64 ((jP 0 ((l.getD i3.2.2.2 default).sum)) - (qI (jP 0 a.sum) (jP 0 ((l.getD i3.2.2.2 default).sum)))) }),i3.2.1++[({ debtor:=(l.getD i3.2.2.2 default).debtor,creditor:=(l.getD i3.2.2.2 default).creditor,sign:=(l.getD i3.2.2.2 default).sign,sum:=qI (jP 0 a.sum) (jP 0 ((l.getD i3.2.2.2 default).sum)) }:Step)],i3.2.2.1,i3.2.2.2+1)))))
 (.fin (.inl (.inr (i3.1,i3.2.1,i3.2.2.1)))))
 (fun (b2:(List Claim) × (List Step) × (List Claim))=>⟨[(8,ow 100003 b2.1),(9,ow 100004 b2.2.1),(11,ow 100005 b2.2.2)],[(100003,jy 67 9 Claim.cells b2.1),(100004,jy 165 4 Step.cells b2.2.1),(100005,jy 67 9 Claim.cells b2.2.2)]⟩) fun b2 =>
 .bind true (fun b6=>zic a b2.1 b2.2.2 b2.2.2.length b6)
 (.loop (default:Sum ((List Claim) × (List Step)) ((List Claim))) (fun i7=>i7.2≤b2.2.2.length∧zic a b2.1 b2.2.2 i7.2 i7.1) (fun i7=>b2.2.2.length - i7.2) ((b2.1,0):(List Claim) × Nat)
 (fun (i7:(List Claim) × Nat)=>⟨[(8,ow 100011 i7.1),(94,iv ((i7.2:Nat):Int))],[(100011,jy 67 9 Claim.cells i7.1)]⟩) fun i7 =>
 .bnd 92 0 b2.2.2.length <|
 .br (decide (((i7.2:Nat):Int) < ((b2.2.2.length:Nat):Int)))
 (.r 17 (.andl (.p (ixP ((i7.2:Nat):Int) b2.2.2.length)) (.p (i7.2 < b2.2.2.length))) fun _ =>
 .r 18 ((Zr 100011 100 i7.1 (b2.2.2.getD i7.2 default)).c) fun x8 =>
 .r 19 .z fun _ =>
 .wi 94 (w64 (((i7.2:Nat):Int)+1)) ((i7.2+1:Nat):Int) <|
 .fin (.inr (x8,i7.2+1)))
 (.fin (.inl (.inr i7.1))))
 (fun (b6:(List Claim))=>⟨[(8,ow 100010 b6)],[(100010,jy 67 9 Claim.cells b6)]⟩) fun b6 =>
 .fz 100004 <|
 .fin (b6,b2.2.1)
def Gh (l:List Claim) (a:jE) (kind:Int) (stranger:Bool):(List Claim) × (List Step):=(Ja l a kind stranger).val
theorem zh2 (l:List Claim) (a:jE) (kind:Int) (stranger:Bool):(Ja l a kind stranger).pst (fun (x:(List Claim) × (List Step))=>Wq l a stranger x.1):=by
  refine Sk.pst_of _ ?_
  unfold Ja
  simp only [Sk.pstq,Sk.isLoop,reduceCtorEq,ON,kk,KN,Zr,XE,Zx,KN,Zr,WI.c,uE,forall_eq,maxLen]
  intro hx
  refine ⟨⟨⟨Nat.zero_le _,by rw [hx.2]; exact zcC.init l a stranger,Nat.le_refl _,Nat.le_refl _⟩,fun i hi=>⟨fun hc _=>?_,fun hc=>?_⟩⟩,fun b hb=>⟨⟨⟨Nat.zero_le _,zic.init a _ _⟩,fun i hi=>⟨fun hc _ hM _=>?_,fun hc=>?_⟩⟩,fun b1 hb1=>Wq.mk' hb.1 rfl hb1 (Nat.le_refl _)⟩⟩
  all_goals simp only [LN] at hc
  · have hk:i.2.2.2 < l.length:=by omega
    have hi2:=hi.2.2
    refine ⟨fun hm _=>⟨⟨by omega,hi.2.1.skip hk (by rw [uE]; exact (Bool.not_eq_true' _).mp hm),by omega,by omega⟩,by omega⟩,fun hm _ _=>?_⟩
    have hm':ug a stranger (l.getD i.2.2.2 default)=true:=by rw [uE]; exact (Bool.not_eq_false' _).mp hm
    refine ⟨fun hg hM _=>⟨⟨by omega,hi.2.1.meet hk hm' (hi.2.1.2.2.group (zmP (uf hk) ?_ _ rfl) hM),?_,?_⟩,by omega⟩,fun _ _=>⟨⟨by omega,hi.2.1.meet hk hm' hi.2.1.2.2,?_,by omega⟩,by omega⟩⟩
    · simp only [LN] at hg
      exact hg.2
    · rw [List.length_append,List.length_singleton]; omega
    · exact Nat.le_trans hM.len (by omega)
    · rw [List.length_append,List.length_singleton]; omega
  · have e:i.2.2.2=l.length:=by omega
    rw [e] at hi
    exact hi.2
  · have hk:i.2 < b.2.2.length:=by omega
    have hin:=hb.1.2.2.1 _ (uf hk)
    exact ⟨⟨by omega,hi.2.step (uf hk) hin.1.1 hM⟩,by omega⟩
  · have e:i.2=b.2.2.length:=by omega
    rw [e] at hi
    exact hi.2

theorem zfN (l:List Claim) (a:jE) (kind:Int) (stranger:Bool):(fun (x:(List Claim) × (List Step))=>Wq l a stranger x.1) (Gh l a kind stranger):=have h:=Sk.pval _ (zh2 l a kind stranger); h
theorem zko (l:List Claim) (a:jE) (kind:Int) (stranger:Bool) (hl:l.length≤1000000000):(Ja l a kind stranger).obs (fun _=>True):=by
  refine Sk.obs_of _ ?_
  unfold Ja
  simp only [Sk.obq,Sk.isLoop,reduceCtorEq,ON,kk,KN,Zr,XE,Zx,KN,Zr,WI.c,uE,forall_eq,maxLen]
  refine ⟨hl,fun hx=>⟨⟨⟨Nat.zero_le _,by rw [hx.2]; exact zcC.init l a stranger,Nat.le_refl _,Nat.le_refl _⟩,fun i hi hmx=>⟨fun hc=>?_,fun hc=>?_⟩⟩,fun b hb=>⟨⟨Nat.zero_le _,zic.init a _ _⟩,fun i hi hmx=>⟨fun hc=>?_,fun hc=>?_⟩⟩⟩⟩
  all_goals simp only [LN] at hc
  · have hk:i.2.2.2 < l.length:=by omega
    have hi2:=hi.2.2
    have hol:=hi.2.1.1
    have hw:w64 ((i.2.2.2:Int)+1)=((i.2.2.2+1:Nat):Int):=(jj (by omega) (by omega)).trans (by omega)
    refine ⟨⟨by omega,by omega⟩,fun _=>⟨fun hm _=>⟨hw,⟨by omega,hi.2.1.skip hk (by rw [uE]; exact (Bool.not_eq_true' _).mp hm),by omega,by omega⟩,by omega⟩,fun hm=>⟨⟨⟨by omega,by omega⟩,by omega⟩,fun _=>⟨by rw [List.length_set],⟨by simp only [List.length_singleton]; omega,by simp only [List.length_singleton]; omega⟩,fun _=>?_⟩⟩⟩⟩
    have hm':ug a stranger (l.getD i.2.2.2 default)=true:=by rw [uE]; exact (Bool.not_eq_false' _).mp hm
    refine ⟨fun hg=>⟨by omega,fun hM _=>⟨hw,⟨by omega,hi.2.1.meet hk hm' (hi.2.1.2.2.group (zmP (uf hk) ?_ _ rfl) hM),?_,?_⟩,by omega⟩⟩,fun _ _=>⟨hw,⟨by omega,hi.2.1.meet hk hm' hi.2.1.2.2,?_,by omega⟩,by omega⟩⟩
    · simp only [LN] at hg
      exact hg.2
    · rw [List.length_append,List.length_singleton]; omega
    · exact Nat.le_trans hM.len (by omega)
    · rw [List.length_append,List.length_singleton]; omega
  · have e:i.2.2.2=l.length:=by omega
    rw [e] at hi
    exact hi.2
  · have hk:i.2 < b.2.2.length:=by omega
    have hin:=hb.1.2.2.1 _ (uf hk)
    have hln:=hi.2.1
    have hol:=hb.1.1
    exact ⟨⟨⟨by omega,by omega⟩,hk⟩,fun _=>⟨by omega,fun hM _=>⟨(jj (by omega) (by omega)).trans (by omega),⟨by omega,hi.2.step (uf hk) hin.1.1 hM⟩,by omega⟩⟩⟩
  · have e:i.2=b.2.2.length:=by omega
    rw [e] at hi
    exact hi.2

theorem zh7 (l:List Claim) (a:jE) (kind:Int) (stranger:Bool) (hl:l.length≤1000000000):FnA Tryz.prog 81 [lv Claim.cells l,av a.cells,iv kind,bv stranger] [] (.tup [ow 777777 (Gh l a kind stranger).1,lv Step.cells ((Gh l a kind stranger).2)]) [(777777,jy 67 9 Claim.cells (Gh l a kind stranger).1)] :=
  FnA.sk tok mixed (fun x=>.tup [ow 777777 x.1,lv Step.cells x.2]) (fun x=>[(777777,jy 67 9 Claim.cells x.1)]) Tryz.func81 rfl (by kernel_rfl) 3000 (Ja l a kind stranger) (by kernel_rfl) (zko l a kind stranger hl)
def Wn (κ:Nat) (l:List Claim) (a:jE) (kind:Int) (stranger:Bool):vQ ((List Claim) × (List Step)):=⟨Tryz.prog,81,[lv Claim.cells l,av a.cells,iv kind,bv stranger],fun x=>.tup [ow κ x.1,lv Step.cells x.2],fun x=>[(κ,jy 67 9 Claim.cells x.1)],Gh l a kind stranger,(l.length≤1000000000),fun h=>FnA.rekeyT κ rfl (zh7 l a kind stranger h),fun (x:(List Claim) × (List Step))=>Wq l a stranger x.1,zfN l a kind stranger⟩
theorem zlR {β Y γ:Type} (g:Y→List β) {f:List β→Y→γ ⊕ List β}:∀ (l:List Y) (s:List β),(∀ s y,y∈l→f s y=.inr (s++g y))→KH f l s=.inr (s++l.flatMap g)
  | [],s,_=>by simp [KH]
  | y :: r,s,h=>by
    simp only [KH,h s y (by simp)]
    rw [zlR g r _ (fun s z hz=>h s z (by simp [hz]))]
    simp
theorem zl8 {α β ι δ:Type} [Inhabited α] (l:List α) (g:α→List β) (pack:List β→Nat→ι) {f:ι→δ ⊕ ι} {d:δ} (e:List β→δ)
    (hs:∀ s i,i < l.length→f (pack s i)=.inr (pack (s++g (l.getD i default)) (i+1))) (he:∀ s,f (pack s l.length)=.inl (e s)) {n:Nat} (hn:l.length < n) (s:List β):iter f d n (pack s 0)=e (s++l.flatMap g):=by
  rw [Qv (d:=d) l pack (fun x s=>.inr (s++g x)) e hs he hn s,Ge (fun x s=>s++g x) e]
  congr 1
  clear hs he hn
  induction l generalizing s with
  | nil=>simp
  | cons x r ih=>rw [List.foldl_cons,ih]; simp
/-- a claim of an owner by a signature,if there is one -/
def WE (r:jg) (forum:Int) (f:jh) (day:Int) (c:kV) (eff:List ke) (links:List Int) (part:Int) (o:uX) (sign:Int):List Claim :=
  bif (jR c o sign links eff).1 == 0||(c.view.now.signs.getD sign.toNat default).who == o.firm then [] else
  [{ debtor:=(c.view.now.signs.getD sign.toNat default).who,creditor:=o.firm,part:=part,sign:=sign,by_:=o.sign,turn:=(jR c o sign links eff).2,sum:=(Kj r forum f sign day).rest,currency:=f.bill.currency,state:=(jR c o sign links eff).1 }]
def zgi (r:jg) (forum:Int) (f:jh) (day:Int) (c:kV) (eff:List ke):List Claim :=
  c.view.lead.flatMap fun part=>(jF c (jo c.view part)).flatMap fun o=>(jM c.view part o.sign (jo c.view part)).flatMap fun sign=>WE r forum f day c eff (jo c.view part) part o sign
theorem zjy (r:jg) (forum:Int) (f:jh) (day:Int):qj r forum f day=bif !(jv r forum f day).2 then [] else zgi r forum f day (jv r forum f day).1 (kB r forum f day):=by
  unfold qj Jm
  dsimp +instances only [Sk.val_bind,Sk.val_loop,Sk.val_bnd,Sk.val_br,Sk.val_r,Sk.val_wi,Sk.val_fin,Sk.val_rf,Ctr.c_v,kk,zcb,Uk,Qg,KV,Kq,YL,uH,Cal.andl_v]
  cases (jv r forum f day).2 with
  | false=>rfl
  | true =>
    simp only [Bool.not_true,cond_false]
    refine Eq.trans (congrArg (fun q=>Kh q fun b=>b) (zl8 (jv r forum f day).1.view.lead (fun part=>(jF (jv r forum f day).1 (jo (jv r forum f day).1.view part)).flatMap fun o=>(jM (jv r forum f day).1.view part o.sign (jo (jv r forum f day).1.view part)).flatMap fun sign=>WE r forum f day (jv r forum f day).1 (kB r forum f day) (jo (jv r forum f day).1.view part) part o sign) (fun s i=>(i,s)) (fun s=>Sum.inr s) (fun s i hi=>?_) (fun s=>?_) (by simp) [])) ?_
    · dsimp only
      rw [decide_eq_true (by omega),cond_true]
      rw [zlR (fun o=>(jM (jv r forum f day).1.view ((jv r forum f day).1.view.lead.getD i default) o.sign (jo (jv r forum f day).1.view ((jv r forum f day).1.view.lead.getD i default))).flatMap fun sign=>WE r forum f day (jv r forum f day).1 (kB r forum f day) (jo (jv r forum f day).1.view ((jv r forum f day).1.view.lead.getD i default)) ((jv r forum f day).1.view.lead.getD i default) o sign) _ s (fun s y _=>?_)]
      · rfl
      · refine Eq.trans (congrArg (fun q=>Kh (Kh q _) _) (zl8 (jM (jv r forum f day).1.view ((jv r forum f day).1.view.lead.getD i default) y.sign (jo (jv r forum f day).1.view ((jv r forum f day).1.view.lead.getD i default))) (fun sign=>WE r forum f day (jv r forum f day).1 (kB r forum f day) (jo (jv r forum f day).1.view ((jv r forum f day).1.view.lead.getD i default)) ((jv r forum f day).1.view.lead.getD i default) y sign) (fun s i=>(i,s)) (fun s=>Sum.inr (((jM (jv r forum f day).1.view ((jv r forum f day).1.view.lead.getD i default) y.sign (jo (jv r forum f day).1.view ((jv r forum f day).1.view.lead.getD i default))).length:Int),s)) (fun s k hk=>?_) (fun s=>?_) (by simp) s)) ?_
        · dsimp only
          rw [decide_eq_true (by omega),cond_true]
          unfold WE
          cases (jR (jv r forum f day).1 y ((jM (jv r forum f day).1.view ((jv r forum f day).1.view.lead.getD i default) y.sign (jo (jv r forum f day).1.view ((jv r forum f day).1.view.lead.getD i default))).getD k default) (jo (jv r forum f day).1.view ((jv r forum f day).1.view.lead.getD i default)) (kB r forum f day)).1 == 0||((jv r forum f day).1.view.now.signs.getD ((jM (jv r forum f day).1.view ((jv r forum f day).1.view.lead.getD i default) y.sign (jo (jv r forum f day).1.view ((jv r forum f day).1.view.lead.getD i default))).getD k default).toNat default).who == y.firm with
          | true=>simp only [cond_true,List.append_nil]
          | false=>simp only [cond_false]
        · dsimp only
          rw [decide_eq_false (by omega),cond_false]
        · rfl
    · dsimp only
      rw [decide_eq_false (by omega),cond_false]
    · rw [List.nil_append]
      rfl
theorem UP {α β:Type} {g:α→List β} {m:Nat}:∀ (l:List α),(∀ x,x∈l→(g x).length≤m)→(l.flatMap g).length≤l.length * m
  | [],_=>by simp
  | x :: r,h=>by
    have h1:=UP r (fun y hy=>h y (by simp [hy]))
    have h2:=h x (by simp)
    rw [List.flatMap_cons,List.length_append,List.length_cons,Nat.succ_mul]
    omega
theorem ze0 {r:jg} {forum:Int} {f:jh} {day:Int} (hF:jU r f):(qj r forum f day).length≤67240:=by
  rw [zjy]
  cases ht:(jv r forum f day).2 with
  | false=>simp
  | true =>
    rw [Bool.not_true,cond_false]
    have he:=(Wh r forum f day ht).1
    have hv:(jv r forum f day).1.view=jW f day:=by rw [he]
    have ho:=YB f day
    have h40:=hF.2.1.1
    have hk:∀ part,(jo (jW f day) part).length≤40:=fun part=>by
      have h:=(vX (jW f day) part).1
      rw [ho.1] at h
      omega
    unfold zgi
    rw [hv]
    refine Nat.le_trans (UP (m:=1640) _ fun part _=>Nat.le_trans (UP (m:=40) _ fun o _=>Nat.le_trans (UP (m:=1) _ fun s _=>?_) ?_) ?_) ?_
    · unfold WE
      cases (jR (jv r forum f day).1 o s (jo (jW f day) part) (kB r forum f day)).1 == 0||((jv r forum f day).1.view.now.signs.getD s.toNat default).who == o.firm <;> simp
    · have h:=(yX (jW f day) part o.sign (jo (jW f day) part)).1
      have h2:=KW f day
      rw [ho.2.1] at h
      omega
    · have h:=Bc (jv r forum f day).1 (jo (jW f day) part)
      have h2:=hk part
      omega
    · have h:=ho.2.2.2.2
      omega
/-- how many links lie from one signature to another -/
def zkP (links:List Int) (lo hi:Int):Nat:=(links.filter fun l=>decide (l≤hi)&&decide (l≥lo)).length
def zjS (links:List Int) (hi:Int):Nat:=(links.filter fun l=>decide (l≤hi)).length
theorem zoE (links:List Int) (lo hi:Int) {i:Nat} (h:i < links.length):zkP (links.take (i+1)) lo hi=zkP (links.take i) lo hi+(bif decide (links.getD i default≤hi)&&decide (links.getD i default≥lo) then 1 else 0):=by
  unfold zkP
  rw [List.take_succ_eq_append_getElem h,List.filter_append,List.length_append,show links.getD i default=links[i] by simp [List.getD,h]]
  congr 1
  cases hc:decide (links[i]≤hi)&&decide (links[i]≥lo) with
  | true=>rw [List.filter_cons_of_pos (by simpa using hc)]; rfl
  | false=>rw [List.filter_cons_of_neg (by simpa using hc)]; rfl
theorem zoD (links:List Int) (hi:Int) {i:Nat} (h:i < links.length):zjS (links.take (i+1)) hi=zjS (links.take i) hi+(bif decide (links.getD i default≤hi) then 1 else 0):=by
  unfold zjS
  rw [List.take_succ_eq_append_getElem h,List.filter_append,List.length_append,show links.getD i default=links[i] by simp [List.getD,h]]
  congr 1
  cases hc:decide (links[i]≤hi) with
  | true=>rw [List.filter_cons_of_pos (by simpa using hc)]; rfl
  | false=>rw [List.filter_cons_of_neg (by simpa using hc)]; rfl
theorem zq6 (links:List Int) (lo hi:Int):zkP links lo hi≤links.length:=List.length_filter_le ..
theorem zq9 (links:List Int) (hi:Int):zjS links hi≤links.length:=List.length_filter_le ..
def YU (c:kV):Bool:=(c.due != (-1))&&decide (c.view.day≥c.due)
theorem zqg (c:kV) (o:uX) (sign:Int) (links:List Int) (eff:List ke) (hl:links.length≤1000000):jR c o sign links eff =
    bif (c.view.now.signs.getD (jG c.view sign).toNat default).kind == 1 then (bif !(YU c) then (0,0) else (Zo o.state (eff.getD sign.toNat default).binds,0)) else
    bif ((!(YU c))&&(!(kI c.view.now.acts)))||(!((eff.getD (jG c.view sign).toNat default).recourse)) then (0,0) else
    (Zo (Zo o.state (eff.getD sign.toNat default).binds) (Hf c.r c.forum c.view.all (jG c.view sign) c.view.day).all,
      bif !(slices_Contains links (jG c.view sign)) then (1+(zjS links o.sign:Int)) else (zkP links (jG c.view sign) o.sign:Int)):=by
  unfold jR zO
  dsimp +instances only [Sk.val_bind,Sk.val_loop,Sk.val_bnd,Sk.val_br,Sk.val_r,Sk.val_wi,Sk.val_fin,Ctr.c_v,kk,Cal.andl_v,Cal.wh_v,Cal.dep_v,Zv,Qr,vi,jq,Qq]
  have hloop:∀ d:(Int × Int) ⊕ (Int × Int),iter (fun i5:Int × Int × Nat=>bif decide (((i5.2.2:Nat):Int) < ((links.length:Nat):Int)) then
      (Kh (bif decide ((links.getD i5.2.2 default)≤o.sign) then (Sum.inr (w64 (i5.2.1+1)):(((Int × Int) ⊕ (Int × Int)) ⊕ (Int × Int × Nat)) ⊕ Int) else Sum.inr i5.2.1) fun b6=>bif (decide ((links.getD i5.2.2 default)≤o.sign))&&(decide ((links.getD i5.2.2 default)≥jG c.view sign)) then Sum.inr (w64 (i5.1+1),b6,i5.2.2+1) else Sum.inr (i5.1,b6,i5.2.2+1))
      else Sum.inl (Sum.inr (i5.1,i5.2.1))) d (links.length - 0+1) (0,1,0)=Sum.inr ((zkP links (jG c.view sign) o.sign:Int),1+(zjS links o.sign:Int)):=by
    intro d
    refine (zkW links.length (fun n=>((zkP (links.take n) (jG c.view sign) o.sign:Int),1+(zjS (links.take n) o.sign:Int))) (fun s i=>(s.1,s.2,i)) (fun s=>Sum.inr s) (fun i hi=>?_) ?_ (m:=links.length - 0+1) (by omega)).trans ?_
    · dsimp only
      rw [decide_eq_true (by omega),cond_true,zoE links _ _ hi,zoD links _ hi]
      have h1:=zq6 (links.take i) (jG c.view sign) o.sign
      have h2:=zq9 (links.take i) o.sign
      have h3:(links.take i).length≤links.length:=by rw [List.length_take]; exact Nat.min_le_right _ _
      rw [jj (n:=(zkP (links.take i) (jG c.view sign) o.sign:Int)+1) (by omega) (by omega),jj (n:=1+(zjS (links.take i) o.sign:Int)+1) (by omega) (by omega)]
      cases decide (links.getD i default≤o.sign) with
      | false=>simp [Kh]
      | true =>
        cases decide (links.getD i default≥jG c.view sign) with
        | false=>simp [Kh]; omega
        | true=>simp [Kh]; omega
    · dsimp only
      rw [decide_eq_false (by omega),cond_false]
    · rw [List.take_length]
  cases (c.view.now.signs.getD (jG c.view sign).toNat default).kind == 1 with
  | true=>rfl
  | false =>
    simp only [cond_false]
    show (bif ((!(YU c))&&(!(kI c.view.now.acts)))||(!((eff.getD (jG c.view sign).toNat default).recourse)) then (0,0) else _)=_
    cases ((!(YU c))&&(!(kI c.view.now.acts)))||(!((eff.getD (jG c.view sign).toNat default).recourse)) with
    | true=>rfl
    | false =>
      simp only [cond_false]
      refine (congrArg (fun q=>Kh q _) (hloop _)).trans ?_
      show Kh (bif !(slices_Contains links (jG c.view sign)) then Sum.inr (1+(zjS links o.sign:Int)) else Sum.inr (zkP links (jG c.view sign) o.sign:Int)) _=_
      cases slices_Contains links (jG c.view sign) <;> rfl
theorem zle (a b:Int):Zo a b=0∨Zo a b=1∨Zo a b=2:=by
  have e:Zo a b=bif (a == 0)||(b == 0) then 0 else bif (a == 2)||(b == 2) then 2 else 1:=by kernel_rfl
  rw [e]
  cases (a == 0)||(b == 0) <;> cases (a == 2)||(b == 2) <;> simp
theorem zpi (c:kV) (o:uX) (sign:Int) (links:List Int) (eff:List ke) (hl:links.length≤1000000):(jR c o sign links eff).1=0∨(jR c o sign links eff).1=1∨(jR c o sign links eff).1=2:=by
  rw [zqg c o sign links eff hl]
  cases (c.view.now.signs.getD (jG c.view sign).toNat default).kind == 1 with
  | true =>
    cases YU c with
    | false=>exact .inl rfl
    | true=>exact zle _ _
  | false =>
    rw [cond_false]
    cases ((!(YU c))&&(!(kI c.view.now.acts)))||(!((eff.getD (jG c.view sign).toNat default).recourse)) with
    | true=>exact .inl rfl
    | false=>exact zle _ _
theorem zrR {r:jg} {forum:Int} {f:jh} {day:Int} (h:(jv r forum f day).2=true):(jv r forum f day).1=⟨jW f day,r,forum,gX r forum f day⟩:=(Wh r forum f day h).1
theorem zly (f:jh) (day:Int):(jW f day).all=f:=by rw [zkS]
theorem zfb (f:jh) (day:Int):(jW f day).now=ji f day:=by rw [zkS]
theorem zqq (f:jh) (day:Int):(jW f day).day=day:=by rw [zkS]
/-- where a claim comes from -/
structure zsH (r:jg) (forum:Int) (f:jh) (day:Int) (c:Claim) (part:Int) (o:uX) (sign:Int):Prop where
  lead:part∈(jW f day).lead
  own:o∈jF (jv r forum f day).1 (jo (jW f day) part)
  li:sign∈jM (jW f day) part o.sign (jo (jW f day) part)
  st:(jR (jv r forum f day).1 o sign (jo (jW f day) part) (kB r forum f day)).1≠0
  ne:((ji f day).signs.getD sign.toNat default).who≠o.firm
  eq:c = { debtor:=((ji f day).signs.getD sign.toNat default).who,creditor:=o.firm,part:=part,sign:=sign,by_:=o.sign,turn:=(jR (jv r forum f day).1 o sign (jo (jW f day) part) (kB r forum f day)).2,sum:=(Kj r forum f sign day).rest,currency:=f.bill.currency,state:=(jR (jv r forum f day).1 o sign (jo (jW f day) part) (kB r forum f day)).1 }
theorem zk7 {r:jg} {forum:Int} {f:jh} {day:Int} {c:Claim} (h:c∈qj r forum f day):((jv r forum f day).1=⟨jW f day,r,forum,gX r forum f day⟩)∧∃ part o sign,zsH r forum f day c part o sign:=by
  rw [zjy] at h
  cases ht:(jv r forum f day).2 with
  | false=>rw [ht] at h; cases h
  | true =>
    rw [ht,Bool.not_true,cond_false] at h
    have he:=zrR ht
    refine ⟨he,?_⟩
    unfold zgi at h
    have hv:(jv r forum f day).1.view=jW f day:=by rw [he]
    rw [hv] at h
    obtain ⟨part,hp,h⟩:=List.mem_flatMap.1 h
    obtain ⟨o,ho,h⟩:=List.mem_flatMap.1 h
    obtain ⟨sign,hs,h⟩:=List.mem_flatMap.1 h
    unfold WE at h
    rw [hv,zfb] at h
    cases hc:(jR (jv r forum f day).1 o sign (jo (jW f day) part) (kB r forum f day)).1 == 0||((ji f day).signs.getD sign.toNat default).who == o.firm with
    | true=>rw [hc] at h; cases h
    | false =>
      rw [hc,cond_false,List.mem_singleton] at h
      simp only [Bool.or_eq_false_iff,beq_eq_false_iff_ne,ne_eq] at hc
      exact ⟨part,o,sign,hp,ho,hs,hc.1,hc.2,h⟩
theorem zoM {f:jh} {day part:Int}:(jo (jW f day) part).length≤f.signs.length:=by
  have:=(vX (jW f day) part).1
  rwa [zly] at this
theorem zc5 {r:jg} {forum:Int} {f:jh} {day:Int} {c:Claim} (hF:jU r f) (hR:r.RateOK) (h:c∈qj r forum f day) :
    (0≤c.sign∧c.sign < f.signs.length)∧(-1≤c.by_∧c.by_ < f.signs.length)∧c.debtor=(f.signs.getD c.sign.toNat default).who∧c.creditor=(if 0≤c.by_ then (f.signs.getD c.by_.toNat default).to_ else f.bill.payee) ∧
      c.debtor≠c.creditor∧(c.state=1∨c.state=2)∧yO c.sum∧c.currency=f.bill.currency:=by
  obtain ⟨he,part,o,sign,k⟩:=zk7 h
  have hlen:=KW f day
  have hl:=znF k.li
  have hm:=zmo hl.2
  rw [zfb] at hm
  have hll:(jo (jW f day) part).length≤1000000:=by have:=zoM (f:=f) (day:=day) (part:=part); have:=hF.2.1.1; omega
  have hs:=zpi (jv r forum f day).1 o sign (jo (jW f day) part) (kB r forum f day) hll
  have hst:=k.st
  have ho:=(znw k.own).1
  have hvn:(jv r forum f day).1.view.now=ji f day:=by rw [he]; exact zfb f day
  rw [hvn,zmL] at ho
  have hby:(o.sign = -1∧o.firm=f.bill.payee)∨(0≤o.sign∧o.sign < f.signs.length∧o.firm=(f.signs.getD o.sign.toNat default).to_):=by
    rcases ho with ho | ⟨h1,h2⟩
    · exact .inl ho
    · have hk:=zoS h1
      rw [zly,zqq] at hk
      have hin:=hF.at_in hk.1 hk.2.1 hk.2.2.2.2.1
      rw [BO f day _ (by omega)] at h2
      exact .inr ⟨hk.1,hk.2.1,h2⟩
  have hown:Kj r forum f sign day=Kj r forum f sign day:=rfl
  have hsum:=Gi r forum f sign day ⟨hF,hR⟩
  obtain rfl:=k.eq
  refine ⟨⟨hm.1,by have:=hm.2.1; show sign < _; omega⟩,?_,?_,?_,k.ne,?_,hsum,rfl⟩
  · show -1≤o.sign∧o.sign < _
    rcases hby with hby | hby <;> omega
  · show ((ji f day).signs.getD sign.toNat default).who=_
    rw [BO f day _ (by omega)]
  · show o.firm=if 0≤o.sign then (f.signs.getD o.sign.toNat default).to_ else f.bill.payee
    rcases hby with hby | hby
    · rw [if_neg (by omega)]; exact hby.2
    · rw [if_pos hby.1]; exact hby.2.2
  · show (jR _ _ _ _ _).1=1∨_
    rcases hs with hs | hs | hs
    · exact absurd hs hst
    · exact .inl hs
    · exact .inr hs
/-- an act that is a payment -/
def zbU (g:jh) (a:jE):Prop:=a.kind=6∧0≤a.at_∧a.at_ < (g.signs.length:Int)
def zku (g:jh) (st:Bool) (to_:Int):Prop:=st=true↔∀ q,q < g.signs.length→(g.signs.getD q default).who≠to_
/-- the claims after the first k acts -/
inductive Kr (g:jh) (l0:List Claim):Nat→List Claim→Prop
  | zero:Kr g l0 0 l0
  | skip {k:Nat} {l:List Claim}:Kr g l0 k l→k < g.acts.length→¬ zbU g (g.acts.getD k default)→Kr g l0 (k+1) l
  | pay {k:Nat} {l out:List Claim} {st:Bool}:Kr g l0 k l→k < g.acts.length→zbU g (g.acts.getD k default)→zku g st (g.acts.getD k default).to_→Wq l (g.acts.getD k default) st out→Kr g l0 (k+1) out
theorem Kr.len {g:jh} {l0 l:List Claim} {k:Nat} (h:Kr g l0 k l):l0.length≤l.length:=by
  induction h with
  | zero=>exact Nat.le_refl _
  | skip _ _ _ ih=>exact ih
  | pay _ _ _ _ ha ih=>exact Nat.le_trans ih ha.len
theorem Kr.like {g:jh} {l0 l:List Claim} {k:Nat} (h:Kr g l0 k l):∀ i,i < l0.length→Xv (l.getD i default) (l0.getD i default):=by
  induction h with
  | zero=>exact fun i _=>Xv.rfl' _
  | skip _ _ _ ih=>exact ih
  | pay h _ _ _ ha ih=>exact fun i hi=>(ha.old i (Nat.lt_of_lt_of_le hi h.len)).1.trans (ih i hi)
theorem zqw {x y:Claim} (h:Xv x y):dps x=dps y:=by simp only [dps,h.1.1,h.1.2.2.1,h.1.2.2.2.1]
theorem Kr.dps {g:jh} {l0 l:List Claim} {k:Nat} (h:Kr g l0 k l):∀ x∈l,dps x∈l0.map dps:=by
  induction h with
  | zero=>exact fun x hx=>List.mem_map.2 ⟨x,hx,rfl⟩
  | skip _ _ _ ih=>exact ih
  | @pay k l out st h _ _ _ ha ih =>
    intro x hx
    obtain ⟨i,hi,rfl⟩:=List.getElem_of_mem hx
    have e:out[i]=out.getD i default:=by simp [List.getD,hi]
    rw [e]
    by_cases h1:i < l.length
    · rw [zqw (ha.old i h1).1]
      exact ih _ (uf h1)
    · obtain ⟨-,-,-,x,hx,e1,e2,e3,-⟩:=ha.new i (by omega) hi
      have:=ih x hx
      rwa [show Go.Proofs.YtilbddpghnnmhaaGreatDoor.dps (out.getD i default)=Go.Proofs.YtilbddpghnnmhaaGreatDoor.dps x by simp only [Go.Proofs.YtilbddpghnnmhaaGreatDoor.dps,e1,e2,e3]]
theorem Kr.count {g:jh} {l0 l:List Claim} {k:Nat} (h:Kr g l0 k l):l.length≤l0.length+k * l0.length∧k≤g.acts.length:=by
  induction h with
  | zero=>simp
  | skip _ _ _ ih=>exact ⟨by rw [Nat.succ_mul]; omega,by omega⟩
  | pay h _ _ _ ha ih =>
    have:=ha.few _ h.dps
    rw [List.length_map] at this
    exact ⟨by rw [Nat.succ_mul]; omega,by omega⟩
theorem Kr.new {g:jh} {l0 l:List Claim} {k:Nat} (h:Kr g l0 k l):∀ i,l0.length≤i→i < l.length→∃ q,q < k∧zbU g (g.acts.getD q default)∧(l.getD i default).creditor=(g.acts.getD q default).who∧(l.getD i default).by_=(g.acts.getD q default).at_∧(l.getD i default).debtor≠(l.getD i default).creditor:=by
  induction h with
  | zero=>exact fun i h1 h2=>absurd h2 (by omega)
  | skip _ _ _ ih =>
    intro i h1 h2
    obtain ⟨q,hq,h⟩:=ih i h1 h2
    exact ⟨q,by omega,h⟩
  | pay h _ hp _ ha ih =>
    rename_i k l out st _ _
    intro i h1 h2
    by_cases h3:i < l.length
    · obtain ⟨q,hq,e0,e1,e2,e3⟩:=ih i h1 h3
      have hl:=(ha.old i h3).1
      exact ⟨q,by omega,e0,hl.1.2.1.trans e1,hl.1.2.2.2.2.trans e2,by rw [hl.1.1,hl.1.2.1]; exact e3⟩
    · obtain ⟨e1,e2,e3,-⟩:=ha.new i (by omega) h2
      exact ⟨k,by omega,hp,e1,e2,by rw [e1]; exact e3⟩
theorem Kr.sums {g:jh} {l0 l:List Claim} {k:Nat} (h:Kr g l0 k l) (h0:∀ x∈l0,ClP x):∀ x∈l,ClP x:=by
  induction h with
  | zero=>exact h0
  | skip _ _ _ ih=>exact ih
  | pay _ _ _ _ ha ih=>exact ha.sums ih
/-- what was paid to a creditor by the first k acts -/
def Wx (g:jh) (cr:Int):Nat→Int
  | 0=>0
  | k+1=>Wx g cr k+(bif (g.acts.getD k default).kind == 6&&((g.acts.getD k default).to_ == cr||cr == -1&&!(g.signs.any fun s=>s.who == (g.acts.getD k default).to_)) then (g.acts.getD k default).sum else 0)
/-- payments are right -/
def zqe (g:jh):Prop:=∀ q,q < g.acts.length→(g.acts.getD q default).kind=6→zbU g (g.acts.getD q default)∧yO (g.acts.getD q default).sum
theorem zmS {g:jh} {st:Bool} {to_:Int} (h:zku g st to_):st = !(g.signs.any fun s=>s.who == to_):=by
  have:st=true↔(!(g.signs.any fun s=>s.who == to_))=true:=by
    rw [show (st=true)=_ from propext h,Bool.not_eq_true',List.any_eq_false]
    constructor
    · intro h x hx
      obtain ⟨i,hi,rfl⟩:=List.getElem_of_mem hx
      have:=h i hi
      rw [show g.signs.getD i default=g.signs[i] by simp [List.getD,hi]] at this
      simpa using this
    · intro h q hq
      have:=h (g.signs.getD q default) (Kv hq _)
      simpa using this
  exact Bool.eq_iff_iff.2 this
theorem zji {g:jh} (hg:zqe g) (cr:Int):∀ k,k≤g.acts.length→0≤Wx g cr k∧Wx g cr k≤1099511627776 * (k:Int)
  | 0,_=>⟨Int.le_refl _,by simp [Wx]⟩
  | k+1,hk=>by
    have ih:=zji hg cr k (by omega)
    have h1:=hg k (by omega)
    rw [Wx]
    generalize hb:((g.acts.getD k default).kind == 6&&_)=b
    cases b with
    | false=>simp only [cond_false]; omega
    | true =>
      have h2:=h1 (by simp only [Bool.and_eq_true,beq_iff_eq] at hb; exact hb.1)
      have h3:=h2.2
      unfold yO at h3
      simp only [cond_true]
      omega
theorem Kr.rest {g:jh} {l0 l:List Claim} {k:Nat} (h:Kr g l0 k l) (hg:zqe g) (h0:∀ x∈l0,ClP x):∀ i,i < l0.length→(∀ q,q < k→(g.acts.getD q default).kind=6→(g.acts.getD q default).who≠(l0.getD i default).creditor)→(l.getD i default).sum=max 0 ((l0.getD i default).sum - Wx g (l0.getD i default).creditor k):=by
  induction h with
  | zero =>
    intro i hi _
    have:=(h0 _ (uf hi)).1
    unfold yO at this
    simp only [Wx]
    omega
  | skip h hk hn ih =>
    rename_i k l
    intro i hi hw
    rw [ih i hi (fun q hq=>hw q (by omega))]
    have hk6:((g.acts.getD k default).kind == 6)=false:=by
      rw [beq_eq_false_iff_ne]
      exact fun e=>hn (hg k hk e).1
    rw [Wx,hk6,Bool.false_and,cond_false,Int.add_zero]
  | pay h hk hp hs ha ih =>
    rename_i k l out st
    intro i hi hw
    have hil:i < l.length:=Nat.lt_of_lt_of_le hi h.len
    have hlike:=h.like i hi
    have hcr:(l.getD i default).creditor=(l0.getD i default).creditor:=hlike.1.2.1
    have e1:=(ha.old i hil).2 (by rw [hcr]; exact fun e=>hw k (by omega) hp.1 e.symm)
    have e2:=ih i hi (fun q hq=>hw q (by omega))
    have hsum:=(hg k hk hp.1).2
    have hb:=zji hg (l0.getD i default).creditor k (by omega)
    have hl0:=(h0 _ (uf hi)).1
    have hls:=(h.sums h0 _ (uf hil)).1
    rw [e1]
    rw [Wx]
    unfold FK
    have hm:ug (g.acts.getD k default) st (l.getD i default)=((g.acts.getD k default).kind == 6&&((g.acts.getD k default).to_ == (l0.getD i default).creditor||(l0.getD i default).creditor == -1&&!(g.signs.any fun s=>s.who == (g.acts.getD k default).to_))):=by
      rw [uE,hcr,zmS hs,hp.1]
      simp only [beq_self_eq_true,Bool.true_and]
      rw [show ((l0.getD i default).creditor == (g.acts.getD k default).to_)=((g.acts.getD k default).to_ == (l0.getD i default).creditor) from Bool.eq_iff_iff.2 (by simp only [beq_iff_eq]; exact eq_comm)]
    rw [← hm]
    unfold yO at *
    cases ug (g.acts.getD k default) st (l.getD i default) with
    | false=>simp only [cond_false]; rw [e2]; omega
    | true =>
      simp only [cond_true]
      have h1:Ua (g.acts.getD k default) (l.getD i default)=min (g.acts.getD k default).sum (l.getD i default).sum:=by unfold Ua qI jP; (repeat' split) <;> omega
      have h2:jP 0 (l.getD i default).sum=(l.getD i default).sum:=by unfold jP; split <;> omega
      rw [h1,h2,jj (by omega) (by omega)]
      omega
theorem zgq {g:jh} {x:Bool} {t:Int} {p:ql→Bool} (hp:∀ s,p s=true↔s.who=t) (h:x=true↔∃ q,q < g.signs.length∧p (g.signs.getD q default)=true):zku g (!x) t:=by
  constructor
  · intro hx q hq e
    have:=h.2 ⟨q,hq,(hp _).2 e⟩
    rw [this] at hx
    cases hx
  · intro hq
    cases hx:x with
    | false=>rfl
    | true =>
      obtain ⟨q,h1,h2⟩:=h.1 hx
      exact absurd ((hp _).1 h2) (hq q h1)
theorem zn2 {g:jh} {a:jE} (h:((a.kind != 6)||decide (a.at_ < 0)||decide (a.at_≥((g.signs.length:Nat):Int)))=true):¬ zbU g a:=by
  rintro ⟨h1,h2,h3⟩
  simp only [Bool.or_eq_true,bne_iff_ne,decide_eq_true_eq] at h
  rcases h with (h | h) | h
  · exact h h1
  · omega
  · omega
theorem znz {g:jh} {a:jE} (h:((a.kind != 6)||decide (a.at_ < 0)||decide (a.at_≥((g.signs.length:Nat):Int)))=false):zbU g a:=by
  simp only [Bool.or_eq_false_iff,bne_eq_false_iff_eq,decide_eq_false_iff_not] at h
  exact ⟨h.1.1,by omega,by omega⟩
def Qn (r:jg) (forum:Int) (f:jh) (day:Int):Sk ((List Claim) × Unit) :=
 .r 1 ((jt f day).c) fun x1 =>
 .r 2 ((Yx 29 r forum f day).c) fun x2 =>
 .r 3 (.o [.nrmm (mkM dI)]) fun _ =>
 .cl 30 ([]:List (Int × Int)) <|
 .bind true (fun b3=>Kr x1 x2 x1.acts.length b3)
 (.loop (default:Sum ((List Claim) × Unit) ((List Claim))) (fun i4=>i4.2≤x1.acts.length∧Kr x1 x2 i4.2 i4.1) (fun i4=>x1.acts.length - i4.2) ((x2,0):(List Claim) × Nat)
 (fun (i4:(List Claim) × Nat)=>⟨[(11,ow 100006 i4.1),(34,iv ((i4.2:Nat):Int))],[(100006,jy 67 9 Claim.cells i4.1)]⟩) fun i4 =>
 .bnd 32 0 x1.acts.length <|
 .br (decide (((i4.2:Nat):Int) < ((x1.acts.length:Nat):Int)))
 (.bind true (fun b5=>Kr x1 x2 (i4.2+1) b5)
 (.r 6 (.p (ixP ((i4.2:Nat):Int) x1.acts.length)) fun _ =>
 .br (((((x1.acts.getD i4.2 default).kind) != 6)||(decide (((x1.acts.getD i4.2 default).at_) < 0)))||(decide (((x1.acts.getD i4.2 default).at_)≥((x1.signs.length:Nat):Int))))
 (.fin (.inr i4.1))
 (.r 8 ((vN x1.signs (x1.acts.getD i4.2 default)).c) fun x6 =>
 .fz 100006 <|
 .r 9 (.andl (.p (ixP ((x1.acts.getD i4.2 default).at_) x1.signs.length)) ((Wn 70 i4.1 (x1.acts.getD i4.2 default) ((x1.signs.getD (((x1.acts.getD i4.2 default).at_).toNat) default).kind) (!x6)).c)) fun x7 =>
 .r 10 (.o [.nrmm (mkM dB)]) fun _ =>
 .bind true (fun _=>True)
 (.loop (default:Sum (Sum (Sum (Sum ((List Claim) × Unit) ((List Claim))) ((List Claim) × Nat)) ((List Claim))) (Int × (List (Int × Bool)))) (fun i9=>i9.1≤x7.2.length) (fun i9=>x7.2.length - i9.1) ((0,([]:List (Int × Bool))):Nat × (List (Int × Bool)))
 (fun (i9:Nat × (List (Int × Bool)))=>⟨[(76,iv ((i9.1:Nat):Int))],[(73,mpM dB i9.2)]⟩) fun i9 =>
 .bnd 17 0 x7.2.length <|
 .br (decide (((i9.1:Nat):Int) < ((x7.2.length:Nat):Int)))
 (.r 13 (.p (ixP ((i9.1:Nat):Int) x7.2.length)) fun _ =>
 .r 14 (.andl (.t (Jg dB i9.2)) (.o [.nrmm (zns dB i9.2 ((x7.2.getD i9.1 default).creditor) true)])) fun _ =>
 .r 15 .z fun _ =>
 .wi 76 (w64 (((i9.1:Nat):Int)+1)) ((i9.1+1:Nat):Int) <|
 .fin (.inr (i9.1+1,yZ i9.2 ((x7.2.getD i9.1 default).creditor) true)))
 (.fin (.inl (.inr (((i9.1:Nat):Int),i9.2)))))
 (fun (b8:Int × (List (Int × Bool)))=>⟨[(76,iv b8.1)],[(73,mpM dB b8.2)]⟩) fun b8 =>
 .bind true (fun _=>True)
 (.mr b8.2.length (fun _=>True) (():Unit)
 (fun g11 s13=>⟨[],[(85,.it 73 b8.2.length s13)]⟩)
 (fun g15=>⟨[],[]⟩)
 (fun g11 i12 =>
 .brt <|
 .r 18 (.p (i12 < b8.2.length)) fun _ =>
 .op 30 fun m14 =>
 .r 19 (.andl (.andl (.t (Jg dI m14)) (.o [.cast 94 (zlF dI m14 ((b8.2.getD i12 default).1) (0:Int))])) (.andl (.t (Jg dI m14)) (.o [.nrmm (zns dI m14 ((b8.2.getD i12 default).1) (qI 1099511627776 (w64 ((kf m14 ((b8.2.getD i12 default).1) (0:Int))+((x1.acts.getD i4.2 default).sum)))))]))) fun _ =>
 .cl 30 (yZ m14 ((b8.2.getD i12 default).1) (qI 1099511627776 (w64 ((kf m14 ((b8.2.getD i12 default).1) (0:Int))+((x1.acts.getD i4.2 default).sum))))) <|
 .fin ()) fun g15 =>
 .brf <|
 .fin (.inr ()))
 (fun (_:Unit)=>⟨[(85,.any)],[]⟩) fun _ =>
 .fin (.inr x7.1)))
 (fun (b5:(List Claim))=>⟨[(11,ow 100008 b5)],[(100008,jy 67 9 Claim.cells b5)]⟩) fun b5 =>
 .r 21 .z fun _ =>
 .wi 34 (w64 (((i4.2:Nat):Int)+1)) ((i4.2+1:Nat):Int) <|
 .fin (.inr (b5,i4.2+1)))
 (.fin (.inl (.inr i4.1))))
 (fun (b3:(List Claim))=>⟨[(11,ow 100004 b3)],[(100004,jy 67 9 Claim.cells b3)]⟩) fun b3 =>
 .fin (b3,())
def zeH (r:jg) (forum:Int) (f:jh) (day:Int):(List Claim) × Unit:=(Qn r forum f day).val
theorem zl4 (r:jg) (forum:Int) (f:jh) (day:Int):(Qn r forum f day).pst (fun (x:(List Claim) × Unit)=>Kr (ji f day) (qj r forum f day) (ji f day).acts.length x.1):=by
  refine Sk.pst_of _ ?_
  unfold Qn
  simp only [Sk.pstq,Sk.isLoop,reduceCtorEq,ON,kk,Yx,Wn,jt,vN,maxLen]
  intro x hx _ x1 hx1 _
  refine ⟨⟨⟨Nat.zero_le _,.zero⟩,fun i hi=>⟨fun hc=>⟨fun _=>⟨fun hs=>?_,fun hs x4 _ h4 x5 _ h5 _=>⟨⟨Nat.zero_le _,fun j hj hc2 _ _ _=>?_⟩,fun b b1 _=>?_⟩⟩,fun b _ hb _=>?_⟩,fun hc=>?_⟩⟩,fun b hb=>?_⟩
  all_goals try simp only [LN] at hc
  · exact hi.2.skip (by omega) (zn2 hs)
  · simp only [LN] at hc2
    omega
  · exact hi.2.pay (by omega) (znz hs) (zgq (p:=fun s=>km s (x.acts.getD i.2 default)) (fun s=>by show km s _=true↔_; rw [QQ,beq_iff_eq]) h4) h5
  · exact ⟨⟨by omega,hb⟩,by omega⟩
  · have e:i.2=x.acts.length:=by omega
    rw [← e]
    exact hi.2
  · subst hx hx1
    exact hb

theorem zkd (r:jg) (forum:Int) (f:jh) (day:Int):(fun (x:(List Claim) × Unit)=>Kr (ji f day) (qj r forum f day) (ji f day).acts.length x.1) (zeH r forum f day):=have h:=Sk.pval _ (zl4 r forum f day); h
theorem znn (r:jg) (forum:Int) (f:jh) (day:Int) (hF:jU r f) (h_f_Small:f.Small) (h_r_ByOK:r.ByOK) (h_r_Small:r.Small) (h_r_FirmOK:r.FirmOK) (h_r_RateOK:r.RateOK):(Qn r forum f day).obs (fun _=>True):=by
  refine Sk.obs_of _ ?_
  unfold Qn
  simp only [Sk.obq,Sk.isLoop,reduceCtorEq,ON,kk,Sk.pst,Yx,Wn,jt,vN,maxLen]
  refine ⟨h_f_Small,fun x hx hl=>⟨⟨hF,h_f_Small,h_r_ByOK,h_r_Small,h_r_FirmOK,h_r_RateOK⟩,fun x1 hx1 _=>⟨⟨Nat.zero_le _,.zero⟩,fun i hi hmx=>⟨fun hc=>⟨⟨?_,fun _=>⟨fun hs=>?_,fun hs x4 _ h4=>⟨⟨?_,?_⟩,fun x5 _ h5 _=>⟨⟨Nat.zero_le _,fun j hj hm2 hc2=>?_⟩,fun b=>⟨fun _ _ h=>h,fun b1 _=>?_⟩⟩⟩⟩⟩,fun b _ hb _=>?_⟩,fun hc=>?_⟩⟩⟩⟩
  all_goals try simp only [LN] at hc
  · exact ⟨by omega,by omega⟩
  · exact hi.2.skip (by omega) (zn2 hs)
  · exact (znz hs).2
  · have h1:=hi.2.count.1
    have h2:x1.length≤67240:=by rw [hx1]; exact ze0 hF
    have h3:=hF.2.1.2.2.2.1
    have h4:=Nat.mul_le_mul (show i.2≤100 by omega) h2
    omega
  · simp only [LN] at hc2
    exact ⟨⟨by omega,by omega⟩,fun _ _ _=>⟨(jj (by omega) (by omega)).trans (by omega),by omega,by omega⟩⟩
  · exact hi.2.pay (by omega) (znz hs) (zgq (p:=fun s=>km s (x.acts.getD i.2 default)) (fun s=>by show km s _=true↔_; rw [QQ,beq_iff_eq]) h4) h5
  · exact ⟨(jj (by omega) (by omega)).trans (by omega),⟨by omega,hb⟩,by omega⟩
  · have e:i.2=x.acts.length:=by omega
    rw [← e]
    exact hi.2

theorem zmN (r:jg) (forum:Int) (f:jh) (day:Int) (hF:jU r f) (h_f_Small:f.Small) (h_r_ByOK:r.ByOK) (h_r_Small:r.Small) (h_r_FirmOK:r.FirmOK) (h_r_RateOK:r.RateOK):FnA Tryz.prog 53 [av r.cells,iv forum,av f.cells,iv day] [] (.tup [ow 777777 (zeH r forum f day).1,.any]) [(777777,jy 67 9 Claim.cells (zeH r forum f day).1)] :=
  FnA.sk tok mixed (fun x=>.tup [ow 777777 x.1,.any]) (fun x=>[(777777,jy 67 9 Claim.cells x.1)]) Tryz.func53 rfl (by kernel_rfl) 3000 (Qn r forum f day) (by kernel_rfl) (znn r forum f day hF h_f_Small h_r_ByOK h_r_Small h_r_FirmOK h_r_RateOK)
def Bp (κ:Nat) (r:jg) (forum:Int) (f:jh) (day:Int):vQ ((List Claim) × Unit):=⟨Tryz.prog,53,[av r.cells,iv forum,av f.cells,iv day],fun x=>.tup [ow κ x.1,.any],fun x=>[(κ,jy 67 9 Claim.cells x.1)],zeH r forum f day,(jU r f)∧(f.Small)∧(r.ByOK)∧(r.Small)∧(r.FirmOK)∧(r.RateOK),fun h=>FnA.rekeyT κ rfl (zmN r forum f day h.1 h.2.1 h.2.2.1 h.2.2.2.1 h.2.2.2.2.1 h.2.2.2.2.2),fun (x:(List Claim) × Unit)=>Kr (ji f day) (qj r forum f day) (ji f day).acts.length x.1,zkd r forum f day⟩
def yp (r:jg) (forum:Int) (f:jh) (day:Int):Sk ((List Claim)) :=
 .r 1 ((Bp 16 r forum f day).c) fun x1 =>
 .fin x1.1
def ga (r:jg) (forum:Int) (f:jh) (day:Int):(List Claim):=(yp r forum f day).val
theorem zg8 (r:jg) (forum:Int) (f:jh) (day:Int):(yp r forum f day).pst (fun (x:(List Claim))=>Kr (ji f day) (qj r forum f day) (ji f day).acts.length x):=by
  unfold yp
  try simp only [Bp]
  exact okP

theorem Xa (r:jg) (forum:Int) (f:jh) (day:Int):(fun (x:(List Claim))=>Kr (ji f day) (qj r forum f day) (ji f day).acts.length x) (ga r forum f day):=have h:=Sk.pval _ (zg8 r forum f day); h
theorem zh5 (r:jg) (forum:Int) (f:jh) (day:Int) (hF:jU r f) (h_f_Small:f.Small) (h_r_ByOK:r.ByOK) (h_r_Small:r.Small) (h_r_FirmOK:r.FirmOK) (h_r_RateOK:r.RateOK):(yp r forum f day).obs (fun _=>True):=by
  unfold yp
  try simp only [Bp]
  exact okD

theorem zgm (r:jg) (forum:Int) (f:jh) (day:Int) (hF:jU r f) (h_f_Small:f.Small) (h_r_ByOK:r.ByOK) (h_r_Small:r.Small) (h_r_FirmOK:r.FirmOK) (h_r_RateOK:r.RateOK):FnA Tryz.prog 30 [av r.cells,iv forum,av f.cells,iv day] [] (ow 777777 (ga r forum f day)) [(777777,jy 67 9 Claim.cells (ga r forum f day))] :=
  FnA.sk tok mixed (fun x=>ow 777777 x) (fun x=>[(777777,jy 67 9 Claim.cells x)]) Tryz.func30 rfl (by kernel_rfl) 3000 (yp r forum f day) (by kernel_rfl) (zh5 r forum f day hF h_f_Small h_r_ByOK h_r_Small h_r_FirmOK h_r_RateOK)
def Yv (κ:Nat) (r:jg) (forum:Int) (f:jh) (day:Int):vQ ((List Claim)):=⟨Tryz.prog,30,[av r.cells,iv forum,av f.cells,iv day],fun x=>ow κ x,fun x=>[(κ,jy 67 9 Claim.cells x)],ga r forum f day,(jU r f)∧(f.Small)∧(r.ByOK)∧(r.Small)∧(r.FirmOK)∧(r.RateOK),fun h=>FnA.rekey κ (zgm r forum f day h.1 h.2.1 h.2.2.1 h.2.2.2.1 h.2.2.2.2.1 h.2.2.2.2.2),fun (x:(List Claim))=>Kr (ji f day) (qj r forum f day) (ji f day).acts.length x,Xa r forum f day⟩
def zy (r:jg) (forum:Int) (f:jh) (day:Int):Sk (Int) :=
 .r 1 (.dep ((gZ r forum f 0 day).c) fun x1=>(ku x1).c) fun p3 =>
 .fin p3.2
def Fp (r:jg) (forum:Int) (f:jh) (day:Int):Int:=(zy r forum f day).val
theorem GW (r:jg) (forum:Int) (f:jh) (day:Int) (h_f_Small:f.Small) (h_r_ByOK:r.ByOK) (h_r_Small:r.Small):(zy r forum f day).obs (fun _=>True):=by
  simp only [jh.Small,jg.Small,jg.ByOK] at h_f_Small
  simp only [jh.Small,jg.Small,jg.ByOK] at h_r_ByOK
  simp only [jh.Small,jg.Small,jg.ByOK] at h_r_Small
  unfold zy
  try simp only [gZ,ku,jh.Small,jg.Small,jg.ByOK]
  exact okD

def Qa (r:jg) (forum:Int) (f:jh) (day:Int):Ctr (Int):=kk tok mixed Tryz.func126 [av r.cells,iv forum,av f.cells,iv day] (fun x=>iv x) true (zy r forum f day) (Fp r forum f day) (fun (h:(f.Small)∧(r.ByOK)∧(r.Small))=>GW r forum f day h.1 h.2.1 h.2.2)
def Kt (r:jg) (forum:Int) (f:jh) (c_:Claim) (day:Int):Sk (Int × Int) :=
 .br (c_.turn == 0)
 (.r 2 ((jO r forum f day).c) fun x1 =>
 .fin (13,x1))
 (.bind true (fun _=>True)
 (.loop (default:Sum (Int × Int) (Unit)) (fun i3=>i3≤f.acts.length) (fun i3=>f.acts.length - i3) (0:Nat)
 (fun (i3:Nat)=>⟨[(25,iv ((i3:Nat):Int))],[]⟩) fun i3 =>
 .bnd 23 0 f.acts.length <|
 .br (decide (((i3:Nat):Int) < ((f.acts.length:Nat):Int)))
 (.r 5 (.p (ixP ((i3:Nat):Int) f.acts.length)) fun _ =>
 .br (((((f.acts.getD i3 default).kind) == 6)&&(((f.acts.getD i3 default).who) == c_.creditor))&&(((f.acts.getD i3 default).at_) == c_.by_))
 (.fin (.inl (.inl (15,(f.acts.getD i3 default).day))))
 (.r 8 .z fun _ =>
 .wi 25 (w64 (((i3:Nat):Int)+1)) ((i3+1:Nat):Int) <|
 .fin (.inr (i3+1))))
 (.fin (.inl (.inr ()))))
 (fun (_:Unit)=>⟨[],[]⟩) fun _ =>
 .r 9 ((Qa r forum f day).c) fun x4 =>
 .fin (14,x4))
def zlM (r:jg) (forum:Int) (f:jh) (c_:Claim) (day:Int):Int × Int:=(Kt r forum f c_ day).val
theorem zfV (r:jg) (forum:Int) (f:jh) (c_:Claim) (day:Int) (h_f_Small:f.Small) (h_r_ByOK:r.ByOK) (h_r_Small:r.Small):(Kt r forum f c_ day).obs (fun _=>True):=by
  simp only [jh.Small,jg.Small,jg.ByOK] at h_f_Small
  simp only [jh.Small,jg.Small,jg.ByOK] at h_r_ByOK
  simp only [jh.Small,jg.Small,jg.ByOK] at h_r_Small
  unfold Kt
  try simp only [jO,Qa,jh.Small,jg.Small,jg.ByOK]
  exact okD

def FN (r:jg) (forum:Int) (f:jh) (c_:Claim) (day:Int):Ctr (Int × Int):=kk tok mixed Tryz.func82 [av r.cells,iv forum,av f.cells,av c_.cells,iv day] (fun x=>.tup [iv x.1,iv x.2]) true (Kt r forum f c_ day) (zlM r forum f c_ day) (fun (h:(f.Small)∧(r.ByOK)∧(r.Small))=>zfV r forum f c_ day h.1 h.2.1 h.2.2)
def vV (a:jE) (c_:Claim):Sk (Bool) :=
 .br (a.at_ != c_.sign)
 (.fin false)
 (.fin ((a.kind == 9)||((a.kind == 8)&&((c_.creditor == (-1))||(a.who == c_.creditor)))))
def zbT (a:jE) (c_:Claim):Bool:=(vV a c_).val
theorem Fm (a:jE) (c_:Claim):(vV a c_).obs (fun _=>True):=by
  unfold vV
  exact okE

def Uw (a:jE) (c_:Claim):Ctr (Bool):=kk tok mixed Tryz.func83 [av a.cells,av c_.cells] (fun x=>bv x) true (vV a c_) (zbT a c_) (fun (_:True)=>Fm a c_)
end
end Go.Proofs.YtilbddpghnnmhaaGreatDoor

