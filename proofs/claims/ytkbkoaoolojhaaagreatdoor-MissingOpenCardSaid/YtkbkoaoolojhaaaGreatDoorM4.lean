/- Functions, as sketches. -/
import Derived.Test.YtkbkoaoolojhaaaGreatDoorLi
import Derived.Test.YtkbkoaoolojhaaaGreatDoorLd
set_option linter.unusedSimpArgs false
set_option linter.unusedVariables false
set_option maxHeartbeats 1000000
set_option maxRecDepth 100000
namespace Go.Proofs.YtkbkoaoolojhaaaGreatDoor
noncomputable section
open Go Go.Av
theorem VF (v:View) (h:v.kO) (P:Int→Prop) (hP:∀ s,0≤s→s < (v.now.ae.length:Int)→P s→((v.now.ae.getD s.toNat default).kind=3∨(v.now.ae.getD s.toNat default).kind=4)→P ((v.now.ae.getD s.toNat default).for_)):∀ (fu:Nat) (sign:Int),0≤sign→sign < (v.now.ae.length:Int)→sign.toNat < fu→P sign→P (bA fu v sign)∧¬ ((v.now.ae.getD (bA fu v sign).toNat default).kind=3∨(v.now.ae.getD (bA fu v sign).toNat default).kind=4)
 | 0,_,_,_,h3,_=>absurd h3 (by omega)
 | fu+1,s,h1,h2,h3,h4=>by
  have e:bA (fu+1) v s=bif (((v.now.ae.getD s.toNat default).kind) == 3)||(((v.now.ae.getD s.toNat default).kind) == 4) then bA fu v ((v.now.ae.getD s.toNat default).for_) else s:=by kernel_rfl
  rw [e]
  cases hk:(((v.now.ae.getD s.toNat default).kind) == 3)||(((v.now.ae.getD s.toNat default).kind) == 4) with
  | false =>
   refine ⟨h4,fun h=>?_⟩
   rw [cond_false] at h
   rw [Bool.or_eq_false_iff,beq_eq_false_iff_ne,beq_eq_false_iff_ne] at hk
   exact h.elim hk.1 hk.2
  | true =>
   rw [cond_true]
   have hk:(v.now.ae.getD s.toNat default).kind=3∨(v.now.ae.getD s.toNat default).kind=4:=by simpa using hk
   have hb:=h s.toNat (by omega) hk
   exact VF v h P hP fu _ hb.1 (by omega) (by omega) (hP s h1 h2 h4 hk)
theorem adg {v:View} (h:v.kO) {part cz:Int} {ak:List Int} {s:Int} (hs:s∈sj v part cz ak v.now.ae.length):aJ v s∈sj v part cz ak v.now.ae.length∧¬ ((v.now.ae.getD (aJ v s).toNat default).kind=3∨(v.now.ae.getD (aJ v s).toNat default).kind=4):=by
 have hm:=uP hs
 refine VF v h (·∈sj v part cz ak v.now.ae.length) (fun s h0 h1 hs hk=>?_) (s.toNat+1) s hm.1 hm.2.1 (by omega) hs
 have hm:=uP hs
 have hl:=hm.2.2.2.1
 unfold Sq at hl
 have e0:((v.now.ae.getD s.toNat default).kind == 0)=false:=by rw [beq_eq_false_iff_ne]; omega
 have e1:((v.now.ae.getD s.toNat default).kind == 1)=false:=by rw [beq_eq_false_iff_ne]; omega
 have e2:((v.now.ae.getD s.toNat default).kind == 2)=false:=by rw [beq_eq_false_iff_ne]; omega
 rw [e0,e1,e2,Bool.or_false,cond_false,cond_false] at hl
 exact hm.2.2.2.2 _ ((contains_iff _ _).1 hl)
theorem abX {ak:List Int} {lo hi:Int} (h:lo∈ak) (h2:lo≤hi):1≤A6 ak lo hi:=by
 unfold A6
 exact List.length_pos_of_mem (a:=lo) (List.mem_filter.2 ⟨h,by simp [h2]⟩)
theorem VG (ak:List Int) (lo hi:Int):A6 ak lo hi≤KA ak hi:=by
 unfold A6 KA
 have e:(ak.filter fun l=>decide (l≤hi)&&decide (l≥lo))=(ak.filter fun l=>decide (l≤hi)).filter fun l=>decide (l≥lo):=by rw [List.filter_filter]; congr 1; funext l; rw [Bool.and_comm]
 rw [e]
 exact List.length_filter_le ..
theorem YE {ak:List Int} {x y hi:Int} (hx:x∈ak) (h1:x≤hi) (h2:x < y):A6 ak y hi < A6 ak x hi:=by
 unfold A6
 have e:(ak.filter fun l=>decide (l≤hi)&&decide (l≥y))=(ak.filter fun l=>decide (l≤hi)&&decide (l≥x)).filter fun l=>decide (l≥y):=by
  rw [List.filter_filter]; congr 1; funext l
  by_cases c1:l≤hi <;> by_cases c2:l≥y
  ·have:l≥x:=by omega
   simp [c1,c2,this]
  ·simp [c1,c2]
  ·simp [c1]
  ·simp [c1]
 rw [e,List.length_filter_lt_length_iff_exists]
 exact ⟨x,List.mem_filter.2 ⟨hx,by simp [h1]⟩,by simpa using h2⟩
theorem Ov {r:ah} {forum:Int} {f:ai} {day:Int} {c:Claim} (hF:bu r f) (h:c∈cr r forum f day) :
  ∃ b,b=aJ (aQ f day) c.sign∧(0≤b∧b < ((aj f day).ae.length:Int))∧(0≤c.sign∧c.sign < ((aj f day).ae.length:Int)) ∧
   (((aj f day).ae.getD b.toNat default).kind=1∧c.eD=0∨((aj f day).ae.getD b.toNat default).kind=0∧b=0∧c.eD=1+(KA (aq (aQ f day) c.part) c.cz:Int) ∨
    ((aj f day).ae.getD b.toNat default).kind=2∧b≤c.cz∧b∈aq (aQ f day) c.part∧c.eD=(A6 (aq (aQ f day) c.part) b c.cz:Int)):=by
 obtain ⟨he,part,o,sign,k⟩:=Jq h
 have hlen:=mY f day
 have hl:=Nz k.li
 have hm:=uP hl.2
 have hB:(aQ f day).kO:=by unfold View.kO; rw [uR]; exact hF.Yh day
 have hb:=adg hB hl.2
 have hbm:=uP hb.1
 rw [uR] at hm hb hbm
 have hll:(aq (aQ f day) part).length≤1000000:=by have:=Q1 (f:=f) (day:=day) (part:=part); have:=hF.2.1.1; omega
 have jK:=k.st
 obtain rfl:=k.eq
 refine ⟨aJ (aQ f day) sign,rfl,⟨hbm.1,hbm.2.1⟩,⟨hm.1,hm.2.1⟩,?_⟩
 have hv:(aK r forum f day).1.view=aQ f day:=by rw [he]
 have hk:=(hF.2.2.1 (aJ (aQ f day) sign).toNat (by omega)).2.2.2.2.2
 unfold MS at hk
 rw [← xt f day (aJ (aQ f day) sign).toNat (by omega)] at hk
 have VQ:=hbm.2.2.2.1
 have hnk:=hb.2
 dsimp only
 rw [Ve _ _ _ _ _ hll,hv,uR] at jK ⊢
 generalize aJ (aQ f day) sign=b at *
 generalize hs:(aj f day).ae.getD b.toNat default=s at *
 by_cases h1:s.kind=1
 ·refine .inl ⟨h1,?_⟩
  rw [show (s.kind == 1)=true by simpa using h1,cond_true]
  cases sn (aK r forum f day).1 <;> rfl
 ·rw [show (s.kind == 1)=false by simpa using h1,cond_false] at jK ⊢
  cases hc:((!(sn (aK r forum f day).1))&&(!(db (aj f day).aw)))||(!(((cu r forum f day).getD b.toNat default).nR)) with
  | true=>rw [hc,cond_true] at jK; exact absurd rfl jK
  | false =>
   rw [cond_false]
   by_cases h2:s.kind=2
   ·unfold Sq at VQ
    rw [uR,hs,show (s.kind == 0)=false by rw [h2]; rfl,show (s.kind == 1)=false by rw [h2]; rfl,show (s.kind == 2)=true by rw [h2]; rfl,Bool.or_false,cond_false,cond_true,Bool.and_eq_true,Bool.and_eq_true,decide_eq_true_eq] at VQ
    have e:((b.toNat:Nat):Int)=b:=by omega
    rw [e] at VQ
    have GK:=(contains_iff _ _).1 VQ.2
    refine .inr (.inr ⟨h2,VQ.1.1,GK,?_⟩)
    rw [VQ.2]; rfl
   ·have h0:s.kind=0:=by omega
    have hb0:b=0:=by have:=hk.2.2.1.1 h0; omega
    refine .inr (.inl ⟨h0,hb0,?_⟩)
    have hn:bV (aq (aQ f day) part) b=false:=by
     cases hcb:bV (aq (aQ f day) part) b with
     | false=>rfl
     | true =>
      have hm2:=HH ((contains_iff _ _).1 hcb)
      rw [NW] at hm2
      rw [xt f day b.toNat (by omega)] at hs
      rw [hs] at hm2
      omega
    rw [hn]; rfl
theorem VH {r:ah} {forum:Int} {f:ai} {day:Int} (hF:bu r f) {c:Claim} (h:c∈cr r forum f day):∃ b,b=aJ (aQ f day) c.sign∧(0≤b∧b < ((aj f day).ae.length:Int))∧(0≤c.sign∧c.sign < ((aj f day).ae.length:Int))∧(c.eD=0↔((aj f day).ae.getD b.toNat default).kind=1)∧0≤c.eD ∧
  ∀ d,d∈cr r forum f day→c.part=d.part→c.cz=d.cz→c.eD≠0→d.eD≠0→∀ y,y=aJ (aQ f day) d.sign→(b=y→c.eD=d.eD)∧(b < y→d.eD < c.eD)∧(y < b→c.eD < d.eD):=by
 obtain ⟨b,e,h1,h2,h3⟩:=Ov hF h
 refine ⟨b,e,h1,h2,?_,?_,fun d hd e1 e2 t1 t2 y ey=>?_⟩
 ·rcases h3 with h3 | h3 | h3
  ·exact ⟨fun _=>h3.1,fun _=>h3.2⟩
  ·rw [h3.1,h3.2.2]; exact ⟨fun h=>absurd h (by omega),fun h=>absurd h (by decide)⟩
  ·rw [h3.1]
   have:=abX h3.2.2.1 h3.2.1
   exact ⟨fun h=>absurd h (by omega),fun h=>absurd h (by decide)⟩
 ·omega
 ·obtain ⟨b',e',h1',h2',Xx⟩:=Ov hF hd
  have hby:b'=y:=by rw [e',ey]
  subst hby
  rw [← e1,← e2] at Xx
  rcases h3 with h3 | h3 | h3
  ·exact absurd h3.2 t1
  ·rcases Xx with Xx | Xx | Xx
   ·exact absurd Xx.2 t2
   ·exact ⟨fun _=>by omega,fun h=>by omega,fun h=>by omega⟩
   ·have:=VG (aq (aQ f day) c.part) b' c.cz
    refine ⟨fun h=>?_,fun _=>by omega,fun h=>by omega⟩
    subst h
    rw [h3.1] at Xx
    omega
  ·rcases Xx with Xx | Xx | Xx
   ·exact absurd Xx.2 t2
   ·have:=VG (aq (aQ f day) c.part) b c.cz
    refine ⟨fun h=>?_,fun h=>by omega,fun _=>by omega⟩
    subst h
    rw [h3.1] at Xx
    omega
   ·refine ⟨fun h=>by subst h; omega,fun h=>?_,fun h=>?_⟩
    ·have:=YE (hi:=c.cz) h3.2.2.1 h3.2.1 h; omega
    ·have:=YE (hi:=c.cz) Xx.2.2.1 Xx.2.1 h; omega
def keyOf (c:Claim):Int × Int × Int × Int × Int:=(c.aW,c.az,c.part,c.sign,c.cz)
theorem iH {x y:Claim}:dy x y↔keyOf x=keyOf y:=by
 unfold dy keyOf
 simp only [Prod.mk.injEq]
def lk (L:List Claim) (k:Int × Int × Int × Int × Int):Option Claim:=L.find? fun x=>decide (keyOf x=k)
theorem afa (k:Int × Int × Int × Int × Int):lk [] k=none:=rfl
theorem tH (x:Claim) (r:List Claim) (k:Int × Int × Int × Int × Int):lk (x :: r) k=if keyOf x=k then some x else lk r k:=by
 unfold lk
 rw [List.find?_cons]
 by_cases h:keyOf x=k <;> simp [h]
theorem vf {L:List Claim} {k:Int × Int × Int × Int × Int} {x:Claim} (h:lk L k=some x):x∈L∧keyOf x=k:=by
 unfold lk at h
 exact ⟨List.mem_of_find?_eq_some h,by have:=List.find?_some h; simpa using this⟩
theorem YF {L:List Claim} (h:L.Pairwise fun x y=>¬ dy x y) {x:Claim} (hx:x∈L):lk L (keyOf x)=some x:=by
 induction L with
 | nil=>cases hx
 | cons y r ih =>
  rw [List.pairwise_cons] at h
  rw [tH]
  rcases List.mem_cons.1 hx with rfl | hx
  ·rw [if_pos rfl]
  ·rw [if_neg (fun e=>h.1 x hx (iH.2 e)),ih h.2 hx]
def lS (f:Claim→Claim) (c:Claim):List Claim→List Claim
 | []=>[c]
 | x :: r=>if keyOf x=keyOf c then f x :: r else x :: lS f c r
theorem VI {f:Claim→Claim} {c:Claim}:∀ (l:List Claim),(∀ i,i < l.length→¬ dy (l.getD i default) c)→lS f c l=l++[c]
 | [],_=>rfl
 | x :: r,h=>by
  have h0:¬ keyOf x=keyOf c:=fun e=>h 0 (by simp) (iH.2 e)
  simp only [lS,if_neg h0,List.cons_append]
  rw [VI r fun i hi=>h (i+1) (by simpa using hi)]
theorem Rf {f:Claim→Claim} {c:Claim}:∀ (l:List Claim) (i:Nat),l.Pairwise (fun x y=>¬ dy x y)→i < l.length→dy (l.getD i default) c→lS f c l=l.set i (f (l.getD i default))
 | [],i,_,h,_=>absurd h (by simp)
 | x :: r,0,_,_,hk=>by
  have hk:keyOf x=keyOf c:=iH.1 hk
  simp only [lS,if_pos hk]; rfl
 | x :: r,i+1,hp,h,hk=>by
  rw [List.pairwise_cons] at hp
  have hi:i < r.length:=by simpa using h
  have hk:dy (r.getD i default) c:=hk
  have h0:¬ keyOf x=keyOf c:=fun e=>hp.1 _ (mJ hi) ((iH.2 e).tr hk.comm)
  simp only [lS,if_neg h0]
  rw [Rf r i hp.2 hi hk]; rfl
theorem sM.eq {f:Claim→Claim} {l x:List Claim} {c:Claim} (h:sM f l c x) (hp:l.Pairwise fun x y=>¬ dy x y):x=lS f c l:=by
 rcases h with ⟨i,hi,hk,rfl⟩ | ⟨hn,rfl⟩
 ·exact (Rf l i hp hi hk).symm
 ·exact (VI l hn).symm
theorem Ow {f:Claim→Claim} {c:Claim} (hf:∀ x,keyOf (f x)=keyOf x) (k:Int × Int × Int × Int × Int):∀ l,lk (lS f c l) k=if keyOf c=k then some ((lk l k).elim c f) else lk l k
 | []=>by
  show lk [c] k=_
  rw [tH,afa]; rfl
 | x :: r=>by
  by_cases hx:keyOf x=keyOf c
  ·simp only [lS,if_pos hx]
   rw [tH,tH,hf,hx]
   by_cases hk:keyOf c=k
   ·rw [if_pos hk,if_pos hk,if_pos hk]; rfl
   ·rw [if_neg hk,if_neg hk,if_neg hk]
  ·simp only [lS,if_neg hx]
   rw [tH,tH,Ow hf k r]
   by_cases hk:keyOf c=k
   ·have:¬ keyOf x=k:=fun e=>hx (e.trans hk.symm)
    rw [if_neg this,if_neg this]
   ·rw [if_neg hk,if_neg hk]
theorem Rg {f:Claim→Claim} {c z:Claim}:∀ {l:List Claim},z∈lS f c l→z=c∨z∈l∨∃ x,x∈l∧keyOf x=keyOf c∧z=f x
 | [],h=>.inl (List.mem_singleton.1 h)
 | x :: r,h=>by
  by_cases hx:keyOf x=keyOf c
  ·simp only [lS,if_pos hx] at h
   rcases List.mem_cons.1 h with rfl | h
   ·exact .inr (.inr ⟨x,by simp,hx,rfl⟩)
   ·exact .inr (.inl (by simp [h]))
  ·simp only [lS,if_neg hx] at h
   rcases List.mem_cons.1 h with rfl | h
   ·exact .inr (.inl (by simp))
   ·rcases Rg h with h | h | ⟨y,h1,h2⟩
    ·exact .inl h
    ·exact .inr (.inl (by simp [h]))
    ·exact .inr (.inr ⟨y,by simp [h1],h2⟩)
theorem DP {f:Claim→Claim} {c:Claim} (hf:∀ x,keyOf (f x)=keyOf x):∀ {l:List Claim},l.Pairwise (fun x y=>¬ dy x y)→(lS f c l).Pairwise fun x y=>¬ dy x y
 | [],_=>List.pairwise_singleton _ _
 | x :: r,h=>by
  have h':=h
  rw [List.pairwise_cons] at h
  by_cases hx:keyOf x=keyOf c
  ·simp only [lS,if_pos hx]
   rw [List.pairwise_cons]
   exact ⟨fun y hy e=>h.1 y hy (iH.2 ((hf x).symm.trans (iH.1 e))),h.2⟩
  ·simp only [lS,if_neg hx]
   rw [List.pairwise_cons]
   refine ⟨fun y hy e=>?_,DP hf h.2⟩
   rcases Rg hy with rfl | hy | ⟨z,h1,h2,rfl⟩
   ·exact hx (iH.1 e)
   ·exact h.1 y hy e
   ·exact h.1 z h1 (iH.2 ((iH.1 e).trans (hf z)))
theorem abY (c x:Claim):keyOf (fG c x)=keyOf x:=rfl
theorem abZ (c x:Claim):keyOf (fJ c x)=keyOf x:=rfl
def mM (a:ba) (x:Claim):Claim:={ x with az:=a.dS,cz:=a.at_,sum:=iU a x }
def Rh (a:ba) (kind:Int) (st:Bool) (x:Claim):Bool:=dt a st x&&(((kind != 1)&&((x.eD == 0)||(decide (x.sign < a.at_))))&&(x.aW != a.dS))
def fh (a:ba) (kind:Int) (st:Bool) (nh:List Claim) (x:Claim):List Claim:=bif Rh a kind st x then py nh (mM a x) else nh
def stepOf (a:ba) (st:Bool) (x:Claim):List Step:=bif dt a st x then [{ aW:=x.aW,az:=x.az,sign:=x.sign,sum:=iU a x }] else []
theorem Ox (l:List Claim) (a:ba) (kind:Int) (st:Bool):(jb l a kind st).1=(l.foldl (fh a kind st) []).foldl jA (l.map (gh a st)):=by
 unfold jb k6
 dsimp +instances only [Sk.j3,Sk.lf,Sk.oa,Sk.kL,Sk.qF,Sk.sA,Sk.WD,Sk.gN,iI.G3,kk,kp,bn.Ao,uk.G3,iJ.G3,oI,vU,nj,pA]
 have nG:ql l=l:=(vT l).2
 rw [nG]
 have h1:=Fz l.length (fun n=>((l.take n).map (gh a st)++l.drop n,(l.take n).flatMap (stepOf a st),(l.take n).foldl (fh a kind st) [])) (fun s i=>(s.1,s.2.1,s.2.2,i))
  (f:=fun i3:List Claim × List Step × List Claim × Nat=>bif decide ((i3.2.2.2:Int) < ((l.length:Nat):Int)) then
   bif !(dt a st (l.getD i3.2.2.2 default)) then Sum.inr (i3.1,i3.2.1,i3.2.2.1,i3.2.2.2+1) else
   bif (((kind != 1)&&((((l.getD i3.2.2.2 default).eD) == 0)||(decide (((l.getD i3.2.2.2 default).sign) < a.at_))))&&(((l.getD i3.2.2.2 default).aW) != a.dS)) then
    Sum.inr (i3.1.set i3.2.2.2 ({ i3.1.getD i3.2.2.2 default with sum:=au ((bW 0 ((l.getD i3.2.2.2 default).sum)) - (cS (bW 0 a.sum) (bW 0 ((l.getD i3.2.2.2 default).sum)))) }),i3.2.1++[({ aW:=(l.getD i3.2.2.2 default).aW,az:=(l.getD i3.2.2.2 default).az,sign:=(l.getD i3.2.2.2 default).sign,sum:=cS (bW 0 a.sum) (bW 0 ((l.getD i3.2.2.2 default).sum)) }:Step)],py i3.2.2.1 ({ l.getD i3.2.2.2 default with az:=a.dS,cz:=a.at_,sum:=cS (bW 0 a.sum) (bW 0 ((l.getD i3.2.2.2 default).sum)) }),i3.2.2.2+1)
   else Sum.inr (i3.1.set i3.2.2.2 ({ i3.1.getD i3.2.2.2 default with sum:=au ((bW 0 ((l.getD i3.2.2.2 default).sum)) - (cS (bW 0 a.sum) (bW 0 ((l.getD i3.2.2.2 default).sum)))) }),i3.2.1++[({ aW:=(l.getD i3.2.2.2 default).aW,az:=(l.getD i3.2.2.2 default).az,sign:=(l.getD i3.2.2.2 default).sign,sum:=cS (bW 0 a.sum) (bW 0 ((l.getD i3.2.2.2 default).sum)) }:Step)],i3.2.2.1,i3.2.2.2+1)
   else Sum.inl (Sum.inr (i3.1,i3.2.1,i3.2.2.1)))
  (d:=(default:(List Claim × List Step) ⊕ (List Claim × List Step × List Claim)))
  (fun s=>Sum.inr s) (fun i hi=>by
   have et:l.take (i+1)=l.take i++[l.getD i default]:=by
    rw [List.take_succ_eq_append_getElem hi]; simp [List.getD,hi]
   have e2:(l.take (i+1)).flatMap (stepOf a st)=(l.take i).flatMap (stepOf a st)++stepOf a st (l.getD i default):=by rw [et]; simp
   have e3:(l.take (i+1)).foldl (fh a kind st) []=fh a kind st ((l.take i).foldl (fh a kind st) []) (l.getD i default):=by rw [et,List.foldl_append]; rfl
   dsimp only
   rw [decide_eq_true (by omega),cond_true,e2,e3]
   cases hm:dt a st (l.getD i default) with
   | false =>
    have er:gh a st (l.getD i default)=l.getD i default:=by unfold gh; rw [hm]; rfl
    have es:stepOf a st (l.getD i default)=[]:=by unfold stepOf; rw [hm]; rfl
    have ei:∀ s,fh a kind st s (l.getD i default)=s:=fun s=>by unfold fh Rh; rw [hm]; rfl
    rw [HT _ hi er,es,ei,List.append_nil]; rfl
   | true =>
    have er:gh a st (l.getD i default) = { l.getD i default with sum:=au ((bW 0 ((l.getD i default).sum)) - (cS (bW 0 a.sum) (bW 0 ((l.getD i default).sum)))) }:=by unfold gh iU; rw [hm]; rfl
    have es:stepOf a st (l.getD i default)=[({ aW:=(l.getD i default).aW,az:=(l.getD i default).az,sign:=(l.getD i default).sign,sum:=cS (bW 0 a.sum) (bW 0 ((l.getD i default).sum)) }:Step)]:=by unfold stepOf iU; rw [hm]; rfl
    have ei:∀ s,fh a kind st s (l.getD i default)=bif (((kind != 1)&&((((l.getD i default).eD) == 0)||(decide (((l.getD i default).sign) < a.at_))))&&(((l.getD i default).aW) != a.dS)) then py s (mM a (l.getD i default)) else s:=fun s=>by unfold fh Rh; rw [hm,Bool.true_and]
    rw [uT _ hi,← er,FH _ hi,es,ei,Bool.not_true,cond_false]
    cases (((kind != 1)&&((((l.getD i default).eD) == 0)||(decide (((l.getD i default).sign) < a.at_))))&&(((l.getD i default).aW) != a.dS)) <;> rfl)
  (by dsimp only; rw [decide_eq_false (by omega),cond_false]) (m:=l.length - 0+1) (by omega)
 rw [List.take_length,List.drop_length,List.append_nil] at h1
 refine (congrArg (fun q=>(j2 q fun b2:List Claim × List Step × List Claim=>j2 (iter (fun i7:List Claim × Nat=>bif decide ((i7.2:Int) < ((b2.2.2.length:Nat):Int)) then Sum.inr (jA i7.1 (b2.2.2.getD i7.2 default),i7.2+1) else Sum.inl (Sum.inr i7.1)) (default:(List Claim × List Step) ⊕ List Claim) (b2.2.2.length - 0+1) (b2.1,0)) fun b6=>(b6,b2.2.1)).1) h1).trans ?_
 refine (congrArg Prod.fst (mo (l.foldl (fh a kind st) []) (fun s i=>(s,i)) (fun c v=>.inr (jA v c)) (fun v=>v) (fun b6=>(b6,l.flatMap (stepOf a st))) (fun s i hi=>?_) (fun s=>?_) (by dsimp only; omega) (l.map (gh a st)))).trans ?_
 ·dsimp only
  rw [decide_eq_true (by omega),cond_true]
 ·dsimp only
  rw [decide_eq_false (by omega),cond_false]
 ·rw [qS (fun c v=>jA v c)]
def YG (a:ba) (kind:Int) (st:Bool) (P:List Claim) (k:Int × Int × Int × Int × Int):Option Claim→Prop
 | none=>∀ x,x∈P→Rh a kind st x=true→keyOf (mM a x)≠k
 | some c=>((c.state=1∨c.state=2)∧keyOf c=k∧∃ x,x∈P∧Rh a kind st x=true∧keyOf (mM a x)=k∧c.eD=x.eD)∧(∃ x,x∈P∧Rh a kind st x=true∧keyOf (mM a x)=k∧c.sum=iU a x)∧(∀ x,x∈P→Rh a kind st x=true→keyOf (mM a x)=k→iU a x≤c.sum)∧(c.state=1↔∀ x,x∈P→Rh a kind st x=true→keyOf (mM a x)=k→x.state=1)
def Spec (a:ba) (kind:Int) (st:Bool) (P nh:List Claim):Prop:=(nh.Pairwise fun x y=>¬ dy x y)∧∀ k,YG a kind st P k (lk nh k)
theorem S6 {a b:Int} (ha:a=1∨a=2) (hb:b=1∨b=2):nW a b=1↔a=1∧b=1:=by
 have e11:nW 1 1=1:=by kernel_rfl
 have e12:nW 1 2=2:=by kernel_rfl
 have e21:nW 2 1=2:=by kernel_rfl
 have e22:nW 2 2=2:=by kernel_rfl
 rcases ha with rfl | rfl <;> rcases hb with rfl | rfl <;> simp [e11,e12,e21,e22]
theorem YG.agF {a:ba} {kind:Int} {st:Bool} {P:List Claim} {k:Int × Int × Int × Int × Int} {o:Option Claim} (h:YG a kind st P k o) {x:Claim} (hx:Rh a kind st x=true→keyOf (mM a x)≠k):YG a kind st (P++[x]) k o:=by
 have hm:∀ y,y∈P++[x]→Rh a kind st y=true→keyOf (mM a y)=k→y∈P:=fun y hy h1 h2=>by
  rcases List.mem_append.1 hy with hy | hy
  ·exact hy
  ·rw [List.mem_singleton.1 hy] at h1 h2; exact absurd h2 (hx h1)
 cases o with
 | none=>exact fun y hy h1 h2=>h y (hm y hy h1 h2) h1 h2
 | some c =>
  obtain ⟨⟨h1,h2,y,hy,k1,k2⟩,⟨z,hz,k3⟩,k4,k5⟩:=h
  refine ⟨⟨h1,h2,y,List.mem_append_left _ hy,k1,k2⟩,⟨z,List.mem_append_left _ hz,k3⟩,fun y hy q1 q2=>k4 y (hm y hy q1 q2) q1 q2,k5.trans ⟨fun q y hy q1 q2=>q y (hm y hy q1 q2) q1 q2,fun q y hy q1 q2=>q y (List.mem_append_left _ hy) q1 q2⟩⟩
theorem Spec.step {a:ba} {kind:Int} {st:Bool} {P nh:List Claim} (h:Spec a kind st P nh) {x:Claim} (hx:x.state=1∨x.state=2):Spec a kind st (P++[x]) (fh a kind st nh x):=by
 unfold fh
 cases hs:Rh a kind st x with
 | false=>exact ⟨h.1,fun k=>(h.2 k).agF (fun e=>absurd e (by rw [hs]; decide))⟩
 | true =>
  have e:py nh (mM a x)=lS (fG (mM a x)) (mM a x) nh:=(A5 nh (mM a x)).eq h.1
  rw [cond_true,e]
  refine ⟨DP (abY _) h.1,fun k=>?_⟩
  rw [Ow (abY _)]
  by_cases hk:keyOf (mM a x)=k
  ·rw [if_pos hk]
   have hq:=h.2 k
   have hP:∀ (Q:Claim→Prop),(∀ y,y∈P++[x]→Rh a kind st y=true→keyOf (mM a y)=k→Q y)↔(∀ y,y∈P→Rh a kind st y=true→keyOf (mM a y)=k→Q y)∧Q x:=fun Q =>
    ⟨fun q=>⟨fun y hy=>q y (List.mem_append_left _ hy),q x (by simp) hs hk⟩,fun q y hy q1 q2=>by
     rcases List.mem_append.1 hy with hy | hy
     ·exact q.1 y hy q1 q2
     ·rw [List.mem_singleton.1 hy]; exact q.2⟩
   cases ho:lk nh k with
   | none =>
    rw [ho] at hq
    refine ⟨⟨hx,hk,x,by simp,hs,hk,rfl⟩,⟨x,by simp,hs,hk,rfl⟩,(hP _).2 ⟨fun y hy q1 q2=>absurd q2 (hq y hy q1),Int.le_refl _⟩,Iff.trans ⟨fun q=>⟨fun y hy q1 q2=>absurd q2 (hq y hy q1),q⟩,fun q=>q.2⟩ (hP _).symm⟩
   | some c =>
    rw [ho] at hq
    obtain ⟨⟨h1,h2,y,hy,k1,k1',k2⟩,⟨z,hz,k3,k3',aiA⟩,k4,k5⟩:=hq
    have jK:(fG (mM a x) c).state=1↔x.state=1∧c.state=1:=S6 (a:=x.state) (b:=c.state) hx h1
    have hmx:(fG (mM a x) c).sum=bW c.sum (iU a x):=rfl
    refine ⟨⟨Xg (a:=x.state) (b:=c.state) hx h1,h2,y,List.mem_append_left _ hy,k1,k1',k2⟩,?_,(hP _).2 ⟨fun y hy q1 q2=>?_,?_⟩,Iff.trans ?_ (hP _).symm⟩
    ·show ∃ w,w∈P++[x]∧_∧_∧(fG (mM a x) c).sum=_
     rw [hmx]
     unfold bW
     split
     ·exact ⟨x,by simp,hs,hk,rfl⟩
     ·exact ⟨z,List.mem_append_left _ hz,k3,k3',aiA⟩
    ·have:=k4 y hy q1 q2
     show _≤(fG (mM a x) c).sum
     rw [hmx]; unfold bW; split <;> omega
    ·show _≤(fG (mM a x) c).sum
     rw [hmx]; unfold bW; split <;> omega
    ·exact jK.trans ⟨fun q=>⟨k5.1 q.2,q.1⟩,fun q=>⟨q.2,k5.2 q.1⟩⟩
  ·rw [if_neg hk]
   exact (h.2 k).agF (fun _=>hk)
theorem Spec.all {a:ba} {kind:Int} {st:Bool}:∀ (l P nh:List Claim),Spec a kind st P nh→(∀ x,x∈l→x.state=1∨x.state=2)→Spec a kind st (P++l) (l.foldl (fh a kind st) nh)
 | [],P,nh,h,_=>by rw [List.append_nil]; exact h
 | x :: r,P,nh,h,hl=>by
  have:=Spec.all r (P++[x]) _ (h.step (hl x (by simp))) (fun y hy=>hl y (by simp [hy]))
  rwa [List.append_assoc] at this
theorem Spec.of {a:ba} {kind:Int} {st:Bool} {l:List Claim} (hl:∀ x,x∈l→x.state=1∨x.state=2):Spec a kind st l (l.foldl (fh a kind st) []):=by
 have:=Spec.all (a:=a) (kind:=kind) (st:=st) l [] [] ⟨.nil,fun k x hx=>by simp at hx⟩ hl
 rwa [List.nil_append] at this
theorem Oy {k:Int × Int × Int × Int × Int}:∀ (nh v:List Claim),(nh.Pairwise fun x y=>¬ dy x y)→(v.Pairwise fun x y=>¬ dy x y)→((nh.foldl jA v).Pairwise fun x y=>¬ dy x y)∧lk (nh.foldl jA v) k=(lk nh k).elim (lk v k) fun c=>some ((lk v k).elim c (fJ c))
 | [],v,_,hv=>⟨hv,rfl⟩
 | c :: r,v,hi,hv=>by
  rw [List.pairwise_cons] at hi
  have e:jA v c=lS (fJ c) c v:=(CN v c).eq hv
  have h:=Oy (k:=k) r (jA v c) hi.2 (by rw [e]; exact DP (abZ _) hv)
  rw [List.foldl_cons]
  refine ⟨h.1,h.2.trans ?_⟩
  rw [e,Ow (abZ _),tH]
  by_cases hk:keyOf c=k
  ·rw [if_pos hk,if_pos hk]
   have:lk r k=none:=by
    cases hr:lk r k with
    | none=>rfl
    | some y =>
     obtain ⟨m1,m2⟩:=vf hr
     exact absurd (iH.2 (hk.trans m2.symm)) (hi.1 y m1)
   rw [this]; rfl
  ·rw [if_neg hk,if_neg hk]
theorem ab0:∀ {nh v:List Claim} {z:Claim},(nh.Pairwise fun x y=>¬ dy x y)→(v.Pairwise fun x y=>¬ dy x y)→z∈nh.foldl jA v→z∈v∨z∈nh∨∃ x c,x∈v∧c∈nh∧z=fJ c x:=fun {nh v z} hi hv hz=>by
 obtain ⟨h1,h2⟩:=Oy (k:=keyOf z) nh v hi hv
 have h3:=YF h1 hz
 rw [h2] at h3
 cases hc:lk nh (keyOf z) with
 | none=>rw [hc] at h3; exact .inl (vf h3).1
 | some c =>
  rw [hc] at h3
  cases hx:lk v (keyOf z) with
  | none=>rw [hx] at h3; have h3:some c=some z:=h3; cases h3; exact .inr (.inl (vf hc).1)
  | some x=>rw [hx] at h3; have h3:some (fJ c x)=some z:=h3; cases h3; exact .inr (.inr ⟨x,c,(vf hx).1,(vf hc).1,rfl⟩)
structure OKL (Z:Int→Prop) (L:List Claim):Prop where
 pair:L.Pairwise fun x y=>¬ dy x y
 cl:∀ x,x∈L→NS x
 eD:∀ x,x∈L→(x.eD=0↔Z x.sign)
structure Gr (L L':List Claim):Prop where
 old:∀ k x',lk L' k=some x'→∃ x,lk L k=some x
 yes:∀ k x,lk L k=some x→x.state=1→∃ x',lk L' k=some x'∧x'.state=1∧x.sum≤x'.sum
theorem S7 (a:ba) (st:Bool) (x:Claim):keyOf (gh a st x)=keyOf x:=iH.1 (FF a st x).1
theorem Xy (a:ba) (st:Bool) (k:Int × Int × Int × Int × Int):∀ l:List Claim,lk (l.map (gh a st)) k=(lk l k).map (gh a st)
 | []=>rfl
 | x :: r=>by
  rw [List.map_cons,tH,tH,S7,Xy a st k r]
  split <;> rfl
theorem Ri (a:ba) (st:Bool) (x:Claim):(gh a st x).state=x.state:=by unfold gh; cases dt a st x <;> rfl
theorem Oz {a:ba} {st:Bool} {l:List Claim} (h:l.Pairwise fun x y=>¬ dy x y):(l.map (gh a st)).Pairwise fun x y=>¬ dy x y:=by
 rw [List.pairwise_map]
 exact h.imp fun h e=>h (iH.2 (by have:=iH.1 e; rwa [S7,S7] at this))
theorem OA {a:ba} {x:Claim} (h:NS x):nL (iU a x):=by
 have h:=h.1
 unfold nL iU cS bW at *
 (repeat' split) <;> omega
theorem OKL.apply {Z:Int→Prop} {L:List Claim} (h:OKL Z L) (a:ba) (kind:Int) (st:Bool):OKL Z (jb L a kind st).1:=by
 have hs:=Spec.of (a:=a) (kind:=kind) (st:=st) fun x hx=>(h.cl x hx).2
 have hv:=Oz (a:=a) (st:=st) h.pair
 rw [Ox]
 have ci:∀ c,c∈L.foldl (fh a kind st) []→NS c∧(c.eD=0↔Z c.sign):=fun c hc=>by
  have hk:=hs.2 (keyOf c)
  rw [YF hs.1 hc] at hk
  obtain ⟨⟨h1,-,y,hy,-,k1,k2⟩,⟨z,hz,-,-,k3⟩,-,-⟩:=hk
  refine ⟨⟨by rw [k3]; exact OA (h.cl z hz),h1⟩,?_⟩
  have:y.sign=c.sign:=congrArg (fun q:Int × Int × Int × Int × Int=>q.2.2.2.1) k1
  rw [k2,← this]; exact h.eD y hy
 have cv:∀ c,c∈L.map (gh a st)→NS c∧(c.eD=0↔Z c.sign):=fun c hc=>by
  obtain ⟨x,hx,rfl⟩:=List.mem_map.1 hc
  have e:=FF a st x
  exact ⟨LK (h.cl x hx),by rw [e.2.1,e.1.2.2.2.1]; exact h.eD x hx⟩
 have all:∀ z,z∈(L.foldl (fh a kind st) []).foldl jA (L.map (gh a st))→NS z∧(z.eD=0↔Z z.sign):=fun z hz=>by
  rcases ab0 hs.1 hv hz with hz | hz | ⟨x,c,hx,hc,rfl⟩
  ·exact cv z hz
  ·exact ci z hz
  ·exact ⟨abB (ci c hc).1 (cv x hx).1,(cv x hx).2⟩
 exact ⟨(Oy (k:=keyOf default) _ _ hs.1 hv).1,fun z hz=>(all z hz).1,fun z hz=>(all z hz).2⟩
theorem S8 {Z:Int→Prop} {a:ba} {kind:Int} {st:Bool} {x y:Claim} (hk:keyOf x=keyOf y) (hx:x.eD=0↔Z x.sign) (hy:y.eD=0↔Z y.sign):Rh a kind st x=Rh a kind st y∧dt a st x=dt a st y:=by
 obtain ⟨e1,e2,e3,e4,e5⟩:=iH.2 hk
 have et:(x.eD == 0)=(y.eD == 0):=by
  have:x.eD=0↔y.eD=0:=by rw [hx,hy,e4]
  cases h:y.eD == 0 with
  | true=>rw [beq_iff_eq] at h ⊢; exact this.2 h
  | false=>rw [beq_eq_false_iff_ne] at h ⊢; exact fun q=>h (this.1 q)
 have em:dt a st x=dt a st y:=by rw [jz,jz,e2]
 unfold Rh
 rw [em,et,e4,e1]
 exact ⟨rfl,rfl⟩
theorem LR {a:ba} {x y:Claim} (hk:keyOf x=keyOf y):keyOf (mM a x)=keyOf (mM a y):=by
 obtain ⟨e1,e2,e3,e4,e5⟩:=iH.2 hk
 exact iH.1 ⟨e1,rfl,e3,e4,rfl⟩
theorem adh {a:ba} {x y:Claim} (h:x.sum≤y.sum):iU a x≤iU a y:=by
 unfold iU cS bW; (repeat' split) <;> omega
theorem Gr.apply {Z:Int→Prop} {L L':List Claim} (h:OKL Z L) (h':OKL Z L') (hg:Gr L L') (a:ba) (kind:Int) (st:Bool):Gr (jb L a kind st).1 (jb L' a kind st).1:=by
 have hs:=Spec.of (a:=a) (kind:=kind) (st:=st) fun x hx=>(h.cl x hx).2
 have xb:=Spec.of (a:=a) (kind:=kind) (st:=st) fun x hx=>(h'.cl x hx).2
 have back:∀ x',x'∈L'→∃ x,x∈L∧keyOf x=keyOf x'∧Rh a kind st x=Rh a kind st x'∧(x.state=1→x'.state=1∧x.sum≤x'.sum):=fun x' ZY=>by
  have O3:=YF h'.pair ZY
  obtain ⟨x,hx⟩:=hg.old _ _ O3
  obtain ⟨m1,m2⟩:=vf hx
  refine ⟨x,m1,m2,(S8 m2 (h.eD x m1) (h'.eD x' ZY)).1,fun h1=>?_⟩
  obtain ⟨y,y1,y2,y3⟩:=hg.yes _ x hx h1
  rw [O3] at y1
  cases y1
  exact ⟨y2,y3⟩
 have fwd:∀ x,x∈L→x.state=1→∃ x',x'∈L'∧keyOf x'=keyOf x∧Rh a kind st x'=Rh a kind st x∧x.sum≤x'.sum:=fun x hx h1=>by
  obtain ⟨x',y1,y2,y3⟩:=hg.yes _ x (YF h.pair hx) h1
  obtain ⟨m1,m2⟩:=vf y1
  exact ⟨x',m1,m2,(S8 m2 (h'.eD x' m1) (h.eD x hx)).1,y3⟩
 have io:∀ k c',lk (L'.foldl (fh a kind st) []) k=some c'→∃ c,lk (L.foldl (fh a kind st) []) k=some c:=fun k c' hc'=>by
  have q:=xb.2 k
  rw [hc'] at q
  obtain ⟨-,⟨z,hz,z1,z2,-⟩,-,-⟩:=q
  obtain ⟨x,x1,x2,x3,-⟩:=back z hz
  have q:=hs.2 k
  cases hc:lk (L.foldl (fh a kind st) []) k with
  | some c=>exact ⟨c,rfl⟩
  | none=>rw [hc] at q; exact absurd ((LR x2).trans z2) (q x x1 (by rw [x3]; exact z1))
 have iy:∀ k c,lk (L.foldl (fh a kind st) []) k=some c→c.state=1→∃ c',lk (L'.foldl (fh a kind st) []) k=some c'∧c'.state=1∧c.sum≤c'.sum:=fun k c hc h1=>by
  have q:=hs.2 k
  rw [hc] at q
  obtain ⟨-,⟨z,hz,z1,z2,z3⟩,-,k5⟩:=q
  have mf:=k5.1 h1
  obtain ⟨z',w1,w2,w3,w4⟩:=fwd z hz (mf z hz z1 z2)
  have q:=xb.2 k
  cases hc':lk (L'.foldl (fh a kind st) []) k with
  | none=>rw [hc'] at q; exact absurd ((LR w2).trans z2) (q z' w1 (by rw [w3]; exact z1))
  | some c' =>
   rw [hc'] at q
   obtain ⟨-,-,k4',k5'⟩:=q
   refine ⟨c',rfl,k5'.2 fun y hy q1 q2=>?_,?_⟩
   ·obtain ⟨x,x1,x2,x3,x4⟩:=back y hy
    exact (x4 (mf x x1 (by rw [x3]; exact q1) ((LR x2).trans q2))).1
   ·rw [z3]
    exact Int.le_trans (adh w4) (k4' z' w1 (by rw [w3]; exact z1) ((LR w2).trans z2))
 have vo:∀ k x',lk (L'.map (gh a st)) k=some x'→∃ x,lk (L.map (gh a st)) k=some x:=fun k x' ZY=>by
  rw [Xy] at ZY ⊢
  cases hy:lk L' k with
  | none=>rw [hy] at ZY; cases ZY
  | some y =>
   obtain ⟨x,hx⟩:=hg.old k y hy
   exact ⟨_,by rw [hx]; rfl⟩
 have vy:∀ k x,lk (L.map (gh a st)) k=some x→x.state=1→∃ x',lk (L'.map (gh a st)) k=some x'∧x'.state=1∧x.sum≤x'.sum:=fun k x hx h1=>by
  rw [Xy] at hx ⊢
  cases hy:lk L k with
  | none=>rw [hy] at hx; cases hx
  | some y =>
   rw [hy] at hx
   have hx:some (gh a st y)=some x:=hx
   cases hx
   rw [Ri] at h1
   obtain ⟨y',y1,y2,y3⟩:=hg.yes k y hy h1
   refine ⟨gh a st y',by rw [y1]; rfl,by rw [Ri]; exact y2,?_⟩
   obtain ⟨m1,m2⟩:=vf hy
   obtain ⟨n1,n2⟩:=vf y1
   have em:=(S8 (Z:=Z) (a:=a) (kind:=kind) (st:=st) (m2.trans n2.symm) (h.eD y m1) (h'.eD y' n1)).2
   have c1:=(h.cl y m1).1
   have c2:=(h'.cl y' n1).1
   unfold gh
   rw [em]
   cases dt a st y' with
   | false=>exact y3
   | true =>
    show au _≤au _
    unfold iU nL at *
    have a0:0≤bW 0 a.sum:=by unfold bW; split <;> omega
    generalize bW 0 a.sum=A at a0 ⊢
    rw [show bW 0 y.sum=y.sum by unfold bW; split <;> omega,show bW 0 y'.sum=y'.sum by unfold bW; split <;> omega]
    have b1:0≤cS A y.sum∧cS A y.sum≤y.sum:=by unfold cS; split <;> omega
    have b2:0≤cS A y'.sum∧cS A y'.sum≤y'.sum:=by unfold cS; split <;> omega
    rw [ar (by omega) (by omega),ar (by omega) (by omega)]
    unfold cS; split <;> split <;> omega
 have hv:=Oz (a:=a) (st:=st) h.pair
 have hv':=Oz (a:=a) (st:=st) h'.pair
 have ci:∀ k c,lk (L.foldl (fh a kind st) []) k=some c→NS c:=fun k c hc=>by
  have q:=hs.2 k
  rw [hc] at q
  obtain ⟨⟨h1,-⟩,⟨z,hz,-,-,k3⟩,-⟩:=q
  exact ⟨by rw [k3]; exact OA (h.cl z hz),h1⟩
 have ci':∀ k c,lk (L'.foldl (fh a kind st) []) k=some c→NS c:=fun k c hc=>by
  have q:=xb.2 k
  rw [hc] at q
  obtain ⟨⟨h1,-⟩,⟨z,hz,-,-,k3⟩,-⟩:=q
  exact ⟨by rw [k3]; exact OA (h'.cl z hz),h1⟩
 have cv:∀ k c,lk (L.map (gh a st)) k=some c→NS c:=fun k c hc=>by
  obtain ⟨x,hx,e⟩:=List.mem_map.1 (vf hc).1
  rw [← e]; exact LK (h.cl x hx)
 have cv':∀ k c,lk (L'.map (gh a st)) k=some c→NS c:=fun k c hc=>by
  obtain ⟨x,hx,e⟩:=List.mem_map.1 (vf hc).1
  rw [← e]; exact LK (h'.cl x hx)
 rw [Ox,Ox]
 refine ⟨fun k z' hz'=>?_,fun k z hz h1=>?_⟩
 ·rw [(Oy _ _ xb.1 hv').2] at hz'
  rw [(Oy _ _ hs.1 hv).2]
  cases hc':lk (L'.foldl (fh a kind st) []) k with
  | some c' =>
   obtain ⟨c,hc⟩:=io k c' hc'
   rw [hc]; exact ⟨_,rfl⟩
  | none =>
   rw [hc'] at hz'
   obtain ⟨x,hx⟩:=vo k z' hz'
   rw [hx]
   cases lk (L.foldl (fh a kind st) []) k <;> exact ⟨_,rfl⟩
 ·rw [(Oy _ _ hs.1 hv).2] at hz
  rw [(Oy _ _ xb.1 hv').2]
  cases hc:lk (L.foldl (fh a kind st) []) k with
  | none =>
   rw [hc] at hz
   obtain ⟨x',x1,x2,x3⟩:=vy k z hz h1
   cases hc':lk (L'.foldl (fh a kind st) []) k with
   | none=>exact ⟨x',x1,x2,x3⟩
   | some c'=>obtain ⟨c0,CW⟩:=io k c' hc'; rw [hc] at CW; cases CW
  | some c =>
   rw [hc] at hz
   cases hx:lk (L.map (gh a st)) k with
   | none =>
    rw [hx] at hz
    have hz:some c=some z:=hz
    have hz:c=z:=Option.some.inj hz
    subst z
    obtain ⟨c',c1,c2,c3⟩:=iy k c hc h1
    rw [c1]
    cases ZY:lk (L'.map (gh a st)) k with
    | none=>exact ⟨c',rfl,c2,c3⟩
    | some x'=>obtain ⟨x,hx2⟩:=vo k x' ZY; rw [hx] at hx2; cases hx2
   | some x =>
    rw [hx] at hz
    have hz:some (fJ c x)=some z:=hz
    cases hz
    have px:=cv k x hx
    have pc:=ci k c hc
    obtain ⟨s1,s2⟩:=(S6 (a:=x.state) (b:=c.state) px.2 pc.2).1 h1
    obtain ⟨c',c1,c2,c3⟩:=iy k c hc s2
    obtain ⟨x',x1,x2,x3⟩:=vy k x hx s1
    have px':=cv' k x' x1
    have pc':=ci' k c' c1
    rw [c1,x1]
    refine ⟨_,rfl,(S6 (a:=x'.state) (b:=c'.state) px'.2 pc'.2).2 ⟨x2,c2⟩,?_⟩
    show cS 1099511627776 (au (x.sum+c.sum))≤cS 1099511627776 (au (x'.sum+c'.sum))
    have p1:=px.1
    have p2:=pc.1
    have p3:=px'.1
    have p4:=pc'.1
    unfold nL at *
    rw [ar (by omega) (by omega),ar (by omega) (by omega)]
    unfold cS; split <;> split <;> omega
def oQ (g:ai) (l:List Claim) (a:ba):List Claim:=bif (((a.kind != 6)||(decide (a.at_ < 0)))||(decide (a.at_≥((g.ae.length:Nat):Int)))) then l else (jb l a (g.ae.getD a.at_.toNat default).kind (!(kZ g.ae a))).1
theorem Qg (r:ah) (forum:Int) (f:ai) (day:Int):iu r forum f day=(aj f day).aw.foldl (oQ (aj f day)) (cr r forum f day):=by
 have e0:iu r forum f day=(BI r forum f day).1:=by kernel_rfl
 rw [e0]
 unfold BI pa
 dsimp +instances only [Sk.val,Sk.j3,Sk.lf,Sk.oa,Sk.kL,Sk.qF,Sk.sA,Sk.WD,Sk.gN,Sk.aew,Sk.aev,Sk.acK,Sk.acL,iI.G3,kk,kp,bn.Ao,bj,Sv,fY,iJ.G3,tA]
 refine (congrArg Prod.fst (mo (aj f day).aw (fun s i=>(s,i)) (fun a l=>.inr (oQ (aj f day) l a)) (fun l=>l) (fun b3=>(b3,())) (fun s i hi=>?_) (fun s=>?_) (by omega) (cr r forum f day))).trans ?_
 ·dsimp only
  rw [decide_eq_true (by omega),cond_true]
  unfold oQ
  cases ((((((aj f day).aw.getD i default).kind) != 6)||(decide ((((aj f day).aw.getD i default).at_) < 0)))||(decide ((((aj f day).aw.getD i default).at_)≥(((aj f day).ae.length:Nat):Int)))) with
  | true=>rfl
  | false =>
   rw [cond_false,cond_false]
   generalize jb s ((aj f day).aw.getD i default) ((aj f day).ae.getD ((aj f day).aw.getD i default).at_.toNat default).kind (!(kZ (aj f day).ae ((aj f day).aw.getD i default)))=w
   refine Eq.trans (congrArg (fun q=>j2 (j2 q _) _) (Fz w.2.length (fun k=>(w.2.take k).foldl (fun m (s:Step)=>tc m s.az true) ([]:List (Int × Bool))) (fun s i=>(i,s)) (fun s=>Sum.inr (((w.2.length:Nat):Int),s)) (fun k hk=>?_) ?_ (by omega))) ?_
   ·dsimp only
    rw [decide_eq_true (by omega),cond_true,List.take_succ_eq_append_getElem hk,List.foldl_append,show w.2.getD k default=w.2[k] by simp [List.getD,hk]]
    rfl
   ·dsimp only
    rw [decide_eq_false (by omega),cond_false,List.take_length]
   ·rfl
 ·dsimp only
  rw [decide_eq_false (by omega),cond_false]
 ·rw [qS (fun a l=>oQ (aj f day) l a)]
theorem ab1 {Z:Int→Prop} (g g':ai) (hs:g'.ae=g.ae):∀ (aw:List ba) (L L':List Claim),OKL Z L→OKL Z L'→Gr L L'→OKL Z (aw.foldl (oQ g) L)∧OKL Z (aw.foldl (oQ g') L')∧Gr (aw.foldl (oQ g) L) (aw.foldl (oQ g') L')
 | [],L,L',h,h',hg=>⟨h,h',hg⟩
 | a :: r,L,L',h,h',hg=>by
  rw [List.foldl_cons,List.foldl_cons]
  have e:∀ l,oQ g' l a=oQ g l a:=fun l=>by unfold oQ; rw [hs]
  rw [e]
  unfold oQ
  cases (((a.kind != 6)||(decide (a.at_ < 0)))||(decide (a.at_≥((g.ae.length:Nat):Int)))) with
  | true=>exact ab1 g g' hs r L L' h h' hg
  | false=>exact ab1 g g' hs r _ _ (h.apply _ _ _) (h'.apply _ _ _) (hg.apply h h' _ _ _)
def adR (f:ai) (day s:Int):Prop:=((aj f day).ae.getD (aJ (aQ f day) s).toNat default).kind=1
theorem adi {r:ah} {forum:Int} {f:ai} {day:Int} (hF:bu r f) (hR:r.cp):OKL (adR f day) (cr r forum f day):=by
 refine ⟨(Vh r forum f day).imp fun h e=>h ⟨e.2.2.1,e.2.2.2.1,e.2.2.2.2⟩,fun c hc=>?_,fun c hc=>?_⟩
 ·have:=Vg hF hR hc
  exact ⟨this.2.2.2.2.2.2.1,this.2.2.2.2.2.1⟩
 ·obtain ⟨b,hb,-,-,h,-⟩:=VH hF hc
  rw [hb] at h
  exact h
theorem adj {r:ah} {forum:Int} {f:ai} {day:Int} (hF:bu r f) (hR:r.cp):OKL (adR f day) (iu r forum f day):=by
 have o1:=adi (forum:=forum) (day:=day) hF hR
 rw [Qg]
 exact (ab1 (aj f day) (aj f day) rfl _ _ _ o1 o1 ⟨fun k x' ZY=>⟨x',ZY⟩,fun k x hx h1=>⟨x,hx,h1,Int.le_refl _⟩⟩).1
theorem YH (a b:Claim):iw a b=(((((a.aW == b.aW)&&(a.az == b.az))&&(a.part == b.part))&&(a.sign == b.sign))&&(a.cz == b.cz)):=rfl
theorem afb {a b:Claim}:iw a b=true↔dy a b:=by
 rw [YH]
 unfold dy
 simp only [Bool.and_eq_true,beq_iff_eq,and_assoc]
theorem YI (r:ah) (forum:Int) (f:ai) (day:Int) (c:Claim):keyOf (DD r forum f day c)=keyOf c:=by
 unfold DD
 cases gT r forum f c day == 2 <;> rfl
theorem VJ {r:ah} {forum:Int} {f:ai} {day:Int} (hF:bu r f) (hR:r.cp):(jC r forum f day).Pairwise fun x y=>¬ dy x y:=by
 rw [vY r forum f day hF,List.pairwise_map]
 refine ((adj (forum:=forum) (day:=day) hF hR).pair.sublist List.filter_sublist).imp fun h e=>h ?_
 have:=iH.1 e
 rw [YI,YI] at this
 exact iH.2 this
theorem adk {L:List Claim} (h:L.Pairwise fun x y=>¬ dy x y) {i j:Nat} (hi:i < L.length) (hj:j < L.length) (hk:dy (L.getD i default) (L.getD j default)):i=j:=by
 rw [List.pairwise_iff_getElem] at h
 have e1:L.getD i default=L[i]:=by simp [List.getD,hi]
 have e2:L.getD j default=L[j]:=by simp [List.getD,hj]
 rw [e1,e2] at hk
 rcases Nat.lt_trichotomy i j with hl | hl | hl
 ·exact absurd hk (h i j hi hj hl)
 ·exact hl
 ·exact absurd ⟨hk.1.symm,hk.2.1.symm,hk.2.2.1.symm,hk.2.2.2.1.symm,hk.2.2.2.2.symm⟩ (h j i hj hi hl)
theorem ab2 {L:List Claim} (h:L.Pairwise fun x y=>¬ dy x y) {i:Nat} (hi:i < L.length) {x:Int} (hx:Xj L (L.getD i default) x):x=(L.getD i default).state:=by
 rcases hx with ⟨q,h1,h2,h3⟩ | ⟨h1,-⟩
 ·rw [h3,adk h h1 hi (afb.1 h2)]
 ·have:=h1 i hi
  rw [YH] at this
  simp at this
theorem ab3 {L:List Claim} {c:Claim} {x:Int} (hx:Xj L c x) (h:∀ q,q < L.length→iw (L.getD q default) c=false):x=0:=by
 rcases hx with ⟨q,h1,h2,-⟩ | ⟨-,h1⟩
 ·rw [h q h1] at h2; cases h2
 ·exact h1
def fQ (r:ah) (forum:Int) (f:ai) (day:Int) (c_:Claim):Sk (Bool) :=
 .r 1 gE.c fun x1 =>
 .r 2 ((k8 r f day 1000).c) fun x2 =>
 .br (!x2)
 (.fin x1)
 (.r 4 ((kq r forum f day).c) fun x3 =>
 .bt
 (.loop (default:Sum (Bool) (Unit)) (fun i5=>i5≤x3.length) (fun i5=>x3.length - i5) (0:Nat)
 (fun (i5:Nat)=>⟨[(14,iv (i5:Int))],[]⟩) fun i5 =>
 .Eo 12 0 x3.length <|
 .br ((decide ((i5:Int) < ((x3.length:Nat):Int)))&&(decide ((i5:Int) < 4)))
 (.r 9 (.al (.p (bN (i5:Int) x3.length)) (.nK ((bB r forum f day (x3.getD i5 default)).c) fun _=>.p (bN (i5:Int) x3.length))) fun x6 =>
 .br (x6 != ((x3.getD i5 default).state))
 (.fin (.inl (.inl false)))
 (.nx 8 14 i5 (i5+1)))
 (.fin (.inl (.inr ()))))
 (fun (_:Unit)=>⟨[],[]⟩) fun _ =>
 .bind true (fun b7=>(b7=false→∀ q,q < x3.length→iw (x3.getD q default) c_=false))
 (.loop (default:Sum (Bool) (Bool)) (fun i8=>i8.2≤x3.length∧(i8.1=false→∀ q,q < i8.2→iw (x3.getD q default) c_=false)) (fun i8=>x3.length - i8.2) ((false,0):Bool × Nat)
 (fun (i8:Bool × Nat)=>⟨[(13,bv i8.1),(15,iv (i8.2:Int))],[]⟩) fun i8 =>
 .lt 12 0 i8.2 x3.length
 (.r 14 (.al (.wh i8.1 false (.p (bN (i8.2:Int) x3.length))) (.wh i8.1 false ((Ou (x3.getD i8.2 default) c_).c))) fun x9 =>
 .nx 13 15 i8.2 (i8.1||x9,i8.2+1))
 (.fin (.inl (.inr i8.1))))
 (fun (b7:Bool)=>⟨[(13,bv b7)],[]⟩) fun b7 =>
 .r 15 ((bB r forum f day c_).c) fun JN =>
 .br ((!b7)&&(JN != 0))
 (.fin false)
 (.br (JN == 2)
 (.fin x1)
 (.r 20 ((cQ r forum f day c_).c) fun Zz =>
 .fin ((x1&&(Zz.2 == 0))&&(((Zz.1.length:Nat):Int) == 0)))))
def lu r forum f day c_:=(fQ r forum f day c_).val
theorem Cu (r:ah) (forum:Int) (f:ai) (day:Int) (c_:Claim) (hP:∀ x,x∈r.aI→(-9223372036854775808≤x.num∧x.num≤9223372036854775807)∧(-9223372036854775808≤x.den∧x.den≤9223372036854775807)):(fQ r forum f day c_).cC (fun (x:Bool)=>x=true):=by
 refine Sk.aP _ ?_
 unfold fQ
 simp only [Sk.ct,Sk.aA,reduceCtorEq,ON,kk,kp,k8,gE,Ou,kq,cQ,bB,Re,forall_eq,maxLen]
 intro Oa hf
 refine ⟨fun _=>Oa,fun hc _=>?_⟩
 obtain ⟨-,-,-,-,hR,hF,-,-,-⟩:=hf hP (by simpa using hc)
 have adS:=VJ (forum:=forum) (day:=day) hF hR
 generalize jC r forum f day=L at adS ⊢
 refine ⟨⟨Nat.zero_le _,fun i hi hl hs=>⟨fun rl=>?_,fun _ _=>?_⟩⟩,fun _=>⟨⟨⟨Nat.zero_le _,fun q hq=>absurd hq (by omega)⟩,fun i hi=>⟨fun hl _=>⟨⟨?_,fun hb q hq=>?_⟩,?_⟩,fun hl hb=>?_⟩⟩,fun b hb hs=>⟨fun hn=>?_,fun _=>⟨fun _=>Oa,fun h2 hS=>?_⟩⟩⟩⟩
 ·rw [Bool.and_eq_true,decide_eq_true_eq] at hl
  have:=ab2 adS (show i < L.length by omega) hs
  rw [bne_iff_ne] at rl
  exact rl this
 ·rw [Bool.and_eq_true,decide_eq_true_eq] at hl
  omega
 ·simp only [LN] at hl; omega
 ·rw [Bool.or_eq_false_iff] at hb
  rcases Nat.lt_succ_iff_lt_or_eq.1 hq with h1 | rfl
  ·exact hi.2 hb.1 q h1
  ·rw [YH]; exact hb.2
 ·simp only [LN] at hl; omega
 ·have e:i.2=L.length:=by simp only [LN] at hl; omega
  have:=hi.2 hb
  rwa [e] at this
 ·rw [Bool.and_eq_true] at hn
  have:=ab3 hs (hb (by simpa using hn.1))
  rw [this] at hn
  exact absurd hn.2 (by decide)
 ·have:=hS.1 (by simpa using h2)
  rw [this,Oa]
  rfl
theorem sr (r:ah) (forum:Int) (f:ai) (day:Int) (c_:Claim):(fun (x:Bool)=>(∀ x,x∈r.aI→(-9223372036854775808≤x.num∧x.num≤9223372036854775807)∧(-9223372036854775808≤x.den∧x.den≤9223372036854775807))→(x=true)) (lu r forum f day c_):=fun hP=>Sk.cI _ (Cu r forum f day c_ hP)
theorem DQ (r:ah) (forum:Int) (f:ai) (day:Int) (c_:Claim) (hw:∀ x,x∈r.aI→(-9223372036854775808≤x.num∧x.num≤9223372036854775807)∧(-9223372036854775808≤x.den∧x.den≤9223372036854775807)):(fQ r forum f day c_).a6 (fun _=>True):=by
 refine Sk.aG _ ?_
 unfold fQ
 simp only [Sk.gL,Sk.aA,reduceCtorEq,ON,kk,kp,k8,gE,Ou,kq,cQ,bB,Re,forall_eq,maxLen]
 intro _ hf hc
 obtain ⟨a1,a2,-,a4,a5,hF,a7,-,-⟩:=hf hw (by simpa using hc)
 have hS:f.Small:=hF.small
 refine ⟨⟨hF,hS,a2,a1,a4,a5⟩,fun _=>?_⟩
 generalize jC r forum f day=L
 refine ⟨⟨Nat.zero_le _,fun i hi hm hl=>⟨⟨?_,⟨hF,hS,a2,a1,a4,a5⟩,fun _=>?_⟩,fun _ _ _=>⟨?_,?_,?_⟩⟩⟩,fun _=>⟨⟨⟨Nat.zero_le _,fun q hq=>absurd hq (by omega)⟩,fun i hi hm=>⟨fun hl=>⟨fun _=>?_,fun _=>⟨?_,⟨?_,fun hb q hq=>?_⟩,?_⟩⟩,fun hl hb=>?_⟩⟩,fun b hb=>⟨⟨hF,hS,a2,a1,a4,a5⟩,fun _ _ _=>⟨hF,a7,hS,a2,a1,a4,a5⟩⟩⟩⟩
 ·rw [Bool.and_eq_true,decide_eq_true_eq] at hl; omega
 ·rw [Bool.and_eq_true,decide_eq_true_eq] at hl; omega
 ·rw [Bool.and_eq_true,decide_eq_true_eq] at hl; exact (ar (by omega) (by omega)).trans (by omega)
 ·rw [Bool.and_eq_true,decide_eq_true_eq] at hl; omega
 ·rw [Bool.and_eq_true,decide_eq_true_eq] at hl; omega
 ·simp only [LN] at hl; omega
 ·simp only [LN] at hl; exact (ar (by omega) (by omega)).trans (by omega)
 ·simp only [LN] at hl; omega
 ·rw [Bool.or_eq_false_iff] at hb
  rcases Nat.lt_succ_iff_lt_or_eq.1 hq with h1 | rfl
  ·exact hi.2 hb.1 q h1
  ·rw [YH]; exact hb.2
 ·simp only [LN] at hl; omega
 ·have e:i.2=L.length:=by simp only [LN] at hl; omega
  have:=hi.2 hb
  rwa [e] at this
def FW r forum f day c_:=kk tok mixed Tryz.func4 [av r.cells,iv forum,av f.cells,iv day,av c_.cells] (fun x=>bv x) true (fQ r forum f day c_) (lu r forum f day c_) (DQ r forum f day c_) (fun (x:Bool)=>(∀ x,x∈r.aI→(-9223372036854775808≤x.num∧x.num≤9223372036854775807)∧(-9223372036854775808≤x.den∧x.den≤9223372036854775807))→(x=true)) (sr r forum f day c_)
theorem DR (r:ah) (forum:Int) (f:ai) (day:Int) (c_:Claim) (hw:∀ x,x∈r.aI→(-9223372036854775808≤x.num∧x.num≤9223372036854775807)∧(-9223372036854775808≤x.den∧x.den≤9223372036854775807)):eC Tryz.prog 4 [av r.cells,iv forum,av f.cells,iv day,av c_.cells] [] (bv (lu r forum f day c_)) []:=(FW r forum f day c_).pf hw
theorem zk (RS:∀ (a0:ah) (a1:Int) (a2:ai) (a3:Int) (a4:Claim),(∀ x,x∈a0.aI→(-9223372036854775808≤x.num∧x.num≤9223372036854775807)∧(-9223372036854775808≤x.den∧x.den≤9223372036854775807))→lu a0 a1 a2 a3 a4=true) (zG:List (List D)) (h:Da TT [51,3,31,3,53] zG):eC Tryz.prog 4 (sy TT [51,3,31,3,53] zG) [] (.d (.v (.bool true))) []:=by
 obtain ⟨d0,d1,d2,d3,d4,rfl⟩:∃ d0 d1 d2 d3 d4,zG=[d0,d1,d2,d3,d4]:=by
  match zG,h with
  | [d0,d1,d2,d3,d4],_=>exact ⟨d0,d1,d2,d3,d4,rfl⟩
 obtain ⟨h0,h1,h2,h3,h4,-⟩:=h
 obtain ⟨x0,y0,w0⟩:=ah.of h0
 obtain ⟨x1,rfl,w1⟩:=h1.nZ rfl rfl
 obtain ⟨x2,y2,w2⟩:=ai.of h2
 obtain ⟨x3,rfl,w3⟩:=h3.nZ rfl rfl
 obtain ⟨x4,y4,w4⟩:=Claim.of h4
 have hf:=DR x0 x1 x2 x3 x4 (fun x h=>⟨(w0.aI x h).num,(w0.aI x h).den⟩)
 rw [RS x0 x1 x2 x3 x4 (fun x h=>⟨(w0.aI x h).num,(w0.aI x h).den⟩)] at hf
 exact eC.Mz hf ⟨lL.d y0.agg,lL.rfl',lL.d y2.agg,lL.rfl',lL.d y4.agg,trivial⟩
theorem Cv (a0:ah) (a1:Int) (a2:ai) (a3:Int) (a4:Claim) (h:∀ x,x∈a0.aI→(-9223372036854775808≤x.num∧x.num≤9223372036854775807)∧(-9223372036854775808≤x.den∧x.den≤9223372036854775807)):lu a0 a1 a2 a3 a4=true :=
 sr a0 a1 a2 a3 a4 h
end
end Go.Proofs.YtkbkoaoolojhaaaGreatDoor
