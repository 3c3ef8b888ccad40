/- Functions, as sketches. -/
import Derived.Test.YtonkchddcgcopaaGreatDoorSi
import Derived.Test.YtonkchddcgcopaaGreatDoorLc
import Derived.Test.YtonkchddcgcopaaGreatDoorLd
set_option linter.unusedSimpArgs false
set_option linter.unusedVariables false
set_option maxHeartbeats 1000000
set_option maxRecDepth 100000
namespace Go.Proofs.YtonkchddcgcopaaGreatDoor
noncomputable section
open Go Go.Av
theorem Ny (a b:Int):dN a b=jn [a,b] 1:=Cl [a,b]
theorem Ih (a b:Int):dN a b=0∨dN a b=1∨dN a b=2:=by
 rw [Ny]
 simp only [jn]
 repeat' split
 all_goals simp
theorem acW {a b:Int} (ha:a=0∨a=1∨a=2):dN a b=1↔a=1∧b≠0∧b≠2:=by
 rw [Ny]
 simp only [jn]
 rcases ha with rfl | rfl | rfl <;> (repeat' split) <;> simp_all
def Idle (x:cx) (c:Claim) (d:Int):Prop:=kK (dN (cN x c d) (kK (fj x 5 c d)))≠0∧kK (dN (cN x c d) (kK (fj x 5 c d)))≠2
theorem Qr (x:cx) (c:Claim):∀ (D:List Int) (st:Int),(st=0∨st=1∨st=2)→(D.foldl (awf x c) st=1↔st=1∧∀ d,d∈D→Idle x c d)
 | [],st,_=>by simp
 | d :: r,st,h=>by
  rw [List.foldl_cons,Qr x c r (awf x c st d) (Ih _ _)]
  unfold awf
  rw [acW h]
  simp only [List.mem_cons,forall_eq_or_imp,Idle,ne_eq]
  exact ⟨fun ⟨⟨a,b⟩,e⟩=>⟨a,b,e⟩,fun ⟨a,b,e⟩=>⟨⟨a,b⟩,e⟩⟩
theorem Vc {x:cx} {c:Claim} (h:c.state=1∨c.state=2) (D:List Int):zI x c D=1↔c.state=1∧∀ d,d∈D→Idle x c d:=Qr x c D _ (.inr h)
theorem Qs (k k' v:Int) (m:List (Int × Int)):cT (nB m k v) k' 0=if k'=k then v else cT m k' 0:=by
 unfold cT
 rw [H7]
 split <;> rfl
def wP (s:cS) (c:Claim):Prop:=c.bL=s.cW∧c.aH=s.cV∧c.sign=s.sign
structure Top (x:cx) (D:List Int) (l:List Claim) (n:Nat) (k:Int):Prop where
 has:cT (dx x D l n).2 k false=true↔∃ i,i < n∧wP x.s (l.getD i default)∧zI x (l.getD i default) D=k
 le:∀ i,i < n→wP x.s (l.getD i default)→zI x (l.getD i default) D=k→(l.getD i default).sum≤cT (dx x D l n).1 k 0
 ge:0≤cT (dx x D l n).1 k 0
 eq:cT (dx x D l n).1 k 0=0∨∃ i,i < n∧wP x.s (l.getD i default)∧zI x (l.getD i default) D=k∧(l.getD i default).sum=cT (dx x D l n).1 k 0
theorem Vd (x:cx) (D:List Int) (l:List Claim) (k:Int):∀ n,Top x D l n k
 | 0=>⟨⟨fun h=>(by simp [dx,cT,nJ] at h),fun ⟨i,h,_⟩=>absurd h (by omega)⟩,fun i h=>absurd h (by omega),by simp [dx,cT,nJ],.inl rfl⟩
 | n+1=>by
  obtain ⟨h1,h2,h3,h4⟩:=Vd x D l k n
  have sp:∀ {i:Nat},i < n+1→i < n∨i=n:=fun h=>Nat.lt_succ_iff_lt_or_eq.1 h
  by_cases hm:wP x.s (l.getD n default)
  ·have e:dx x D l (n+1)=(nB (dx x D l n).1 (zI x (l.getD n default) D) (bX (cT (dx x D l n).1 (zI x (l.getD n default) D) 0) (l.getD n default).sum),nB (dx x D l n).2 (zI x (l.getD n default) D) true):=by
    simp only [dx]; unfold I0; exact if_pos hm
   by_cases hk:k=zI x (l.getD n default) D
   ·have eb:cT (dx x D l (n+1)).2 k false=true:=by rw [e,UZ,if_pos hk]
    have ea:cT (dx x D l (n+1)).1 k 0=bX (cT (dx x D l n).1 k 0) (l.getD n default).sum:=by rw [e,Qs,if_pos hk,← hk]
    have hmx:∀ a b:Int,a≤bX a b∧b≤bX a b∧(bX a b=a∨bX a b=b):=fun a b=>by unfold bX; split <;> omega
    obtain ⟨m1,m2,m3⟩:=hmx (cT (dx x D l n).1 k 0) (l.getD n default).sum
    refine ⟨⟨fun _=>⟨n,by omega,hm,hk.symm⟩,fun _=>eb⟩,fun i hi hI hS=>?_,by rw [ea]; omega,?_⟩
    ·rw [ea]
     rcases sp hi with h | rfl
     ·have:=h2 i h hI hS; omega
     ·exact m2
    ·rw [ea]
     rcases m3 with h | h
     ·rw [h]
      rcases h4 with h4 | ⟨i,a,b,c,d⟩
      ·exact .inl h4
      ·exact .inr ⟨i,by omega,b,c,d⟩
     ·exact .inr ⟨n,by omega,hm,hk.symm,h.symm⟩
   ·have eb:cT (dx x D l (n+1)).2 k false=cT (dx x D l n).2 k false:=by rw [e,UZ,if_neg hk]
    have ea:cT (dx x D l (n+1)).1 k 0=cT (dx x D l n).1 k 0:=by rw [e,Qs,if_neg hk]
    refine ⟨?_,fun i hi hI hS=>?_,by rw [ea]; exact h3,?_⟩
    ·rw [eb,h1]
     exact ⟨fun ⟨i,a,b⟩=>⟨i,by omega,b⟩,fun ⟨i,a,b,c⟩=>by
      rcases sp a with h | rfl
      ·exact ⟨i,h,b,c⟩
      ·exact absurd c.symm hk⟩
    ·rw [ea]
     rcases sp hi with h | rfl
     ·exact h2 i h hI hS
     ·exact absurd hS.symm hk
    ·rw [ea]
     rcases h4 with h4 | ⟨i,a,b⟩
     ·exact .inl h4
     ·exact .inr ⟨i,by omega,b⟩
  ·have e:dx x D l (n+1)=dx x D l n:=by simp only [dx]; unfold I0; exact if_neg hm
   refine ⟨?_,fun i hi hI hS=>?_,by rw [e]; exact h3,?_⟩
   ·rw [e,h1]
    exact ⟨fun ⟨i,a,b⟩=>⟨i,by omega,b⟩,fun ⟨i,a,b,c⟩=>by
     rcases sp a with h | rfl
     ·exact ⟨i,h,b,c⟩
     ·exact absurd b hm⟩
   ·rw [e]
    rcases sp hi with h | rfl
    ·exact h2 i h hI hS
    ·exact absurd hI hm
   ·rw [e]
    rcases h4 with h4 | ⟨i,a,b⟩
    ·exact .inl h4
    ·exact .inr ⟨i,by omega,b⟩
def PC (s:cS) (D:List Int) (day:Int):List Move:=({ kind:=0,aL:=0,day:=s.day,no:=0 }:Move) :: (D.map fun d=>({ kind:=1,aL:=0,day:=s.day,no:=d }:Move))++[({ kind:=4,aL:=0,day:=day,no:=0 }:Move)]
theorem Yi (s:cS) (h0:0≤s.day∧s.day≤100000):∀ (D:List Int),(∀ d,d∈D→0≤d∧d < 7)→lx [s] (D.map fun d=>({ kind:=1,aL:=0,day:=s.day,no:=d }:Move)) (s.day,[1],[])=(List.replicate D.length 0,s.day,[1],[])
 | [],_=>rfl
 | d :: r,h=>by
  have hd:=h d (by simp)
  have e:Jp [s] (s.day,[1],[]) ({ kind:=1,aL:=0,day:=s.day,no:=d }:Move)=(0,s.day,[1],[]):=by
   unfold Jp uK
   rw [if_neg (by simp; omega),if_neg (by simp),if_neg (by simp),if_neg (by simp [BT])]
   simp [BT]
  rw [List.map_cons]
  simp only [lx,e]
  rw [Yi s h0 r (fun x hx=>h x (by simp [hx]))]
  rfl
theorem Yj {s:cS} {D:List Int} {day:Int} (h0:0≤s.day) (h1:s.day≤day) (h2:day≤100000) (hD:∀ d,d∈D→0≤d∧d < 7):lx [s] (PC s D day) (uY [s])=(List.replicate (D.length+2) 0,day,[3],[]):=by
 have e1:Jp [s] (uY [s]) ({ kind:=0,aL:=0,day:=s.day,no:=0 }:Move)=(0,s.day,[1],[]):=by
  unfold Jp uK uY
  rw [if_neg (by simp; omega),if_neg (by simp),if_neg (by simp [List.getD]; omega),if_neg (by simp [BT])]
  simp [BT]
 have e2:Jp [s] (s.day,[1],[]) ({ kind:=4,aL:=0,day:=day,no:=0 }:Move)=(0,day,[3],[]):=by
  unfold Jp uK
  rw [if_neg (by simp; omega),if_neg (by simp),if_neg (by simp; omega),if_neg (by simp [BT])]
  simp [BT]
 unfold PC
 rw [List.cons_append]
 simp only [lx,e1]
 rw [BV,Yi s ⟨h0,by omega⟩ D hD]
 simp only [lx,e2]
 rw [List.replicate_succ,← List.replicate_append_replicate (n:=D.length) (m:=1)]
 rfl
theorem Qt (aL:Int) (w:Bool) (az:List Move) (errors:List Int) (he:∀ i,i < az.length→errors.getD i default=0):∀ n,n≤az.length→Aa aL w az errors n=(az.take n).foldl (fun s m=>ng aL s m 0) (0,[],[],w)
 | 0,_=>rfl
 | n+1,h=>by
  rw [qU (by omega),List.foldl_append,← Qt aL w az errors he n (by omega)]
  simp only [Aa,List.foldl_cons,List.foldl_nil]
  rw [he n (by omega)]
theorem Ve (s:cS) (w:Bool):∀ (D R:List Int),(D.map fun d=>({ kind:=1,aL:=0,day:=s.day,no:=d }:Move)).foldl (fun s m=>ng 0 s m 0) (0,[],R,w)=(0,[],R++D,w)
 | [],R=>by simp
 | d :: r,R=>by
  rw [List.map_cons,List.foldl_cons]
  have e:ng 0 (0,[],R,w) ({ kind:=1,aL:=0,day:=s.day,no:=d }:Move) 0=(0,[],R++[d],w):=by
   unfold ng; rw [if_neg (by simp),if_pos rfl]
  rw [e,Ve s w r]
  simp
def counts (w:Bool) (D:List Int):List Int:=D.filter fun d=>w||d == 0||d == 1||d == 2
theorem abI {s:cS} {D:List Int} {day:Int} (h0:0≤s.day) (h1:s.day≤day) (h2:day≤100000) (hD:∀ d,d∈D→0≤d∧d < 7):xH [s] (PC s D day) 0=(day,counts (s.kind == 1) D,D,s.kind == 1):=by
 have hl:(PC s D day).length=D.length+2:=by simp [PC]
 unfold xH
 rw [Yj h0 h1 h2 hD,Qt _ _ _ _ (fun i hi=>by simp only [List.getD,List.getElem?_replicate]; split <;> rfl) _ (Nat.le_refl _),List.take_length]
 unfold PC
 rw [List.cons_append,List.foldl_cons]
 have e:ng 0 (0,[],[],(([s].getD (0:Int).toNat default).kind == 1)) ({ kind:=0,aL:=0,day:=s.day,no:=0 }:Move) 0=(0,[],[],s.kind == 1):=by
  unfold ng; rw [if_neg (by simp),if_neg (by simp),if_neg (by simp),if_neg (by simp)]; rfl
 rw [e,List.foldl_append,Ve]
 simp only [List.foldl_cons,List.foldl_nil,List.nil_append]
 unfold ng; rw [if_neg (by simp),if_neg (by simp),if_neg (by simp),if_pos rfl]
 rfl
theorem ZD {r:ah} {files:List ak} {s:cS} {az:List Move} (hc:nN r files [s] []=0) (hl:az.length≤100) (hs:(lx [s] az (uY [s])).2.2.1.getD 0 default=3):AG r files [s] az 0=(awT r files s 0 (xH [s] az 0).1 (xH [s] az 0).2.1,0):=by
 refine Kl r files [s] az 0 ?_ ⟨by omega,by simp⟩ hs
 have:=(ur r files [s] []).1 hc
 exact (ur r files [s] az).2 ⟨⟨this.1.1,this.1.2.1,hl⟩,this.2⟩
theorem Qu {r:ah} {files:List ak} {s:cS} {D:List Int} {day:Int} (hc:nN r files [s] []=0) (hl:D.length≤8) (h1:s.day≤day) (h2:day≤100000) (hD:∀ d,d∈D→0≤d∧d < 7):AG r files [s] (PC s D day) 0=(awT r files s 0 day (counts (s.kind == 1) D),0):=by
 have h0:0≤s.day:=(((ur r files [s] []).1 hc).2.2 0 (by simp)).2.2.2.2.2.2.1.1
 rw [ZD hc (by simp [PC]; omega) (by rw [Yj h0 h1 h2 hD]; rfl),abI h0 h1 h2 hD]
theorem abJ {r:ah} {forum:Int} {f:ak} {day:Int} (hF:cb r f) (hR:r.dg) {c:Claim} (h:c∈cG r forum f day):Gn c:=by
 rw [nz r forum f day hF] at h
 obtain ⟨c0,h0,rfl⟩:=List.mem_map.1 h
 have h1:=(List.mem_filter.1 h0).1
 have s:=(A6 r forum f day).Ro (fun x hx=>⟨(Cy hF hR hx).2.2.2.2.2.2.1,(Cy hF hR hx).2.2.2.2.2.1⟩) c0 h1
 unfold yx
 cases dr r forum f c0 day == 2 with
 | false=>exact s
 | true=>exact ⟨s.1,.inr rfl⟩
structure Mx (P:Claim→Prop) (l:List Claim) (n:Nat) (v:Int):Prop where
 ex:v = -1∨∃ i,i < n∧P (l.getD i default)∧v=(l.getD i default).sum
 le:∀ i,i < n→P (l.getD i default)→(l.getD i default).sum≤v
theorem Sm {k cur:Int} {bm:List (Int × Int) × List (Int × Bool)} (h:cT bm.2 1 false=true):sB k cur bm = { aL:=k,sum:=cT bm.1 1 0,au:=cur,state:=1 }:=if_pos h
theorem Yk {k cur:Int} {bm:List (Int × Int) × List (Int × Bool)} (h:¬ cT bm.2 1 false=true) (h2:cT bm.2 2 false=true):sB k cur bm = { aL:=k,sum:=cT bm.1 2 0,au:=cur,state:=2 }:=(if_neg h).trans (if_pos h2)
theorem Sn {k cur:Int} {bm:List (Int × Int) × List (Int × Bool)} (h:¬ cT bm.2 1 false=true) (h2:¬ cT bm.2 2 false=true):sB k cur bm = { aL:=k,sum:=0,au:=cur,state:=0 }:=(if_neg h).trans (if_neg h2)
def bQ (a b:aJ):Prop:=a.known=true→b=a
theorem bQ.rfl' (a:aJ):bQ a a:=fun _=>rfl
theorem bQ.unknown {a b:aJ} (h:a.known=false):bQ a b:=fun h2=>by rw [h] at h2; exact absurd h2 (by decide)
theorem EV {op:Int} {cs C0:List aJ} {ns ns':List (List Int)} (h:bQ (ct op cs) (ct op C0)):bQ (qZ op cs ns).1 (qZ op C0 ns').1:=by
 unfold qZ
 cases hk:(ct op cs).known with
 | false=>exact bQ.unknown rfl
 | true=>rw [h hk,hk]; exact bQ.rfl' _
theorem abK {a a':aJ} (h:bQ a a'):bQ (ct 3 [a]) (ct 3 [a']):=by
 rw [MB,MB]
 cases hk:a.known with
 | false=>exact bQ.unknown rfl
 | true=>rw [h hk,hk]; exact bQ.rfl' _
theorem ZE {op:Int} (zM:op=4∨op=5) {a a' b b':aJ} (ha:bQ a a') (hb:bQ b b'):bQ (ct op [a,b]) (ct op [a',b']):=by
 rw [HA op zM,HA op zM]
 dsimp only
 generalize (if op=5 then (1:Int) else 0)=z
 cases hka:a.known with
 | true =>
  have ea:=ha hka
  subst ea
  cases hkb:b.known with
  | true=>have eb:=hb hkb; subst eb; rw [hka,hkb]; exact bQ.rfl' _
  | false =>
   rw [hka]
   cases a'.n == z with
   | true=>simp only [Bool.true_and,Bool.true_or,cond_true]; exact bQ.rfl' _
   | false=>exact bQ.unknown rfl
 | false =>
  cases hkb:b.known with
  | false=>exact bQ.unknown rfl
  | true =>
   have eb:=hb hkb
   subst eb
   rw [hkb]
   cases b'.n == z with
   | true=>simp only [Bool.true_and,Bool.or_true,cond_true]; exact bQ.rfl' _
   | false=>exact bQ.unknown rfl
theorem Xe {op:Int} (zM:7≤op) {a a' b b':aJ} (ha:bQ a a') (hb:bQ b b'):bQ (ct op [a,b]) (ct op [a',b']):=by
 rw [Ah op zM,Ah op zM]
 cases hka:a.known with
 | true =>
  have ea:=ha hka
  subst ea
  cases hkb:b.known with
  | true=>have eb:=hb hkb; subst eb; rw [hka,hkb]; exact bQ.rfl' _
  | false=>exact bQ.unknown rfl
 | false=>exact bQ.unknown rfl
theorem Xf {a b:aJ} (h:bQ a b) (n:Int):bQ (O2 a n) (O2 b n):=by
 unfold O2
 cases hk:a.known with
 | false=>exact bQ.unknown rfl
 | true=>rw [h hk,hk]; exact bQ.rfl' _
theorem acX {a b:aJ} (ha:a.known=true) (hb:b.known=true) (h:(a.n == b.n)=true):a=b:=by
 obtain ⟨k,n⟩:=a
 obtain ⟨k',n'⟩:=b
 simp only at ha hb h
 rw [ha,hb,beq_iff_eq.1 h]
theorem abL {t:Term} {k:Int} (h:yC t k):∀ (fu:Nat) (m m':Machine),(∀ q:Nat,bQ (m.fW.getD q default) (m'.fW.getD q default))→t.depth≤fu→t.depth≤8→bQ (ae fu m t).1 (ae fu m' t).1:=by
 induction h with
 | int hn =>
  intro fu m m' _ hd _
  cases fu with
  | zero=>exact absurd hd (by simp [Term.depth,Term.fV])
  | succ fu=>rw [RM,RM]; exact bQ.rfl' _
 | @bool n hn =>
  intro fu m m' _ hd _
  cases fu with
  | zero=>exact absurd hd (by simp [Term.depth,Term.fV])
  | succ fu=>rw [MA,MA]; exact bQ.rfl' _
 | @var n hn =>
  intro fu m m' hm hd _
  cases fu with
  | zero=>exact absurd hd (by simp [Term.depth,Term.fV])
  | succ fu =>
   rw [RN,RN,MC m n hn,MC m' n hn]
   have h:=Xf (hm n.toNat) n
   cases hk:(O2 (m.fW.getD n.toNat default) n).known with
   | false=>exact bQ.unknown rfl
   | true=>rw [h hk,hk]; exact bQ.rfl' _
 | @not a _ ih =>
  intro fu m m' hm hd h8
  cases fu with
  | zero=>exact absurd hd (by simp [Term.depth,Term.fV])
  | succ fu =>
   rw [abi] at hd h8
   rw [RO,RO]
   exact EV (abK (ih fu m m' hm (by omega) (by omega)))
 | @aba op a b zM _ _ II GJ =>
  intro fu m m' hm hd h8
  cases fu with
  | zero=>exact absurd hd (by simp [Term.depth,Term.fV])
  | succ fu =>
   rw [HB] at hd h8
   rw [xq _ _ _ _ (by omega),xq _ _ _ _ (by omega)]
   exact EV (ZE zM (II fu m m' hm (by omega) (by omega)) (GJ fu m m' hm (by omega) (by omega)))
 | @ite a b c k ha _ _ II GJ ihc =>
  intro fu m m' hm hd h8
  cases fu with
  | zero=>exact absurd hd (by simp [Term.depth,Term.fV])
  | succ fu =>
   rw [abj] at hd h8
   have ia:=II fu m m' hm (by omega) (by omega)
   have ib:=GJ fu m m' hm (by omega) (by omega)
   have ic:=ihc fu m m' hm (by omega) (by omega)
   have t1:=(C8 ha fu m (by omega) (by omega)).1 rfl
   have t2:=(C8 ha fu m' (by omega) (by omega)).1 rfl
   rw [run_ite,run_ite]
   dsimp only
   cases hk:(ae fu m a).1.known with
   | true =>
    rw [ia hk,hk]
    simp only [cond_true]
    rcases t1 hk with e | e
    ·rw [e]; exact ic
    ·rw [e]; exact ib
   | false =>
    simp only [cond_false]
    unfold qZ
    rw [RQ]
    cases hb:(ae fu m b).1.known with
    | false=>exact bQ.unknown rfl
    | true =>
     cases hc:(ae fu m c).1.known with
     | false=>exact bQ.unknown rfl
     | true =>
      cases he:((ae fu m b).1.n == (ae fu m c).1.n) with
      | false=>exact bQ.unknown rfl
      | true =>
       have eb:=ib hb
       have ec:=ic hc
       have ebc:=acX hb hc he
       simp only [Bool.and_self,cond_true,hb]
       cases hk2:(ae fu m' a).1.known with
       | true =>
        simp only [cond_true]
        rcases t2 hk2 with e | e
        ·rw [e]
         show bQ _ (ae fu m' c).1
         rw [ec,← ebc]; exact bQ.rfl' _
        ·rw [e]
         show bQ _ (ae fu m' b).1
         rw [eb]; exact bQ.rfl' _
       | false =>
        simp only [cond_false]
        rw [RQ,eb,ec,hb,hc,he]
        simp only [Bool.and_self,cond_true,hb]
        exact bQ.rfl' _
 | _ =>
  intro fu m m' hm hd h8
  cases fu with
  | zero=>exact absurd hd (by simp [Term.depth,Term.fV])
  | succ fu =>
   rename_i a b _ _ II GJ
   rw [HB] at hd h8
   rw [xq _ _ _ _ (by omega),xq _ _ _ _ (by omega)]
   exact EV (Xe (by omega) (II fu m m' hm (by omega) (by omega)) (GJ fu m m' hm (by omega) (by omega)))
def SN (l l':List aJ):Prop:=l'.length=l.length∧∀ q:Nat,bQ (l.getD q default) (l'.getD q default)
theorem SN.rfl' (l:List aJ):SN l l:=⟨rfl,fun _=>bQ.rfl' _⟩
theorem SN.set {l l':List aJ} (h:SN l l') {x x':aJ} (hx:bQ x x') (i:Nat):SN (l.set i x) (l'.set i x'):=by
 refine ⟨by simp [h.1],fun q=>?_⟩
 by_cases hi:i < l.length
 ·by_cases e:q=i
  ·subst e
   rw [qQ l hi,qQ l' (by rw [h.1]; exact hi)]
   exact hx
  ·rw [qR l e,qR l' e]
   exact h.2 q
 ·rw [List.set_eq_of_length_le (by omega),List.set_eq_of_length_le (by rw [h.1]; omega)]
  exact h.2 q
theorem Vf {α:Type} {R:α→α→Prop} (c:Bool) {x y x' y':α} (h1:R x x') (h2:R y y'):R (bif c then x else y) (bif c then x' else y'):=by cases c <;> assumption
theorem Nz {α β:Type} {R:α→α→Prop} (hR:∀ a,R a a) (x:α ⊕ β) {k k':β→α} (h:∀ b,R (k b) (k' b)):R (iX x k) (iX x k'):=by
 cases x with
 | inl a=>exact hR a
 | inr b=>exact h b
theorem ZF (s:List dU) (v:fF):lG s v=s.any (fun a=>decide (a.at_≤v.sign)):=by
 refine Bool.eq_iff_iff.2 (Iff.trans (uv s v) ?_)
 simp only [rI,List.any_eq_true]
 constructor
 ·rintro ⟨q,hq,e⟩; exact ⟨_,vR hq _,e⟩
 ·rintro ⟨x,hx,e⟩
  obtain ⟨i,hi,rfl⟩:=List.getElem_of_mem hx
  exact ⟨i,hi,by simpa [List.getD,hi] using e⟩
theorem ZG (r:ah) (f:ak) (F:List Fact) (s h e due y y':Int) (hF:∀ k a,bQ (bB f k a) (bB { f with facts:=F } k a)) :
  SN (nQ r ⟨f,s,h,e,due,y⟩) (nQ r ⟨{ f with facts:=F },s,h,e,due,y'⟩):=by
 unfold nQ lI
 simp only [Sk.js,Sk.fB,Sk.dK,Sk.dn,Sk.XY,Sk.XZ,Sk.Rc,bH.IB,bH.Zd,bH.aaY,bH.rB,ig.AY,kk,kp,gE,ZF,cI]
 refine Vf _ (SN.rfl' _) (Vf _ (SN.rfl' _) (Nz SN.rfl' _ fun b=>Nz SN.rfl' _ fun b2=>Nz SN.rfl' _ fun b3=>?_))
 exact ((((SN.set (SN.rfl' _) (hF _ _) _).set (hF _ _) _).set (hF _ _) _).set (hF _ _) _).set (hF _ _) _
theorem ZH (t:Term) {l l':List aJ} (h:∀ q:Nat,bQ (l.getD q default) (l'.getD q default)):bQ (mO t l) (mO t l'):=by
 have e:∀ l,mO t l=bif (Ag t).2 != 0 then ⟨false,0⟩ else (oP ⟨l⟩ t).1:=fun l=>by kernel_rfl
 rw [e,e]
 cases hc:(Ag t).2 != 0 with
 | true=>exact bQ.rfl' _
 | false =>
  simp only [LN] at hc
  have hp:=JO t hc
  exact abL hp.1 _ _ _ h (Nat.le_refl _) hp.2
def findF (r:ah) (fo q:Int) (p:List Int) (l:List aJ):ma × List aJ :=
 bif (l.length:Int) == 0 then ((⟨⟨false,0⟩,-1,[],1⟩:ma),[]) else bif !(Ab q).2 then (⟨⟨false,0⟩,-1,[],1⟩,[]) else
   bif p.isEmpty then ((⟨⟨false,0⟩,-1,[],1⟩:ma),[]) else (fun w:List Int × Int=>bif w.2 == 0 then ((⟨⟨false,0⟩,w.1.getD (ar ((w.1.length:Int) - 1)).toNat default,w.1,w.2⟩:ma),l) else (⟨⟨false,0⟩,-1,w.1,w.2⟩,l)) (Ad r fo q p)
theorem find_eq (r:ah) (fo q:Int) (c:fF):pI r fo q c=findF r fo q (sM r fo { c with file:=ai c.file c.day }) (nQ r { c with file:=ai c.file c.day }):=by kernel_rfl
theorem Xg (r:ah) (fo q:Int) (p:List Int) {l l':List aJ} (h:SN l l'):(findF r fo q p l').1=(findF r fo q p l).1∧SN (findF r fo q p l).2 (findF r fo q p l').2:=by
 unfold findF
 rw [h.1]
 cases (l.length:Int) == 0 with
 | true=>exact ⟨rfl,SN.rfl' _⟩
 | false =>
  cases !(Ab q).2 with
  | true=>exact ⟨rfl,SN.rfl' _⟩
  | false =>
   cases p.isEmpty with
   | true=>exact ⟨rfl,SN.rfl' _⟩
   | false =>
    simp only [cond_false]
    cases (Ad r fo q p).2 == 0 with
    | true=>exact ⟨rfl,h⟩
    | false=>exact ⟨rfl,h⟩
theorem Sq (r:ah) (fo:Int) (f:ak) (F:List Fact) (s h d u y:Int):sM r fo ⟨{ f with facts:=F },s,h,d,u,y⟩=sM r fo ⟨f,s,h,d,u,y⟩:=by kernel_rfl
theorem Dm (f:ak) (F:List Fact) (d:Int):ai { f with facts:=F } d = { ai f d with facts:=F.filter (fun x=>decide (x.at_≥0)&&decide (x.at_ < ((ai f d).af.length:Int))) }:=by
 rw [iQ,iQ]
def KI (kind at_:Int) (x:Fact) (s:Unit):aJ ⊕ Unit:=bif (x.kind == kind)&&(x.at_ == at_) then .inl (bif x.n == 0 then ⟨true,0⟩ else ⟨true,1⟩) else .inr ()
theorem Xh (f:ak) (kind at_:Int):GA f kind at_=walk (KI kind at_) (fun _=>⟨false,0⟩) f.facts ():=by
 simp only [GA,ua,Sk.dK,Sk.gd,Sk.iO,Sk.fB,Sk.js,Sk.l6,Sk.dn,ig.AY,kk,kp]
 refine (dT f.facts (fun s i=>i) (KI kind at_) id _ (fun s i hi=>?_) (fun s=>?_) (by simp) ()).trans rfl
 ·rw [decide_eq_true (by omega),cond_true]
  unfold KI
  cases (((f.facts.getD i default).kind == kind)&&((f.facts.getD i default).at_ == at_)) with
  | false=>rfl
  | true=>cases (f.facts.getD i default).n == 0 <;> rfl
 ·rw [decide_eq_false (by omega),cond_false]
theorem Vg (b:Bool):u1 b=bif b then ⟨true,1⟩ else ⟨true,0⟩:=by cases b <;> kernel_rfl
theorem Sr (f:ak) (kind at_:Int):GA f kind at_=bB f kind at_:=by
 rw [Xh,xm]
 congr 1
 funext x s
 unfold KI fb
 rw [Vg]
 cases hn:x.n == 0 with
 | true=>have:(x.n != 0)=false:=by simpa [bne] using hn
      rw [this]; rfl
 | false=>have:(x.n != 0)=true:=by simp [bne,hn]
       rw [this]; rfl
def yz (x y:Fact):Bool:=decide (y.at_ < x.at_)||((y.at_ == x.at_)&&decide (y.kind < x.kind))
def wQ (x y:Fact):Bool:=decide (y.at_ > x.at_)||((y.at_ == x.at_)&&decide (y.kind > x.kind))
theorem Ss (f:ak) (x:Fact):pS f x=bif (bB f x.kind x.at_).known then f else { f with facts:=f.facts.filter (yz x)++[x]++f.facts.filter (wQ x) }:=by
 rw [← Sr]
 simp only [pS,ub,Sk.dK,Sk.gd,Sk.iO,Sk.fB,Sk.js,Sk.l6,Sk.dn,ig.AY,kk,kp,ET]
 congr 1
 refine (dT f.facts (fun s i=>(s,i)) (fun y s=>.inr (bif yz x y then s++[y] else s)) id _ (fun s i hi=>?_) (fun s=>?_) (by simp) []).trans ?_
 ·have e:decide ((i:Int) < (f.facts.length:Int))=true:=decide_eq_true (by omega)
  simp only [e,cond_true]
  unfold yz
  cases (decide ((f.facts.getD i default).at_ < x.at_)||(((f.facts.getD i default).at_ == x.at_)&&decide ((f.facts.getD i default).kind < x.kind))) <;> rfl
 ·have e:decide ((f.facts.length:Int) < (f.facts.length:Int))=false:=decide_eq_false (by omega)
  simp only [e,cond_false]; rfl
 ·rw [j4,qW]
  simp only [id,List.nil_append]
  refine (dT f.facts (fun s i=>(s,i)) (fun y s=>.inr (bif wQ x y then s++[y] else s)) id _ (fun s i hi=>?_) (fun s=>?_) (by simp) _).trans ?_
  ·have e:decide ((i:Int) < (f.facts.length:Int))=true:=decide_eq_true (by omega)
   simp only [e,cond_true]
   unfold wQ
   cases (decide ((f.facts.getD i default).at_ > x.at_)||(((f.facts.getD i default).at_ == x.at_)&&decide ((f.facts.getD i default).kind > x.kind))) <;> rfl
  ·have e:decide ((f.facts.length:Int) < (f.facts.length:Int))=false:=decide_eq_false (by omega)
   simp only [e,cond_false]; rfl
  ·rw [j4,qW]; rfl
theorem rj {α σ β:Type} (step:α→σ→β ⊕ σ) (fin:σ→β):∀ {l:List α},(∀ y,y∈l→∀ s,step y s=.inr s)→∀ s,walk step fin l s=fin s
 | [],_,_=>rfl
 | y :: r,h,s=>by
  unfold walk
  rw [h y (by simp)]
  exact rj step fin (fun z hz=>h z (by simp [hz])) s
theorem ZI {p q:Fact→Bool} {k a:Int} (x:Fact) (f:List Fact) (hx:(walk (fb x.kind x.at_) (fun _=>(⟨false,0⟩:aJ)) f ()).known=false)
  (hp:p=yz x) (hq:q=wQ x):bQ (walk (fb k a) (fun _=>⟨false,0⟩) f ()) (walk (fb k a) (fun _=>⟨false,0⟩) (f.filter p++[x]++f.filter q) ()):=by
 subst hp; subst hq
 by_cases h:x.kind=k∧x.at_=a
 ·rw [h.1,h.2] at hx
  intro hk
  rw [hx] at hk
  exact absurd hk (by decide)
 ·have hsx:∀ s,fb k a x s=.inr s:=fun s=>by
   unfold fb
   have:((x.kind == k)&&(x.at_ == a))=false:=by
    simp only [LN]
    by_cases c:x.kind=k
    ·exact .inr (fun e=>h ⟨c,e⟩)
    ·exact .inl c
   rw [this]; rfl
  have Yl:∀ (y:Fact) (s:Unit),(y.kind=k→y.at_=a→False)→fb k a y s=.inr s:=fun y s hy=>by
   unfold fb
   have:((y.kind == k)&&(y.at_ == a))=false:=by
    simp only [LN]
    by_cases c:y.kind=k
    ·exact .inr (fun e=>hy c e)
    ·exact .inl c
   rw [this]; rfl
  have e:walk (fb k a) (fun _=>(⟨false,0⟩:aJ)) (f.filter (yz x)++[x]++f.filter (wQ x)) ()=walk (fb k a) (fun _=>⟨false,0⟩) f ():=by
   rw [List.append_assoc,BP]
   by_cases c:a < x.at_∨(a=x.at_∧k < x.kind)
   ·rw [show (fun s=>walk (fb k a) (fun _=>(⟨false,0⟩:aJ)) ([x]++f.filter (wQ x)) s)=fun _=>⟨false,0⟩ from funext fun s=>by
     refine rj _ _ (fun y hy s=>?_) s
     rcases List.mem_append.1 hy with hy | hy
     ·simp only [List.mem_singleton] at hy
      subst hy
      exact hsx s
     ·have:=(List.mem_filter.1 hy).2
      unfold wQ at this
      simp only [LN] at this
      exact Yl y s (fun e1 e2=>by omega)]
    refine tN _ _ _ _ (fun y s hy=>Yl y s (fun e1 e2=>?_)) ()
    unfold yz at hy
    simp only [LN] at hy
    omega
   ·rw [rj _ _ (fun y hy s=>?_)]
    ·show walk _ _ ([x]++_) ()=_
     rw [BP,rj _ _ (fun y hy s=>?_)]
     ·refine tN _ _ _ _ (fun y s hy=>Yl y s (fun e1 e2=>?_)) ()
      unfold wQ at hy
      simp only [LN] at hy
      omega
     ·simp only [List.mem_singleton] at hy
      subst hy
      exact hsx s
    ·have:=(List.mem_filter.1 hy).2
     unfold yz at this
     simp only [LN] at this
     exact Yl y s (fun e1 e2=>by omega)
  rw [e]
  exact bQ.rfl' _
theorem Xi (f:ak) (x:Fact) (k a:Int):bQ (bB f k a) (bB (pS f x) k a):=by
 rw [Ss]
 cases h:(bB f x.kind x.at_).known with
 | true=>exact bQ.rfl' _
 | false =>
  rw [cond_false,xm,xm]
  rw [xm] at h
  exact ZI x f.facts h rfl rfl
theorem EW (r:ah) (fo q:Int) (f:ak) (F:List Fact) (y:Int):tS r fo q { f with facts:=F } y=tS r fo q f y:=rfl
theorem NA (f:ak) (F:List Fact):nR { f with facts:=F }=nR f:=by kernel_rfl
theorem iu (r:ah) (fo:Int) (f:ak) (F:List Fact) (d:Int):bJ r fo { f with facts:=F } d=bJ r fo f d:=by
 rw [IP,IP,Dm f F d,EW,NA]
theorem Vh {f:ak} {F:List Fact} (y:Int) (h:∀ k a,bQ (bB f k a) (bB { f with facts:=F } k a)):∀ k a,bQ (bB (ai f y) k a) (bB (ai { f with facts:=F } y) k a):=by
 intro k a
 by_cases c:0≤a∧a < (ai f y).af.length
 ·rw [X5 f y k a c,X5 { f with facts:=F } y k a (by rw [Dm f F]; exact c)]
  exact h k a
 ·refine bQ.unknown ?_
  rw [xm]
  rw [rj _ _ (fun x hx s=>?_)]
  rw [iQ] at hx c
  dsimp only at hx c
  have:=(List.mem_filter.1 hx).2
  simp only [LN] at this
  unfold fb
  have e:(x.at_ == a)=false:=by
   simp only [LN]
   intro e
   subst e
   exact c ⟨this.1,this.2⟩
  rw [e,Bool.and_false,cond_false]
def Xj (f g:ak):Prop:=∃ F,g = { f with facts:=F }∧∀ k a,bQ (bB f k a) (bB { f with facts:=F } k a)
theorem Xj.refl (f:ak):Xj f f:=⟨f.facts,rfl,fun _ _=>bQ.rfl' _⟩
theorem bQ.trans' {a b c:aJ} (h:bQ a b) (h2:bQ b c):bQ a c:=fun hk=>by
 have e:=h hk
 rw [h2 (by rw [e]; exact hk),e]
theorem Xk (f:ak) (x:Fact):∃ F,pS f x = { f with facts:=F }:=by
 rw [Ss]
 cases (bB f x.kind x.at_).known with
 | true=>exact ⟨f.facts,rfl⟩
 | false=>exact ⟨_,rfl⟩
theorem NB {x:Fact}:∀ (l:List Fact),(l.filter (yz x)).length+(l.filter (wQ x)).length≤l.length
 | []=>by simp
 | y :: l=>by
  have ih:=NB (x:=x) l
  have hd:yz x y=true→wQ x y=true→False:=by
   unfold yz wQ
   simp only [LN]
   omega
  simp only [List.filter_cons]
  split <;> split <;> simp only [List.length_cons] <;> first | omega | (exfalso; apply hd <;> assumption)
theorem abM (f:ak) (x:Fact):(pS f x).facts.length≤f.facts.length+1:=by
 rw [Ss]
 cases (bB f x.kind x.at_).known with
 | true=>exact Nat.le_succ _
 | false =>
  have:=NB (x:=x) f.facts
  simp only [cond_false,List.length_append,List.length_cons,List.length_nil]
  omega
theorem Xj.step {f g:ak} (h:Xj f g) (x:Fact):Xj f (pS g x):=by
 obtain ⟨F,rfl,hF⟩:=h
 obtain ⟨G,hG⟩:=Xk { f with facts:=F } x
 refine ⟨G,hG,fun k a=>(hF k a).trans' ?_⟩
 have:=Xi { f with facts:=F } x k a
 rw [hG] at this
 exact this
def lg (a b:Int):Prop:=a≠2→b=a
theorem lg.rfl' (a:Int):lg a a:=fun _=>rfl
theorem lg.op {a b:Int} (h:a=2):lg a b:=fun k=>absurd h k
def SLe (a b:ma):Prop:=b=a∨(a.err=0∧a.cell.known=false)
theorem Vi (o:Order) (q:Int) {l l':List aJ} (h:∀ q:Nat,bQ (l.getD q default) (l'.getD q default)):kr o q l'=kr o q l∨((kr o q l).2=0∧(kr o q l).1.known=false):=by
 have e:∀ l,kr o q l=bif (jy o q).2 != 0 then (⟨false,0⟩,(jy o q).2) else
  bif (Ab q).1 == 0&&(mO (jy o q).1 l).known then (⟨(mO (jy o q).1 l).known,cq (bX (mO (jy o q).1 l).n 0) 20000⟩,0) else (mO (jy o q).1 l,0):=fun l=>by kernel_rfl
 rw [e,e]
 have hm:=ZH (jy o q).1 h
 cases (jy o q).2 != 0 with
 | true=>exact .inl rfl
 | false =>
  simp only [cond_false]
  generalize mO (jy o q).1 l=x at hm ⊢
  generalize mO (jy o q).1 l'=x' at hm ⊢
  cases hk:x.known with
  | true=>rw [hm hk]; exact .inl (by rw [hk])
  | false=>rw [Bool.and_false,cond_false]; exact .inr ⟨rfl,hk⟩
def sn (f:ak) (F:List Fact):Prop:=∀ k a,bQ (bB f k a) (bB { f with facts:=F } k a)
theorem wR (r:ah) (fo q:Int) {f:ak} {F:List Fact} (s h e due y:Int) (hm:sn f F) :
  SLe (nk r fo q ⟨f,s,h,e,due,y⟩) (nk r fo q ⟨{ f with facts:=F },s,h,e,due,y⟩):=by
 have hF:=Vh y hm
 unfold SLe
 rw [abl,abl,find_eq,find_eq]
 dsimp only
 rw [Dm f F y] at hF ⊢
 rw [Sq r fo (ai f y)]
 have hv:=ZG r (ai f y) _ s h e due y y hF
 obtain ⟨h1,h2⟩:=Xg r fo q (sM r fo ⟨ai f y,s,h,e,due,y⟩) hv
 rw [h1]
 generalize (findF r fo q (sM r fo ⟨ai f y,s,h,e,due,y⟩) (nQ r ⟨ai f y,s,h,e,due,y⟩))=w at h2 ⊢
 cases w.1.order != -1 with
 | true =>
  rw [cond_true,cond_true]
  rcases Vi (r.aE.getD w.1.order.toNat default) q h2.2 with k | k
  ·rw [k]; exact .inl (Eq.refl _)
  ·exact .inr k
 | false =>
  rw [cond_false,cond_false]
  exact .inl (Eq.refl _)
theorem Vj {a:ma} (h:a.err=0∧a.cell.known=false):fS a=2:=by
 have e:fS a=bif a.err != 0 then 0 else bif !a.cell.known then 2 else bif a.cell.n != 0 then 1 else 0:=by kernel_rfl
 rw [e,h.1,h.2]; rfl
theorem SLe.tri {a b:ma} (h:SLe a b):lg (fS a) (fS b):=by
 rcases h with h | h
 ·rw [h]; exact lg.rfl' _
 ·exact .op (Vj h)
def uR (f:ak) (F:List Fact) (d:Int):List Fact:=F.filter (fun x=>decide (x.at_≥0)&&decide (x.at_ < ((ai f d).af.length:Int)))
theorem EX (f:ak) (F:List Fact) (d:Int):ai { f with facts:=F } d = { ai f d with facts:=uR f F d }:=Dm f F d
theorem sn.at {f:ak} {F:List Fact} (h:sn f F) (d:Int):sn (ai f d) (uR f F d):=by
 have:=Vh d h
 rw [EX f F d] at this
 exact this
def vF (v:cP) (F:List Fact):cP:={ v with f:={ v.f with facts:=F } }
theorem zJ {v:cP} {F:List Fact} (h:sn v.f F) (q:Int):SLe (bS v q) (bS (vF v F) q):=by
 have e:∀ v,bS v q=nk v.r v.forum q ⟨v.f,v.sign,v.sign,-1,v.due,v.day⟩:=fun v=>by kernel_rfl
 rw [e,e]
 exact wR v.r v.forum q v.sign v.sign (-1) v.due v.day h
theorem Su (v:cP) (a:ma) (fr:Int):cJ v a fr=bif a.err != 0 then ⟨true,9223372036854775807⟩ else bif !a.cell.known then ⟨false,0⟩ else bif (yh (v.r.aN.getD v.f.aU.AZ.toNat default) fr a.cell.n).2 != 0 then ⟨true,9223372036854775807⟩ else ⟨true,(yh (v.r.aN.getD v.f.aU.AZ.toNat default) fr a.cell.n).1⟩:=by kernel_rfl
theorem Sv (v:cP) (F:List Fact) (a:ma) (fr:Int):cJ (vF v F) a fr=cJ v a fr:=by rw [Su,Su]; rfl
theorem Ii (v:cP) {a:ma} (h:a.err=0∧a.cell.known=false) (fr:Int):cJ v a fr=⟨false,0⟩:=by rw [Su,h.1,h.2]; rfl
theorem Ij (v:cP) (on:Int) (t:sA):cQ v on t=bif !t.known then 2 else bif (on != (-1))&&(decide (on≤t.last)) then 1 else bif (on != (-1))||(decide (v.day > t.last)) then 0 else 2:=by kernel_rfl
theorem Ik (v:cP) (F:List Fact) (on:Int) (t:sA):cQ (vF v F) on t=cQ v on t:=by rw [Ij,Ij]; rfl
theorem Vk (v:cP) (F:List Fact) (k fr:Int):ed (vF v F) k fr=ed v k fr:=by kernel_rfl
theorem Xl (v:cP) (F:List Fact):dp (vF v F)=dp v:=by kernel_rfl
theorem AN (v:cP) (F:List Fact):bM (vF v F)=bM v:=by kernel_rfl
theorem acY (v:cP) (F:List Fact):gz (vF v F)=gz v:=by
 have e:∀ v,gz v=(fun x1:ma=>bif x1.err != 0 then (⟨true,9223372036854775807⟩:sA) else bif !x1.cell.known then ⟨false,0⟩ else bif decide ((ar (v.f.aU.day+x1.cell.n)) > 100000) then ⟨true,9223372036854775807⟩ else ⟨true,ar (v.f.aU.day+x1.cell.n)⟩) (tS v.r v.forum 7 v.f v.day):=fun v=>by kernel_rfl
 rw [e,e]
 rw [show tS (vF v F).r (vF v F).forum 7 (vF v F).f (vF v F).day=tS v.r v.forum 7 v.f v.day from EW v.r v.forum 7 v.f F v.day]
 rfl
theorem NC (l:List Int):dz l=if (0:Int)∈l then 0 else if (2:Int)∈l then 2 else 1:=by
 have e:dz l=bif bZ l 0 then 0 else bif bZ l 2 then 2 else 1:=by kernel_rfl
 rw [e]
 have h0:=contains_iff l 0
 have h2:=contains_iff l 2
 by_cases a:(0:Int)∈l
 ·rw [if_pos a,h0.2 a]; rfl
 ·rw [if_neg a,Bool.eq_false_iff.2 (fun x=>a (h0.1 x))]
  by_cases b:(2:Int)∈l
  ·rw [if_pos b,h2.2 b]; rfl
  ·rw [if_neg b,Bool.eq_false_iff.2 (fun x=>b (h2.1 x))]; rfl
theorem KJ {a a' b b' c c':Int} (ha:lg a a') (hb:lg b b') (hc:lg c c'):lg (dz [a,b,c]) (dz [a',b',c']):=by
 unfold lg at *
 rw [NC,NC]
 simp only [List.mem_cons,List.not_mem_nil,or_false]
 intro k
 by_cases z:0=a∨0=b∨0=c
 ·have z':0=a'∨0=b'∨0=c':=by
   rcases z with z | z | z
   ·exact .inl (by rw [ha (by omega)]; exact z)
   ·exact .inr (.inl (by rw [hb (by omega)]; exact z))
   ·exact .inr (.inr (by rw [hc (by omega)]; exact z))
  rw [if_pos z,if_pos z']
 ·rw [if_neg z] at k ⊢
  by_cases t:2=a∨2=b∨2=c
  ·rw [if_pos t] at k; exact absurd rfl k
  ·rw [ha (by omega),hb (by omega),hc (by omega),if_neg z]
theorem acZ {a b b':Int} (hb:lg b b'):lg (dz [a,b]) (dz [a,b']):=by
 have e:∀ b,dz [a,b]=dz [a,a,b]:=fun b=>by rw [NC,NC]; simp
 rw [e,e]
 exact KJ (lg.rfl' _) (lg.rfl' _) hb
def Vl (k0 rf du:Bool) (t1 b5 t2:Int):Int:=bif k0 then t1 else bif rf then b5 else bif du then dz [b5,2] else dz [b5,t2]
theorem GB (v:cP):dA v=Vl (v.f.aU.df.kind == 0) (dp v != (-1)) (v.due == (-1)) (cQ v (ed v 2 0) (gz v)) (bif v.f.aU.df.kind == 1 then cQ v (nR v.f) (gz v) else 1) (cQ v (ed v 2 v.due) (cJ v (bS v 10) v.due)):=by
 unfold dA dL Vl
 dsimp +instances only [Sk.dK,Sk.fB,Sk.js,Sk.dn,ig.AY,kk,kp,bH.IB,bH.rB,eC,jM,fQ,pK,fh,iD,bo,cp]
 cases v.f.aU.df.kind == 0 <;> cases v.f.aU.df.kind == 1 <;> rfl
theorem GC {v:cP} {F:List Fact} (h:sn v.f F):lg (dA v) (dA (vF v F)):=by
 rw [GB,GB,Xl,acY,Vk,Vk,Ik,Ik,Ik,show nR (vF v F).f=nR v.f from NA v.f F]
 have ht:lg (cQ v (ed v 2 v.due) (cJ v (bS v 10) v.due)) (cQ v (ed v 2 v.due) (cJ (vF v F) (bS (vF v F) 10) v.due)):=by
  rcases zJ h 10 with e | e
  ·rw [e,Sv]; exact lg.rfl' _
  ·rw [Ii v e]; exact .op (by rw [Ij]; rfl)
 show lg (Vl (v.f.aU.df.kind == 0) (dp v != (-1)) (v.due == (-1)) _ _ _) (Vl (v.f.aU.df.kind == 0) (dp v != (-1)) (v.due == (-1)) _ _ _)
 unfold Vl
 cases v.f.aU.df.kind == 0 with
 | true=>rw [cond_true,cond_true]; exact lg.rfl' _
 | false =>
  rw [cond_false,cond_false]
  cases dp v != (-1) with
  | true=>rw [cond_true,cond_true]; exact lg.rfl' _
  | false =>
   rw [cond_false,cond_false]
   cases v.due == (-1) with
   | true=>rw [cond_true,cond_true]; exact lg.rfl' _
   | false=>rw [cond_false,cond_false]; exact acZ ht
def GD (P:bD→Bool) (t:Int) (a:bD) (s:Int):Int ⊕ Int:=bif P a then .inr s else bif a.form == 1 then (bif t == 1 then .inl 1 else bif t == 2 then .inr 2 else .inr s) else .inl 1
def uS (P:bD→Bool) (t:Int) (l:List bD) (s:Int):Int:=walk (GD P t) (fun s=>s) l s
theorem AO (P:bD→Bool) (t:Int) (a:bD) (l:List bD) (s:Int):uS P t (a :: l) s=bif P a then uS P t l s else bif a.form == 1 then (bif t == 1 then 1 else bif t == 2 then uS P t l 2 else uS P t l s) else 1:=by
 unfold uS
 simp only [walk]
 unfold GD
 cases P a <;> cases a.form == 1 <;> cases t == 1 <;> cases t == 2 <;> rfl
theorem CN (P:bD→Bool) (t:Int):∀ (l:List bD) (s:Int),uS P 2 l 2=1→uS P t l s=1
 | [],s,h=>absurd (show (2:Int)=1 from h) (by decide)
 | a :: l,s,h=>by
  rw [AO] at h ⊢
  cases hp:P a with
  | true=>rw [hp] at h; exact CN P t l s h
  | false =>
   rw [hp] at h
   cases hq:a.form == 1 with
   | false=>rfl
   | true =>
    rw [hq] at h
    have h:=show uS P 2 l 2=1 from h
    cases t == 1 with
    | true=>rfl
    | false =>
     cases t == 2 with
     | true=>exact CN P t l 2 h
     | false=>exact CN P t l s h
theorem ND (P:bD→Bool):∀ (l:List bD),uS P 2 l 2≠2→uS P 2 l 2=1
 | [],h=>absurd rfl h
 | a :: l,h=>by
  rw [AO] at h ⊢
  cases hp:P a with
  | true=>rw [hp] at h; exact ND P l h
  | false =>
   rw [hp] at h
   cases hq:a.form == 1 with
   | false=>rfl
   | true=>rw [hq] at h; exact ND P l h
theorem Ym (P:bD→Bool) (t:Int):∀ (l:List bD) (s:Int),lg (uS P 2 l s) (uS P t l s)
 | [],s=>lg.rfl' _
 | a :: l,s=>by
  rw [AO,AO]
  cases P a with
  | true=>exact Ym P t l s
  | false =>
   cases a.form == 1 with
   | false=>exact lg.rfl' _
   | true =>
    intro h
    have h:=show uS P 2 l 2≠2 from h
    have h1:=ND P l h
    refine Eq.trans ?_ (show (1:Int)=uS P 2 l 2 from h1.symm)
    cases t == 1 with
    | true=>rfl
    | false =>
     cases t == 2 with
     | true=>exact CN P t l 2 h1
     | false=>exact CN P t l s h1
theorem GF (v:cP):dC v=(fun p:sA=>bif !p.known then 2 else uS (fun a=>(((a.kind != 4)||(a.cM != v.f.aU.mZ))||(decide (a.day < bM v)))||(decide (a.day > p.last))) (fS (bS v 9)) v.f.aw (bif decide (v.day≤p.last) then 2 else 0)) (cJ v (bS v 10) (bM v)):=by
 unfold dC dM
 dsimp +instances only [Sk.dK,Sk.gd,Sk.iO,Sk.fB,Sk.js,Sk.l6,Sk.dn,ig.AY,kk,kp,bH.IB,cu,cp,bo,eZ]
 generalize cJ v (bS v 10) (bM v)=p
 generalize fS (bS v 9)=t
 cases p.known with
 | false=>rfl
 | true =>
  have key:∀ (s0:Int) (d:Int ⊕ Int),iX (iter (fun i6:Int × Nat=>bif decide ((i6.2:Int) < ((v.f.aw.length:Nat):Int)) then
    bif ((((((v.f.aw.getD i6.2 default).kind) != 4)||(((v.f.aw.getD i6.2 default).cM) != v.f.aU.mZ))||(decide (((v.f.aw.getD i6.2 default).day) < bM v)))||(decide (((v.f.aw.getD i6.2 default).day) > p.last))) then Sum.inr (i6.1,i6.2+1) else
    iX (bif ((v.f.aw.getD i6.2 default).form) == 1 then (Sum.inr t:((Int ⊕ Int) ⊕ (Int × Nat)) ⊕ Int) else Sum.inr 1) fun b7=>bif b7 == 1 then Sum.inl (Sum.inl 1) else bif b7 == 2 then Sum.inr (2,i6.2+1) else Sum.inr (i6.1,i6.2+1)
    else Sum.inl (Sum.inr i6.1)) d (v.f.aw.length - 0+1) (s0,0)) (fun b=>b)=uS (fun a=>(((a.kind != 4)||(a.cM != v.f.aU.mZ))||(decide (a.day < bM v)))||(decide (a.day > p.last))) t v.f.aw s0:=by
   intro s0 d
   refine dT v.f.aw (fun s i=>(s,i)) (GD (fun a=>(((a.kind != 4)||(a.cM != v.f.aU.mZ))||(decide (a.day < bM v)))||(decide (a.day > p.last))) t) (fun s=>s) (fun b=>b) (fun s i hi=>?_) (fun s=>?_) (by omega) s0
   ·dsimp only
    rw [decide_eq_true (by omega),cond_true]
    unfold GD
    dsimp only
    cases ((((((v.f.aw.getD i default).kind) != 4)||(((v.f.aw.getD i default).cM) != v.f.aU.mZ))||(decide (((v.f.aw.getD i default).day) < bM v)))||(decide (((v.f.aw.getD i default).day) > p.last))) with
    | true=>rfl
    | false =>
     cases ((v.f.aw.getD i default).form) == 1 with
     | false=>rfl
     | true=>simp only [cond_true,cond_false,iX]; cases t == 1 <;> cases t == 2 <;> rfl
   ·dsimp only
    rw [decide_eq_false (by omega),cond_false]
  cases decide (v.day≤p.last) with
  | true=>exact key 2 _
  | false=>exact key 0 _
theorem Sw {v:cP} {F:List Fact} (h:sn v.f F):lg (dC v) (dC (vF v F)):=by
 rw [GF,GF,AN]
 rcases zJ h 10 with e | e
 ·rw [e,Sv]
  generalize cJ v (bS v 10) (bM v)=p
  cases hp:p.known with
  | false=>exact .op (by dsimp only; rw [hp]; rfl)
  | true =>
   dsimp only
   rw [hp,Bool.not_true,cond_false,cond_false]
   rcases zJ h 9 with e9 | e9
   ·rw [e9]; exact lg.rfl' _
   ·rw [Vj e9]; exact Ym _ _ _ _
 ·exact .op (by rw [Ii v e]; rfl)
theorem Qv {s s':ma} {a a':Int} (h:lg (fS s) (fS s')) (ha:lg a a'):lg (jm s a) (jm s' a'):=by
 have e:∀ s a,jm s a=bif (fS s == 0)||(a == 1) then 1 else bif fS s == 2 then 2 else a:=fun s a=>by kernel_rfl
 rw [e,e]
 generalize fS s=t at h
 generalize fS s'=t' at h
 intro k
 by_cases c:t=0∨a=1
 ·have c':t'=0∨a'=1:=by
   rcases c with c | c
   ·exact .inl (by rw [h (by omega)]; exact c)
   ·exact .inr (by rw [ha (by omega)]; exact c)
  rw [show ((t == 0)||(a == 1))=true by simpa using c,show ((t' == 0)||(a' == 1))=true by simpa using c']; rfl
 ·have cf:((t == 0)||(a == 1))=false:=by simpa using c
  rw [cf,cond_false] at k
  by_cases t2:t=2
  ·rw [t2] at k; exact absurd rfl k
  ·rw [show (t == 2)=false by simpa using t2,cond_false] at k
   rw [h t2,ha k]
theorem Vm {v:cP} {F:List Fact} (h:sn v.f F):lg (dR v) (dR (vF v F)):=by
 rcases zJ h 12 with e | e
 ·intro _
  unfold dR di
  dsimp +instances only [Sk.dK,Sk.gd,Sk.iO,Sk.fB,Sk.js,Sk.l6,Sk.dn,ig.AY,kk,kp,bH.Zd,cu,cp,bo]
  rw [e,AN]
  simp only [Sv]
  rfl
 ·refine .op ?_
  unfold dR di
  dsimp +instances only [Sk.dK,Sk.gd,Sk.iO,Sk.fB,Sk.js,Sk.l6,Sk.dn,ig.AY,kk,kp,bH.Zd,cu,cp,bo]
  rw [Ii v e]
  rfl
theorem Vn (r:ah) (fo:Int) (f:ak) (s d:Int):(jC r fo f s d).all=(fun v:cP=>bif (decide (s < 0))||(decide (s≥((v.f.af.length:Nat):Int))) then 0 else dz [dA v,bif v.due != (-1) then jm (bS v 8) (dC v) else 2,bif v.due != (-1) then jm (bS v 11) (dR v) else 2]) (gu r fo f s d):=by
 unfold jC kF
 dsimp +instances only [Sk.dK,Sk.fB,Sk.js,Sk.dn,ig.AY,kk,kp,bH.IB,bH.rB,lP,jA,bo,jB,mo,j1,iD]
 generalize gu r fo f s d=v
 cases (decide (s < 0))||(decide (s≥((v.f.af.length:Nat):Int))) <;> cases v.due != (-1) <;> rfl
theorem aeK (r:ah) (fo:Int) (f:ak) (F:List Fact) (s d:Int):gu r fo { f with facts:=F } s d=vF (gu r fo f s d) (uR f F d):=by
 have e:∀ f,gu r fo f s d=⟨r,fo,ai f d,s,d,bJ r fo f d⟩:=fun f=>by kernel_rfl
 rw [e,e,EX,iu]; rfl
theorem ac0 (r:ah) (fo:Int) {f:ak} {F:List Fact} (s d:Int) (h:sn f F):lg (jC r fo f s d).all (jC r fo { f with facts:=F } s d).all:=by
 rw [Vn,Vn,aeK r fo f F s d]
 have hv:sn (gu r fo f s d).f (uR f F d):=by
  rw [show (gu r fo f s d).f=ai f d from by kernel_rfl]
  exact h.at d
 generalize gu r fo f s d=v at hv ⊢
 dsimp only
 rw [show (vF v (uR f F d)).f.af.length=v.f.af.length from rfl,show (vF v (uR f F d)).due=v.due from rfl]
 cases (decide (s < 0))||(decide (s≥((v.f.af.length:Nat):Int))) with
 | true=>rw [cond_true,cond_true]; exact lg.rfl' _
 | false =>
  rw [cond_false,cond_false]
  cases v.due != (-1) with
  | true=>simp only [cond_true]; exact KJ (GC hv) (Qv (zJ hv 8).tri (Sw hv)) (Qv (zJ hv 11).tri (Vm hv))
  | false=>simp only [cond_false]; exact KJ (GC hv) (lg.rfl' _) (lg.rfl' _)
def bF (v:mG) (F:List Fact):mG:={ v with f:={ v.f with facts:=F } }
theorem NF {v:mG} {F:List Fact} (h:sn v.f F) (q s:Int):lg (fg v q s) (fg (bF v F) q s):=by
 have e:∀ v,fg v q s=fS (nk v.r v.forum q ⟨v.f,s,s,-1,v.due,v.day⟩):=fun v=>by kernel_rfl
 rw [e,e]
 exact (wR v.r v.forum q s s (-1) v.due v.day h).tri
theorem ac1 (v:mG) (s:Int):dX v s=bif !(v.f.bn.foldl (fun b a=>b||decide (a.at_ > s)) false) then (0,lZ v.f s) else
  (fun x4:Int=>bif x4 == 1 then (x4,(v.f.bn.getD ((ar (((v.f.bn.length:Nat):Int) - 1)).toNat) default).sum) else bif x4 == 2 then (x4,cq (lZ v.f s) ((v.f.bn.getD ((ar (((v.f.bn.length:Nat):Int) - 1)).toNat) default).sum)) else (x4,lZ v.f s)) (fg v 4 s):=by
 unfold dX gr
 dsimp +instances only [Sk.dK,Sk.gd,Sk.iO,Sk.fB,Sk.js,Sk.l6,Sk.dn,ig.AY,kk,kp,tp,eA]
 refine (dT v.f.bn (fun s i=>(s,i)) (fun a b=>.inr (b||decide (a.at_ > s))) (fun b=>b) _ (fun b i hi=>?_) (fun b=>?_) (by omega) false).trans ?_
 ·dsimp only
  rw [decide_eq_true (by omega),cond_true]
 ·dsimp only
  rw [decide_eq_false (by omega),cond_false]
 ·rw [j4]
def Yn (b:Bool) (x y a:Int):Int × Int:=bif !b then (0,x) else bif a == 1 then (a,y) else bif a == 2 then (a,cq x y) else (a,x)
theorem abN (c:Bool) (x y:Int) {a b:Int} (hs:lg a b):(Yn c x y a).2≤(Yn c x y b).2:=by
 unfold Yn
 cases !c with
 | true=>exact Int.le_refl _
 | false =>
  rw [cond_false,cond_false]
  by_cases k:a=2
  ·subst k
   show cq x y≤_
   have h1:cq x y≤x:=by unfold cq; split <;> omega
   have h2:cq x y≤y:=by unfold cq; split <;> omega
   cases h1':b == 1 with
   | true=>exact h2
   | false =>
    rw [cond_false]
    cases b == 2 with
    | true=>exact Int.le_refl _
    | false=>exact h1
  ·rw [hs k]; exact Int.le_refl _
theorem ac2 {v:mG} {F:List Fact} (h:sn v.f F) (s:Int):(dX v s).2≤(dX (bF v F) s).2:=by
 have e:∀ v,dX v s=Yn (v.f.bn.foldl (fun b a=>b||decide (a.at_ > s)) false) (lZ v.f s) (v.f.bn.getD ((ar (((v.f.bn.length:Nat):Int) - 1)).toNat) default).sum (fg v 4 s):=fun v=>ac1 v s
 have e2:lZ (bF v F).f s=lZ v.f s:=by kernel_rfl
 rw [e,e,e2]
 exact abN _ _ _ (NF h 4 s)
theorem abO (f:ak) (F:List Fact) (s d:Int):ky { f with facts:=F } s d=ky f s d:=by kernel_rfl
theorem Dn (v:mG) (s:Int):cw v s = { sign:=s,kind:=(v.f.af.getD s.toNat default).kind,gC:=(v.f.af.getD s.toNat default).dQ,binds:=bif !(ky v.f s v.day) then bind_join [v.form,fg v 1 s,fg v 2 s] else 0,text:=(dX v s).1,sum:=bif (((v.f.af.getD s.toNat default).kind) == 1)||(((v.f.af.getD s.toNat default).kind) == 4) then cq (dX v s).2 ((v.f.af.getD s.toNat default).sum) else (dX v s).2,fM:=(((v.f.af.getD s.toNat default).kind) != 1)&&((eJ .i64 ((v.f.af.getD s.toNat default).flags) 1) == 0) }:=by
 unfold cw eP
 dsimp +instances only [Sk.dK,Sk.fB,Sk.js,Sk.dn,ig.AY,kk,kp,bH.IB,bH.rB,rU,eA,ra,oU]
 cases ky v.f s v.day <;> cases (((v.f.af.getD s.toNat default).kind) == 1)||(((v.f.af.getD s.toNat default).kind) == 4) <;> rfl
theorem Vo:∀ (l:List Int) (o:Int),jn l o=if (0:Int)∈l then 0 else if (2:Int)∈l then 2 else o
 | [],o=>by simp [jn]
 | x :: r,o=>by
  simp only [jn,Vo r,List.mem_cons]
  by_cases h0:x=0
  ·simp [h0]
  ·by_cases h2:x=2
   ·subst h2; simp
   ·have a:¬ (0:Int)=x:=fun e=>h0 e.symm
    have b:¬ (2:Int)=x:=fun e=>h2 e.symm
    simp [h0,h2,a,b]
def Sx (st:Bool) (a b c:Int):Int:=bif !st then bind_join [a,b,c] else 0
theorem ZJ (st:Bool) (a:Int) {b b' c c':Int} (hb:lg b b') (hc:lg c c'):lg (Sx st a b c) (Sx st a b' c'):=by
 have e:∀ l,bind_join l=dz l:=fun l=>by rw [show bind_join l=jn l 1 from Cl l,Vo,NC]
 unfold Sx
 cases st with
 | true=>rw [Bool.not_true,cond_false,cond_false]; exact lg.rfl' _
 | false =>
  rw [Bool.not_false,cond_true,cond_true,e,e]
  exact KJ (lg.rfl' _) hb hc
theorem Sy {v:mG} {F:List Fact} (h:sn v.f F) (s:Int):lg (cw v s).binds (cw (bF v F) s).binds:=by
 have e:∀ v,(cw v s).binds=Sx (ky v.f s v.day) v.form (fg v 1 s) (fg v 2 s):=fun v=>congrArg cX.binds (Dn v s)
 have e2:ky (bF v F).f s (bF v F).day=ky v.f s v.day:=abO v.f F s v.day
 rw [e,e,e2]
 exact ZJ _ v.form (NF h 1 s) (NF h 2 s)
theorem Xm {v:mG} {F:List Fact} (h:sn v.f F) (s:Int):(cw v s).sum≤(cw (bF v F) s).sum:=by
 have e:∀ v,(cw v s).sum=(fun (k:Bool) (t x:Int)=>bif k then cq t x else t) ((((v.f.af.getD s.toNat default).kind) == 1)||(((v.f.af.getD s.toNat default).kind) == 4)) (dX v s).2 ((v.f.af.getD s.toNat default).sum):=fun v=>congrArg cX.sum (Dn v s)
 rw [e,e]
 have ht:=ac2 h s
 show (fun (k:Bool) (t x:Int)=>bif k then cq t x else t) ((((v.f.af.getD s.toNat default).kind) == 1)||(((v.f.af.getD s.toNat default).kind) == 4)) _ ((v.f.af.getD s.toNat default).sum)≤(fun (k:Bool) (t x:Int)=>bif k then cq t x else t) ((((v.f.af.getD s.toNat default).kind) == 1)||(((v.f.af.getD s.toNat default).kind) == 4)) _ ((v.f.af.getD s.toNat default).sum)
 dsimp only
 cases (((v.f.af.getD s.toNat default).kind) == 1)||(((v.f.af.getD s.toNat default).kind) == 4) with
 | true=>rw [cond_true,cond_true]; unfold cq; split <;> split <;> omega
 | false=>rw [cond_false,cond_false]; exact ht
theorem Xn (v:mG) (F:List Fact) (s:Int):(cw (bF v F) s).fM=(cw v s).fM:=by rw [Dn,Dn]; rfl
theorem NG (r:ah) (fo:Int) (f:ak) (d:Int):jj r fo f d=⟨r,fo,d,ai f d,fS (tS r fo 0 (ai f d) d),bJ r fo (ai f d) d⟩:=by kernel_rfl
theorem Yo (r:ah) (fo:Int) (f:ak) (F:List Fact) (d:Int):jj r fo { f with facts:=F } d=bF (jj r fo f d) (uR f F d):=by
 rw [NG,NG,EX,EW,iu]; rfl
theorem NH {r:ah} {fo:Int} {f:ak} {F:List Fact} {d:Int} (h:sn f F):sn (jj r fo f d).f (uR f F d):=by
 rw [NG]; exact h.at d
theorem I2 (r:ah) (fo:Int) (f:ak) (d:Int) {i:Nat} (hi:i < (ai f d).af.length):(aW r fo f d).getD i default=cw (jj r fo f d) ((i:Nat):Int):=by
 have e:aW r fo f d=(List.range (ai f d).af.length).map fun j=>cw (jj r fo f d) ((j:Nat):Int):=by
  unfold aW j9
  dsimp +instances only [Sk.dK,Sk.gd,Sk.iO,Sk.fB,Sk.js,Sk.l6,Sk.dn,ig.AY,kk,kp,bH.aaY,bH.rB,nT,fC]
  rw [show (jj r fo f d).f=ai f d from (MJ r fo f d).1]
  refine congrArg (fun q=>iX q fun b=>b) (Db (ai f d).af.length (fun k=>(List.range k).map fun j=>cw (jj r fo f d) ((j:Nat):Int)) (fun s i=>(s,i)) (fun s=>Sum.inr s) (fun i hi=>?_) ?_ (by omega))
  ·dsimp only
   rw [decide_eq_true (by omega),cond_true,List.range_succ,List.map_append]
   rfl
  ·dsimp only
   rw [decide_eq_false (by omega),cond_false]
 rw [e]
 simp [List.getD,hi]
theorem ZK {a b c:Int} (ha:0≤a∧a≤9223372036854775807) (hb:0≤b∧b≤9223372036854775807) (hc:0 < c∧c≤9223372036854775807):((nW a b c).2.2=true∧(nW a b c).1=a * b / c∧a * b / c≤1099511627776)∨((nW a b c).2.2=false∧1099511627776 < a * b / c):=by
 have e:nW a b c=(fun x1:Int × Int=>bif decide (x1.1≥(IntKind.u64.wrap c)) then (0,0,false) else (fun x2:Int × Int=>bif decide (x2.1 > 1099511627776) then (0,0,false) else (ar (x2.1),ar (x2.2),true)) (wA x1.1 x1.2 (IntKind.u64.wrap c))) (sO (IntKind.u64.wrap a) (IntKind.u64.wrap b)):=by kernel_rfl
 rw [e,eu (n:=a) ha.1 (by omega),eu (n:=b) hb.1 (by omega),eu (n:=c) (by omega) (by omega)]
 obtain ⟨x1,x2,x3⟩:=uz a b ⟨⟨ha.1,by omega⟩,hb.1,by omega⟩
 generalize sO a b=x at x1 x2 x3 ⊢
 dsimp only
 by_cases h:x.1≥c
 ·rw [decide_eq_true h]
  refine .inr ⟨rfl,?_⟩
  have:18446744073709551616≤a * b / c:=Int.le_ediv_of_mul_le hc.1 (by omega)
  omega
 ·rw [decide_eq_false h]
  have hy:=uD x.1 x.2 c ⟨x1.1,by omega,by omega,x2.1,x2.2⟩
  generalize wA x.1 x.2 c=y at hy ⊢
  rw [x3] at hy
  have q0:0≤a * b / c:=Int.ediv_nonneg (Int.mul_nonneg ha.1 hb.1) (by omega)
  rw [cond_false]
  by_cases k:y.1 > 1099511627776
  ·rw [decide_eq_true k]; exact .inr ⟨rfl,by omega⟩
  ·rw [decide_eq_false k]; exact .inl ⟨rfl,by show ar y.1=_; rw [aA (by omega) (by omega)]; exact hy.1,by omega⟩
theorem Vp {s s' p p':Int} (fr t:Int) (hs:0≤s∧s≤s'∧s'≤1099511627776) (hp:p'=p∨(0≤p∧p≤p'∧p'≤1000)):fx s p fr t≤fx s' p' fr t:=by
 have e:∀ s p,fx s p fr t=bif (sb s p fr t 360).2 == 3 then 1099511627776 else (sb s p fr t 360).1:=fun s p=>by kernel_rfl
 have ei:∀ s p,sb s p fr t 360=bif (((((!(dq s 1099511627776))||(!(dq p 1000)))||(!(dq fr 100000)))||(!(dq t 100000)))||(decide (t < fr)))||(((360:Int) != 360)&&((360:Int) != 365)) then (0,1) else bif !(nW s (ar (p * (ar (t - fr)))) (ar ((1000:Int) * 360))).2.2 then (0,3) else ((nW s (ar (p * (ar (t - fr)))) (ar ((1000:Int) * 360))).1,0):=fun s p=>by kernel_rfl
 have hw:∀ n m,dq n m=(decide (n≥0)&&decide (n≤m)):=fun n m=>by rw [uC]
 have h0:=nX s' p' fr t
 by_cases c:(0≤p∧p≤1000)∧(0≤fr∧fr≤100000)∧(0≤t∧t≤100000)∧fr≤t
 ·have hp2:0≤p'∧p≤p'∧p'≤1000:=by omega
  have agt:∀ s p,0≤s→s≤1099511627776→0≤p→p≤1000→fx s p fr t=if s * (p * (t - fr)) / 360000≤1099511627776 then s * (p * (t - fr)) / 360000 else 1099511627776:=by
   intro s p a1 a2 a3 a4
   have hp0:0≤p * (t - fr):=Int.mul_nonneg (by omega) (by omega)
   have hp1:p * (t - fr)≤1000 * (t - fr):=Int.mul_le_mul_of_nonneg_right (by omega) (by omega)
   have hc:((((((!(dq s 1099511627776))||(!(dq p 1000)))||(!(dq fr 100000)))||(!(dq t 100000)))||(decide (t < fr)))||(((360:Int) != 360)&&((360:Int) != 365)))=false:=by
    simp only [hw]
    rw [decide_eq_true (show s≥0 by omega),decide_eq_true (show s≤1099511627776 by omega),decide_eq_true (show p≥0 by omega),decide_eq_true (show p≤1000 by omega),decide_eq_true (show fr≥0 by omega),decide_eq_true (show fr≤100000 by omega),decide_eq_true (show t≥0 by omega),decide_eq_true (show t≤100000 by omega),decide_eq_false (show ¬ t < fr by omega)]
    rfl
   rw [e,ei,hc,cond_false,aA (n:=t - fr) (by omega) (by omega),aA (n:=p * (t - fr)) (by omega) (by omega),show ar ((1000:Int) * 360)=360000 from by rw [aA (by omega) (by omega)]; rfl]
   rcases ZK (a:=s) (b:=p * (t - fr)) (c:=360000) ⟨a1,by omega⟩ ⟨hp0,by omega⟩ ⟨by omega,by omega⟩ with ⟨k1,k2,k3⟩ | ⟨k1,k2⟩
   ·rw [k1,if_pos k3]; exact k2
   ·rw [k1,if_neg (by omega)]; rfl
  rw [agt s p hs.1 (by omega) (by omega) (by omega),agt s' p' (by omega) (by omega) (by omega) (by omega)]
  have m1:p * (t - fr)≤p' * (t - fr):=Int.mul_le_mul_of_nonneg_right hp2.2.1 (by omega)
  have m2:s * (p * (t - fr))≤s' * (p' * (t - fr)):=Int.mul_le_mul hs.2.1 m1 (Int.mul_nonneg (by omega) (by omega)) (by omega)
  have m3:s * (p * (t - fr)) / 360000≤s' * (p' * (t - fr)) / 360000:=Int.ediv_le_ediv (by omega) m2
  split <;> split <;> omega
 ·refine Int.le_trans (Int.le_of_eq ?_) h0.1
  have hc:((((((!(dq s 1099511627776))||(!(dq p 1000)))||(!(dq fr 100000)))||(!(dq t 100000)))||(decide (t < fr)))||(((360:Int) != 360)&&((360:Int) != 365)))=true:=by
   simp only [hw]
   simp only [Bool.or_eq_true,Bool.not_eq_true',Bool.and_eq_false_iff,decide_eq_false_iff_not,decide_eq_true_eq]
   omega
  rw [e,ei,hc]; rfl
theorem ac3 {s s':Int} {a b:mI} (hs:0≤s∧s≤s'∧s'≤1099511627776) (ha:(1≤a.num∧a.num≤1073741824)∧1≤a.den∧a.den≤1073741824) (hb:(1≤b.num∧b.num≤1073741824)∧1≤b.den∧b.den≤1073741824):nZ s a b≤nZ s' a b:=by
 obtain ⟨hk,ek⟩:=HU (a:=a.num) (b:=b.num) ha.1 hb.1
 obtain ⟨hw,ew⟩:=HU (a:=a.den) (b:=b.den) ha.2 hb.2
 have val:∀ s,0≤s→s≤1099511627776→nZ s a b=if a.num * b.num≥a.den * b.den then 0 else s * (a.den * b.den - a.num * b.num) / (a.den * b.den):=by
  intro s s0 s1
  have e:nZ s a b=bif decide ((IntKind.u64.wrap ((IntKind.u64.wrap (a.num)) * (IntKind.u64.wrap (b.num))))≥(IntKind.u64.wrap ((IntKind.u64.wrap (a.den)) * (IntKind.u64.wrap (b.den))))) then 0 else (fun x1:Int × Int=>ar (wA x1.1 x1.2 (IntKind.u64.wrap ((IntKind.u64.wrap (a.den)) * (IntKind.u64.wrap (b.den))))).1) (sO (IntKind.u64.wrap (s)) (IntKind.u64.wrap ((IntKind.u64.wrap ((IntKind.u64.wrap (a.den)) * (IntKind.u64.wrap (b.den)))) - (IntKind.u64.wrap ((IntKind.u64.wrap (a.num)) * (IntKind.u64.wrap (b.num))))))):=by kernel_rfl
  rw [e,ek,ew]
  by_cases hc:a.num * b.num≥a.den * b.den
  ·rw [decide_eq_true hc,if_pos hc]; rfl
  ·rw [decide_eq_false hc,if_neg hc,cond_false,eu (n:=s) s0 (by omega),eu (n:=a.den * b.den - a.num * b.num) (by omega) (by omega)]
   obtain ⟨h1,h2,h3⟩:=uz s (a.den * b.den - a.num * b.num) ⟨⟨s0,by omega⟩,by omega,by omega⟩
   generalize sO s (a.den * b.den - a.num * b.num)=x at h1 h2 h3 ⊢
   obtain ⟨l1,l2,l3⟩:=M5 ⟨s0,s1⟩ (D:=a.den * b.den - a.num * b.num) (by omega) hw h1.1 h2.1 h3
   have hy:=(uD x.1 x.2 (a.den * b.den) ⟨h1.1,l1,by omega,h2.1,h2.2⟩).1
   rw [h3] at hy
   dsimp only
   rw [hy,aA (by omega) (by omega)]
 rw [val s hs.1 (by omega),val s' (by omega) hs.2.2]
 split
 ·exact Int.le_refl _
 ·exact Int.ediv_le_ediv (by omega) (Int.mul_le_mul_of_nonneg_right hs.2.1 (by omega))
theorem Vq {r:ah} (b:rC) (dQ:Int) {s s':Int} (fr t:Int) (hs:0≤s∧s≤s'∧s'≤1099511627776) (hR:r.dg):ka r b dQ s fr t≤ka r b dQ s' fr t:=by
 have e:∀ s,ka r b dQ s fr t=bif ((r.aN.getD (((r.bu.getD dQ.toNat default).cH).toNat) default).au) == b.au then 0 else
   bif (!(l5 r b.au ((r.aN.getD (((r.bu.getD dQ.toNat default).cH).toNat) default).au) fr).2)||(!(l5 r ((r.aN.getD (((r.bu.getD dQ.toNat default).cH).toNat) default).au) b.au t).2) then 0 else
   nZ s (l5 r b.au ((r.aN.getD (((r.bu.getD dQ.toNat default).cH).toNat) default).au) fr).1 (l5 r ((r.aN.getD (((r.bu.getD dQ.toNat default).cH).toNat) default).au) b.au t).1:=fun s=>by kernel_rfl
 rw [e,e]
 have h1:=sX r b.au ((r.aN.getD (((r.bu.getD dQ.toNat default).cH).toNat) default).au) fr hR
 have h2:=sX r ((r.aN.getD (((r.bu.getD dQ.toNat default).cH).toNat) default).au) b.au t hR
 generalize l5 r b.au ((r.aN.getD (((r.bu.getD dQ.toNat default).cH).toNat) default).au) fr=x at h1 ⊢
 generalize l5 r ((r.aN.getD (((r.bu.getD dQ.toNat default).cH).toNat) default).au) b.au t=y at h2 ⊢
 cases ((r.aN.getD (((r.bu.getD dQ.toNat default).cH).toNat) default).au) == b.au with
 | true=>rw [cond_true,cond_true]; exact Int.le_refl _
 | false =>
  rw [cond_false,cond_false]
  cases hx:x.2 with
  | false=>rw [Bool.not_false,Bool.true_or,cond_true,cond_true]; exact Int.le_refl _
  | true =>
   cases hy:y.2 with
   | false=>rw [Bool.not_false,Bool.or_true,cond_true,cond_true]; exact Int.le_refl _
   | true=>rw [Bool.not_true,Bool.or_self,cond_false,cond_false]; exact ac3 hs (h1 hx) (h2 hy)
def zK (a:bD) (s:Int):Int:=bif (a.kind == 4)||(a.kind == 5) then cq 1099511627776 (ar (s+a.sum)) else s
def KK (l:List bD):Int:=l.foldl (fun s a=>zK a s) 0
theorem ZL (l:List bD) (h:∀ a,a∈l→l9 a.sum):∀ s,l9 s→l9 (l.foldl (fun s a=>zK a s) s):=by
 induction l with
 | nil=>exact fun s hs=>hs
 | cons a r ih =>
  intro s hs
  refine ih (fun x hx=>h x (by simp [hx])) _ ?_
  have ha:=h a (by simp)
  show l9 (zK a s)
  clear ih
  unfold zK
  unfold l9 at *
  cases (a.kind == 4)||(a.kind == 5) with
  | false=>rw [cond_false]; exact hs
  | true=>rw [cond_true,aA (by omega) (by omega)]; unfold cq; split <;> omega
def uG (r:ah) (fo:Int) (f:ak) (s d m:Int):Int:=bif f.aU.mC == 0 then cq 1000 (bX 0 (sP (nk r fo 16 ⟨f,s,s,-1,m,d⟩))) else f.aU.mC
def Vr (r:ah) (fo:Int) (f:ak) (s d m:Int) (dQ x:Int):Int:=bif fS (nk r fo 17 ⟨f,s,s,-1,m,d⟩) == 1 then ka r f.aU dQ x m (cq d 100000) else 0
theorem Qw (r:ah) (fo:Int) (f:ak) (s d:Int):(im r fo f s d).rest=bif ((!(ee r fo f s d).2)||(decide (s < 0)))||(decide (s≥(((ai f d).af.length:Nat):Int))) then 0 else
  cq 1099511627776 (ar ((ar ((ar ((ee r fo f s d).1.sum+(bif (bJ r fo f d != (-1))&&(decide (bJ r fo f d≤(cq d 100000))) then fx (ee r fo f s d).1.sum (uG r fo f s d (bJ r fo f d)) (bJ r fo f d) (cq d 100000) else 0)))+KK (ai f d).aw))+(bif (bJ r fo f d != (-1))&&(decide (bJ r fo f d≤(cq d 100000))) then Vr r fo f s d (bJ r fo f d) ((ai f d).af.getD s.toNat default).dQ (ee r fo f s d).1.sum else 0))):=by
 unfold im jF
 dsimp +instances only [Sk.dK,Sk.gd,Sk.iO,Sk.fB,Sk.js,Sk.l6,Sk.dn,ig.AY,kk,kp,bH.IB,bH.rB,aV,tv,bW,eX,oQ,nw,eZ,ny]
 cases ((!(ee r fo f s d).2)||(decide (s < 0)))||(decide (s≥(((ai f d).af.length:Nat):Int))) with
 | true=>rfl
 | false =>
  rw [cond_false,cond_false]
  have key:∀ b4:DM,b4.A5=0→∀ (dd:DM ⊕ Int),(iX (iter (fun i15:Nat × Int=>bif decide ((i15.1:Int) < (((ai f d).aw.length:Nat):Int)) then bif ((((ai f d).aw.getD i15.1 default).kind) == 4)||((((ai f d).aw.getD i15.1 default).kind) == 5) then Sum.inr (i15.1+1,cq 1099511627776 (ar (i15.2+(((ai f d).aw.getD i15.1 default).sum)))) else Sum.inr (i15.1+1,i15.2) else Sum.inl (Sum.inr i15.2)) dd ((ai f d).aw.length - 0+1) (0,b4.A5)) fun SM=>({ b4 with A5:=SM,rest:=cq 1099511627776 (ar ((ar ((ar (b4.sum+b4.mH))+SM))+b4.exchange)) }:DM)).rest=cq 1099511627776 (ar ((ar ((ar (b4.sum+b4.mH))+KK (ai f d).aw))+b4.exchange)):=by
   intro b4 h0 dd
   rw [h0]
   refine (congrArg DM.rest (dT (ai f d).aw (fun s i=>(i,s)) (fun a s=>.inr (zK a s)) (fun s=>s) _ (fun s i hi=>?_) (fun s=>?_) (by omega) 0)).trans ?_
   ·dsimp only
    rw [decide_eq_true (by omega),cond_true]
    unfold zK
    cases ((((ai f d).aw.getD i default).kind) == 4)||((((ai f d).aw.getD i default).kind) == 5) <;> rfl
   ·dsimp only
    rw [decide_eq_false (by omega),cond_false]
   ·rw [j4]; rfl
  unfold uG Vr
  cases (bJ r fo f d != (-1))&&(decide (bJ r fo f d≤(cq d 100000))) with
  | false=>exact key _ rfl _
  | true =>
   cases f.aU.mC == 0 <;> cases fS (nk r fo 17 ⟨f,s,s,-1,bJ r fo f d,d⟩) == 1 <;> exact key _ rfl _
theorem ZM {a b:ma} (h:SLe a b):cq 1000 (bX 0 (sP a))≤cq 1000 (bX 0 (sP b)):=by
 rcases h with h | h
 ·rw [h]; exact Int.le_refl _
 ·have e:sP a=bif (a.err != 0)||(!a.cell.known) then (-1) else a.cell.n:=by kernel_rfl
  rw [e,h.1,h.2]
  show (0:Int)≤_
  unfold cq bX; split <;> split <;> omega
def abP (c:Bool) (e:cX):cX × Bool:=bif c then (({ sign:=0,kind:=0,gC:=0,binds:=0,text:=0,sum:=0,fM:=false }:cX),false) else (e,true)
theorem ac4 (c:Bool) {x y:cX} (h:x.sum≤y.sum):(abP c y).2=(abP c x).2∧(abP c x).1.sum≤(abP c y).1.sum:=by
 cases c with
 | true=>exact ⟨rfl,Int.le_refl _⟩
 | false=>exact ⟨rfl,h⟩
theorem ZO {r:ah} {fo:Int} {f:ak} {F:List Fact} (s d:Int) (h:sn f F):(ee r fo { f with facts:=F } s d).2=(ee r fo f s d).2∧(ee r fo f s d).1.sum≤(ee r fo { f with facts:=F } s d).1.sum:=by
 have e:∀ f,ee r fo f s d=abP ((decide (s < 0))||(decide (s≥(((jj r fo f d).f.af.length:Nat):Int)))) (cw (jj r fo f d) s):=fun f=>by kernel_rfl
 rw [e f,e { f with facts:=F },Yo r fo f F d]
 have hm:=NH (r:=r) (fo:=fo) (d:=d) h
 generalize jj r fo f d=v at hm ⊢
 have el:(bF v (uR f F d)).f.af.length=v.f.af.length:=rfl
 rw [el]
 exact ac4 _ (Xm hm s)
def Qx (z:Bool) (rt n:Int):Int:=bif z then cq 1000 (bX 0 n) else rt
theorem abQ (z:Bool) (rt:Int) {a b:Int} (h:cq 1000 (bX 0 a)≤cq 1000 (bX 0 b)):Qx z rt b=Qx z rt a∨(0≤Qx z rt a∧Qx z rt a≤Qx z rt b∧Qx z rt b≤1000):=by
 cases z with
 | false=>exact .inl rfl
 | true =>
  refine .inr ⟨?_,h,?_⟩
  ·show 0≤cq _ _; unfold cq bX; split <;> split <;> omega
  ·show cq _ _≤1000; unfold cq; split <;> omega
def exT (t e:Int):Int:=bif t == 1 then e else 0
theorem aeL {t t' e e':Int} (h:lg t t') (he:e≤e') (h0:0≤e) (h1:0≤e'∧e'≤1099511627776):exT t e≤exT t' e'∧0≤exT t e∧exT t' e'≤1099511627776:=by
 unfold exT
 cases k:t == 1 with
 | true =>
  have k:t=1:=by simpa using k
  rw [show (t' == 1)=true by rw [h (by omega),k]; rfl]
  exact ⟨he,h0,h1.2⟩
 | false =>
  rw [cond_false]
  cases t' == 1 with
  | true=>exact ⟨h1.1,by omega,h1.2⟩
  | false=>exact ⟨Int.le_refl 0,Int.le_refl 0,(by decide:(0:Int)≤1099511627776)⟩
theorem ac5 {r:ah} {fo:Int} {f:ak} {F:List Fact} (s d:Int) (h:sn f F) (hF:cb r f) (hF2:cb r { f with facts:=F }) (hR:r.dg):(im r fo f s d).rest≤(im r fo { f with facts:=F } s d).rest:=by
 obtain ⟨e1,e2⟩:=ZO (r:=r) (fo:=fo) s d h
 have p1:=sV r fo f s d ⟨hF.Ro,hF.small⟩
 have p2:=sV r fo { f with facts:=F } s d ⟨hF2.Ro,hF2.small⟩
 have hc:l9 (KK (ai f d).aw):=ZL _ (vT.1 fun q hq=>(hF.RG d).2.2.2 q hq) 0 ⟨by omega,by omega⟩
 rw [Qw,Qw,e1,iu r fo f F d,EX f F d]
 generalize (ee r fo f s d).1.sum=x at e2 p1 ⊢
 generalize (ee r fo { f with facts:=F } s d).1.sum=x' at e2 p2 ⊢
 dsimp only at *
 cases ((!(ee r fo f s d).2)||(decide (s < 0)))||(decide (s≥(((ai f d).af.length:Nat):Int))) with
 | true=>rw [cond_true,cond_true]; exact Int.le_refl _
 | false =>
  rw [cond_false,cond_false]
  generalize KK (ai f d).aw=c at hc ⊢
  generalize bJ r fo f d=m
  unfold l9 at hc
  cases (m != (-1))&&(decide (m≤(cq d 100000))) with
  | false =>
   simp only [cond_false]
   simp (disch:=omega) only [aA]
   unfold cq; split <;> split <;> omega
  | true =>
   simp only [cond_true]
   have hr:uG r fo { f with facts:=F } s d m=uG r fo f s d m∨(0≤uG r fo f s d m∧uG r fo f s d m≤uG r fo { f with facts:=F } s d m∧uG r fo { f with facts:=F } s d m≤1000) :=
    abQ (f.aU.mC == 0) f.aU.mC (ZM (wR r fo 16 s s (-1) m d h))
   have hi:=Vp m (cq d 100000) ⟨p1.1,e2,p2.2⟩ hr
   have hx:Vr r fo f s d m ((ai f d).af.getD s.toNat default).dQ x≤Vr r fo { f with facts:=F } s d m ((ai f d).af.getD s.toNat default).dQ x'∧0≤Vr r fo f s d m ((ai f d).af.getD s.toNat default).dQ x∧Vr r fo { f with facts:=F } s d m ((ai f d).af.getD s.toNat default).dQ x'≤1099511627776:=by
    have ht:=(wR r fo 17 s s (-1) m d h).tri
    have q1:=n4 r f.aU ((ai f d).af.getD s.toNat default).dQ x m (cq d 100000) ⟨p1,hR⟩
    have q2:=n4 r f.aU ((ai f d).af.getD s.toNat default).dQ x' m (cq d 100000) ⟨p2,hR⟩
    have q3:=Vq (r:=r) f.aU ((ai f d).af.getD s.toNat default).dQ m (cq d 100000) ⟨p1.1,e2,p2.2⟩ hR
    exact aeL ht q3 q1.1 q2
   have i1:=nX x (uG r fo f s d m) m (cq d 100000)
   have i2:=nX x' (uG r fo { f with facts:=F } s d m) m (cq d 100000)
   dsimp only at i1 i2
   generalize fx x (uG r fo f s d m) m (cq d 100000)=y at *
   generalize fx x' (uG r fo { f with facts:=F } s d m) m (cq d 100000)=y' at *
   generalize Vr r fo f s d m ((ai f d).af.getD s.toNat default).dQ x=z at *
   generalize Vr r fo { f with facts:=F } s d m ((ai f d).af.getD s.toNat default).dQ x'=z' at *
   simp (disch:=omega) only [aA]
   unfold cq; split <;> split <;> omega
theorem Vs (v:View) (h:v.kP) (P:Int→Prop) (hP:∀ s,0≤s→s < (v.now.af.length:Int)→P s→((v.now.af.getD s.toNat default).kind=3∨(v.now.af.getD s.toNat default).kind=4)→P ((v.now.af.getD s.toNat default).for_)):∀ (fu:Nat) (sign:Int),0≤sign→sign < (v.now.af.length:Int)→sign.toNat < fu→P sign→P (bh fu v sign)∧¬ ((v.now.af.getD (bh fu v sign).toNat default).kind=3∨(v.now.af.getD (bh fu v sign).toNat default).kind=4)
 | 0,_,_,_,h3,_=>absurd h3 (by omega)
 | fu+1,s,h1,h2,h3,h4=>by
  have e:bh (fu+1) v s=bif (((v.now.af.getD s.toNat default).kind) == 3)||(((v.now.af.getD s.toNat default).kind) == 4) then bh fu v ((v.now.af.getD s.toNat default).for_) else s:=by kernel_rfl
  rw [e]
  cases hk:(((v.now.af.getD s.toNat default).kind) == 3)||(((v.now.af.getD s.toNat default).kind) == 4) with
  | false =>
   refine ⟨h4,fun h=>?_⟩
   rw [cond_false] at h
   rw [Bool.or_eq_false_iff,beq_eq_false_iff_ne,beq_eq_false_iff_ne] at hk
   exact h.elim hk.1 hk.2
  | true =>
   rw [cond_true]
   have hk:(v.now.af.getD s.toNat default).kind=3∨(v.now.af.getD s.toNat default).kind=4:=by simpa using hk
   have hb:=h s.toNat (by omega) hk
   exact Vs v h P hP fu _ hb.1 (by omega) (by omega) (hP s h1 h2 h4 hk)
theorem ac6 {v:View} (h:v.kP) {part c9:Int} {links:List Int} {s:Int} (hs:s∈rZ v part c9 links v.now.af.length):aC v s∈rZ v part c9 links v.now.af.length∧¬ ((v.now.af.getD (aC v s).toNat default).kind=3∨(v.now.af.getD (aC v s).toNat default).kind=4):=by
 have hm:=tW hs
 refine Vs v h (·∈rZ v part c9 links v.now.af.length) (fun s h0 h1 hs hk=>?_) (s.toNat+1) s hm.1 hm.2.1 (by omega) hs
 have hm:=tW hs
 have hl:=hm.2.2.2.1
 unfold R0 at hl
 have e0:((v.now.af.getD s.toNat default).kind == 0)=false:=by rw [beq_eq_false_iff_ne]; omega
 have e1:((v.now.af.getD s.toNat default).kind == 1)=false:=by rw [beq_eq_false_iff_ne]; omega
 have e2:((v.now.af.getD s.toNat default).kind == 2)=false:=by rw [beq_eq_false_iff_ne]; omega
 rw [e0,e1,e2,Bool.or_false,cond_false,cond_false] at hl
 exact hm.2.2.2.2 _ ((contains_iff _ _).1 hl)
theorem abR {links:List Int} {lo hi:Int} (h:lo∈links) (h2:lo≤hi):1≤Bf links lo hi:=by
 unfold Bf
 exact List.length_pos_of_mem (a:=lo) (List.mem_filter.2 ⟨h,by simp [h2]⟩)
theorem Vt (links:List Int) (lo hi:Int):Bf links lo hi≤H0 links hi:=by
 unfold Bf H0
 have e:(links.filter fun l=>decide (l≤hi)&&decide (l≥lo))=(links.filter fun l=>decide (l≤hi)).filter fun l=>decide (l≥lo):=by rw [List.filter_filter]; congr 1; funext l; rw [Bool.and_comm]
 rw [e]
 exact List.length_filter_le ..
theorem Yp {links:List Int} {x y hi:Int} (hx:x∈links) (h1:x≤hi) (h2:x < y):Bf links y hi < Bf links x hi:=by
 unfold Bf
 have e:(links.filter fun l=>decide (l≤hi)&&decide (l≥y))=(links.filter fun l=>decide (l≤hi)&&decide (l≥x)).filter fun l=>decide (l≥y):=by
  rw [List.filter_filter]; congr 1; funext l
  by_cases c1:l≤hi <;> by_cases c2:l≥y
  ·have:l≥x:=by omega
   simp [c1,c2,this]
  ·simp [c1,c2]
  ·simp [c1]
  ·simp [c1]
 rw [e,List.length_filter_lt_length_iff_exists]
 exact ⟨x,List.mem_filter.2 ⟨hx,by simp [h1]⟩,by simpa using h2⟩
theorem NI {r:ah} {forum:Int} {f:ak} {day:Int} {c:Claim} (hF:cb r f) (h:c∈cm r forum f day) :
  ∃ b,b=aC (aD f day) c.sign∧(0≤b∧b < ((ai f day).af.length:Int))∧(0≤c.sign∧c.sign < ((ai f day).af.length:Int)) ∧
   (((ai f day).af.getD b.toNat default).kind=1∧c.dF=0∨((ai f day).af.getD b.toNat default).kind=0∧b=0∧c.dF=1+(H0 (al (aD f day) c.part) c.c9:Int) ∨
    ((ai f day).af.getD b.toNat default).kind=2∧b≤c.c9∧b∈al (aD f day) c.part∧c.dF=(Bf (al (aD f day) c.part) b c.c9:Int)):=by
 obtain ⟨he,part,o,sign,k⟩:=xE h
 have hlen:=oM f day
 have hl:=EH k.li
 have hm:=tW hl.2
 have hB:(aD f day).kP:=by unfold View.kP; rw [jG]; exact hF.RH day
 have hb:=ac6 hB hl.2
 have hbm:=tW hb.1
 rw [jG] at hm hb hbm
 have hll:(al (aD f day) part).length≤1000000:=by have:=H2 (f:=f) (day:=day) (part:=part); have:=hF.2.1.1; omega
 have lW:=k.st
 obtain rfl:=k.eq
 refine ⟨aC (aD f day) sign,rfl,⟨hbm.1,hbm.2.1⟩,⟨hm.1,hm.2.1⟩,?_⟩
 have hv:(aF r forum f day).1.view=aD f day:=by rw [he]
 have hk:=(hF.2.2.1 (aC (aD f day) sign).toNat (by omega)).2.2.2.2.2
 unfold P8 at hk
 rw [← zd f day (aC (aD f day) sign).toNat (by omega)] at hk
 have NR:=hbm.2.2.2.1
 have hnk:=hb.2
 dsimp only
 rw [Gs _ _ _ _ _ hll,hv,jG] at lW ⊢
 generalize aC (aD f day) sign=b at *
 generalize hs:(ai f day).af.getD b.toNat default=s at *
 by_cases h1:s.kind=1
 ·refine .inl ⟨h1,?_⟩
  rw [show (s.kind == 1)=true by simpa using h1,cond_true]
  cases od (aF r forum f day).1 <;> rfl
 ·rw [show (s.kind == 1)=false by simpa using h1,cond_false] at lW ⊢
  cases hc:((!(od (aF r forum f day).1))&&(!(cR (ai f day).aw)))||(!(((aW r forum f day).getD b.toNat default).fM)) with
  | true=>rw [hc,cond_true] at lW; exact absurd rfl lW
  | false =>
   rw [cond_false]
   by_cases h2:s.kind=2
   ·unfold R0 at NR
    rw [jG,hs,show (s.kind == 0)=false by rw [h2]; rfl,show (s.kind == 1)=false by rw [h2]; rfl,show (s.kind == 2)=true by rw [h2]; rfl,Bool.or_false,cond_false,cond_true,Bool.and_eq_true,Bool.and_eq_true,decide_eq_true_eq] at NR
    have e:((b.toNat:Nat):Int)=b:=by omega
    rw [e] at NR
    have VC:=(contains_iff _ _).1 NR.2
    refine .inr (.inr ⟨h2,NR.1.1,VC,?_⟩)
    rw [NR.2]; rfl
   ·have h0:s.kind=0:=by omega
    have hb0:b=0:=by have:=hk.2.2.1.1 h0; omega
    refine .inr (.inl ⟨h0,hb0,?_⟩)
    have hn:bZ (al (aD f day) part) b=false:=by
     cases hcb:bZ (al (aD f day) part) b with
     | false=>rfl
     | true =>
      have hm2:=HT ((contains_iff _ _).1 hcb)
      rw [tY] at hm2
      rw [zd f day b.toNat (by omega)] at hs
      rw [hs] at hm2
      omega
    rw [hn]; rfl
theorem Vu {r:ah} {forum:Int} {f:ak} {day:Int} (hF:cb r f) {c:Claim} (h:c∈cm r forum f day):∃ b,b=aC (aD f day) c.sign∧(0≤b∧b < ((ai f day).af.length:Int))∧(0≤c.sign∧c.sign < ((ai f day).af.length:Int))∧(c.dF=0↔((ai f day).af.getD b.toNat default).kind=1)∧0≤c.dF ∧
  ∀ d,d∈cm r forum f day→c.part=d.part→c.c9=d.c9→c.dF≠0→d.dF≠0→∀ y,y=aC (aD f day) d.sign→(b=y→c.dF=d.dF)∧(b < y→d.dF < c.dF)∧(y < b→c.dF < d.dF):=by
 obtain ⟨b,e,h1,h2,h3⟩:=NI hF h
 refine ⟨b,e,h1,h2,?_,?_,fun d hd e1 e2 t1 t2 y ey=>?_⟩
 ·rcases h3 with h3 | h3 | h3
  ·exact ⟨fun _=>h3.1,fun _=>h3.2⟩
  ·rw [h3.1,h3.2.2]; exact ⟨fun h=>absurd h (by omega),fun h=>absurd h (by decide)⟩
  ·rw [h3.1]
   have:=abR h3.2.2.1 h3.2.1
   exact ⟨fun h=>absurd h (by omega),fun h=>absurd h (by decide)⟩
 ·omega
 ·obtain ⟨b',e',h1',h2',Xo⟩:=NI hF hd
  have hby:b'=y:=by rw [e',ey]
  subst hby
  rw [← e1,← e2] at Xo
  rcases h3 with h3 | h3 | h3
  ·exact absurd h3.2 t1
  ·rcases Xo with Xo | Xo | Xo
   ·exact absurd Xo.2 t2
   ·exact ⟨fun _=>by omega,fun h=>by omega,fun h=>by omega⟩
   ·have:=Vt (al (aD f day) c.part) b' c.c9
    refine ⟨fun h=>?_,fun _=>by omega,fun h=>by omega⟩
    subst h
    rw [h3.1] at Xo
    omega
  ·rcases Xo with Xo | Xo | Xo
   ·exact absurd Xo.2 t2
   ·have:=Vt (al (aD f day) c.part) b c.c9
    refine ⟨fun h=>?_,fun h=>by omega,fun _=>by omega⟩
    subst h
    rw [h3.1] at Xo
    omega
   ·refine ⟨fun h=>by subst h; omega,fun h=>?_,fun h=>?_⟩
    ·have:=Yp (hi:=c.c9) h3.2.2.1 h3.2.1 h; omega
    ·have:=Yp (hi:=c.c9) Xo.2.2.1 Xo.2.1 h; omega
theorem NJ {k s:Int}:∀ (l:List Fact) (i:Nat),i < l.length→((l.getD i default).kind=k∧(l.getD i default).at_=s)→(∀ q,q < i→¬ ((l.getD q default).kind=k∧(l.getD q default).at_=s))→walk (fb k s) (fun _=>(⟨false,0⟩:aJ)) l ()=u1 ((l.getD i default).n != 0)
 | [],i,h,_,_=>absurd h (by simp)
 | x :: l,0,_,h2,_=>by
  have h2:x.kind=k∧x.at_=s:=h2
  simp only [walk]
  unfold fb
  rw [h2.1,h2.2,beq_self_eq_true,beq_self_eq_true]; rfl
 | x :: l,i+1,h,h2,h3=>by
  have h0:¬ (x.kind=k∧x.at_=s):=h3 0 (by omega)
  have:fb k s x ()=.inr ():=by
   unfold fb
   have:((x.kind == k)&&(x.at_ == s))=false:=by
    cases e:((x.kind == k)&&(x.at_ == s)) with
    | false=>rfl
    | true=>rw [Bool.and_eq_true,beq_iff_eq,beq_iff_eq] at e; exact absurd e h0
   rw [this]; rfl
  simp only [walk,this]
  exact NJ l i (by simpa using h) h2 fun q hq=>h3 (q+1) (by omega)
theorem Yq (v:View) (k s:Int):kS v k s=(fun c:aJ=>bif !c.known then 2 else bif c.n == 0 then 0 else 1) (bB v.now k s):=by
 have e:kS v k s=(fun x1:Int=>bif decide (x1 < 0) then 2 else bif ((v.now.facts.getD x1.toNat default).n) == 0 then 0 else 1) (kD v.now.facts k s):=by kernel_rfl
 have hc:∀ x:Fact,dh x k s=true↔(x.kind=k∧x.at_=s):=fun x=>by rw [k8,Bool.and_eq_true,beq_iff_eq,beq_iff_eq]
 rw [e,xm]
 rcases wW v.now.facts k s with ⟨h1,h2⟩ | ⟨h1,h2,h3,h4⟩
 ·rw [h1,rj _ _ (fun x hx u=>?_)]
  ·rfl
  ·obtain ⟨i,hi,rfl⟩:=List.getElem_of_mem hx
   have:=h2 i hi
   rw [k8,show v.now.facts.getD i default=v.now.facts[i] by simp [List.getD,hi]] at this
   unfold fb
   rw [this]; rfl
 ·generalize kD v.now.facts k s=x at *
  rw [NJ v.now.facts x.toNat (by omega) ((hc _).1 h3) (fun q hq hh=>by have e4:=h4 q hq; rw [(hc _).2 hh] at e4; exact absurd e4 (by decide)),Vg]
  dsimp only
  rw [decide_eq_false (by omega),cond_false]
  generalize (v.now.facts.getD x.toNat default).n=m
  cases hm:m == 0 with
  | true=>rw [show (m != 0)=false by rw [bne,hm]; rfl]; rfl
  | false=>rw [show (m != 0)=true by rw [bne,hm]; rfl]; rfl
theorem Sz {a a' b b':Int} (ha:lg a a') (hb:lg b b'):lg (fO a b) (fO a' b'):=by
 have e:∀ a b,fO a b=bif (a == 0)||(b == 0) then 0 else bif (a == 2)||(b == 2) then 2 else 1:=fun a b=>by kernel_rfl
 have i:∀ a b,fO a b=if a=0∨b=0 then 0 else if a=2∨b=2 then 2 else 1:=fun a b=>by
  rw [e]; simp only [Bool.cond_eq_ite,Bool.or_eq_true,beq_iff_eq]
 rw [i,i]
 intro k
 unfold lg at *
 by_cases z:a=0∨b=0
 ·have z':a'=0∨b'=0:=by
   rcases z with z | z
   ·exact .inl (by rw [ha (by omega)]; exact z)
   ·exact .inr (by rw [hb (by omega)]; exact z)
  rw [if_pos z,if_pos z']
 ·rw [if_neg z] at k ⊢
  by_cases t:a=2∨b=2
  ·rw [if_pos t] at k; exact absurd rfl k
  ·rw [ha (by omega),hb (by omega),if_neg z]
theorem ZP {a a' b b':Int} (ha:lg a a') (hb:lg b b'):lg (sT a b) (sT a' b'):=by
 have e:∀ a b,sT a b=bif (a == 1)||(b == 1) then 1 else bif (a == 2)||(b == 2) then 2 else 0:=fun a b=>by kernel_rfl
 have i:∀ a b,sT a b=if a=1∨b=1 then 1 else if a=2∨b=2 then 2 else 0:=fun a b=>by
  rw [e]; simp only [Bool.cond_eq_ite,Bool.or_eq_true,beq_iff_eq]
 rw [i,i]
 intro k
 unfold lg at *
 by_cases z:a=1∨b=1
 ·have z':a'=1∨b'=1:=by
   rcases z with z | z
   ·exact .inl (by rw [ha (by omega)]; exact z)
   ·exact .inr (by rw [hb (by omega)]; exact z)
  rw [if_pos z,if_pos z']
 ·rw [if_neg z] at k ⊢
  by_cases t:a=2∨b=2
  ·rw [if_pos t] at k; exact absurd rfl k
  ·rw [ha (by omega),hb (by omega),if_neg z]
def cF (c:fy) (F G:List Fact):fy:={ c with view:={ c.view with all:={ c.view.all with facts:=F },now:={ c.view.now with facts:=G } } }
theorem Qy {c:fy} {F G:List Fact} (h:sn c.view.now G) (link last:Int):lg (bG c link last) (bG (cF c F G) link last):=by
 have e:∀ c,bG c link last=sT (fO (kS c.view 0 link) (kS c.view 2 link)) (fS (nk c.r c.forum 3 ⟨c.view.now,link,last,-1,c.due,c.view.day⟩)):=fun c=>by kernel_rfl
 have hs:∀ k,lg (kS c.view k link) (kS (cF c F G).view k link):=fun k=>by
  rw [Yq,Yq]
  have hk:=h k link
  show lg _ ((fun c:aJ=>bif !c.known then 2 else bif c.n == 0 then 0 else 1) (bB { c.view.now with facts:=G } k link))
  cases hc:(bB c.view.now k link).known with
  | true=>rw [hk hc]; exact lg.rfl' _
  | false=>exact .op (by dsimp only; rw [hc]; rfl)
 rw [e,e]
 exact ZP (Sz (hs 0) (hs 2)) (wR c.r c.forum 3 link last (-1) c.due c.view.day h).tri
theorem I3 {c:fy} {F G:List Fact} (h:sn c.view.now G) (last:Int):∀ (links:List Int) (o z:lO),z∈eB c last links o→z.state=1→z∈eB (cF c F G) last links o
 | [],o,z,hz,_=>hz
 | l :: r,o,z,hz,h1=>by
  have hp:=Qy (F:=F) h l last
  simp only [eB] at hz ⊢
  generalize bG c l last=p at hp hz
  generalize bG (cF c F G) l last=p' at hp ⊢
  by_cases p2:p=2
  ·subst p2
   have hz:=show z∈{ o with state:=2 } :: eB c last r { gC:=(c.view.now.af.getD l.toNat default).cM,sign:=l,state:=2 } from hz
   rcases List.mem_cons.1 hz with rfl | hz
   ·exact absurd h1 (show ¬ (2:Int)=1 by decide)
   ·rcases (xw c last r _ z hz).2 with k | k <;> (have k:z.state=2:=k; omega)
  ·have e:=hp p2
   subst e
   cases h0:p' == 0 with
   | true=>rw [h0,cond_true] at hz; exact hz
   | false =>
    rw [h0,cond_false,show (p' == 2)=false by simpa using p2,cond_false] at hz
    rw [cond_false,show (p' == 2)=false by simpa using p2,cond_false]
    exact I3 h last r _ z hz h1
theorem CO {c:fy} {F G:List Fact} (h:sn c.view.now G) (last:Int):∀ (links:List Int) (o o' z':lO),o'.gC=o.gC→o'.sign=o.sign→lg o.state o'.state→z'∈eB (cF c F G) last links o'→∃ z,z∈eB c last links o∧z'.gC=z.gC∧z'.sign=z.sign∧lg z.state z'.state
 | [],o,o',z',a,b,t,hz=>by
  have hz:z'∈[o']:=hz
  rw [List.mem_singleton] at hz
  subst hz
  exact ⟨o,by simp [eB],a,b,t⟩
 | l :: r,o,o',z',a,b,t,hz=>by
  have hp:=Qy (F:=F) h l last
  simp only [eB] at hz ⊢
  generalize bG c l last=p at hp ⊢
  generalize bG (cF c F G) l last=p' at hp hz
  by_cases p2:p=2
  ·subst p2
   show ∃ z,z∈{ o with state:=2 } :: eB c last r { gC:=(c.view.now.af.getD l.toNat default).cM,sign:=l,state:=2 }∧_
   cases h0:p' == 0 with
   | true =>
    rw [h0,cond_true,List.mem_singleton] at hz
    subst hz
    exact ⟨_,List.mem_cons_self,a,b,.op rfl⟩
   | false =>
    rw [h0,cond_false] at hz
    have tail:∀ o2:lO,o2.gC=(c.view.now.af.getD l.toNat default).cM→o2.sign=l→z'∈eB (cF c F G) last r o2→∃ z,z∈{ o with state:=2 } :: eB c last r { gC:=(c.view.now.af.getD l.toNat default).cM,sign:=l,state:=2 }∧z'.gC=z.gC∧z'.sign=z.sign∧lg z.state z'.state:=fun o2 q1 q2 hz=>by
     obtain ⟨z,k1,k2⟩:=CO h last r { gC:=(c.view.now.af.getD l.toNat default).cM,sign:=l,state:=2 } o2 z' q1 q2 (.op rfl) hz
     exact ⟨z,List.mem_cons_of_mem _ k1,k2⟩
    cases h2:p' == 2 with
    | true =>
     rw [h2,cond_true] at hz
     rcases List.mem_cons.1 hz with rfl | hz
     ·exact ⟨_,List.mem_cons_self,a,b,.op rfl⟩
     ·exact tail _ rfl rfl hz
    | false=>rw [h2,cond_false] at hz; exact tail _ rfl rfl hz
  ·have e:=hp p2
   subst e
   cases h0:p' == 0 with
   | true =>
    rw [h0,cond_true,List.mem_singleton] at hz
    subst hz
    exact ⟨o,by simp,a,b,t⟩
   | false =>
    rw [h0,cond_false,show (p' == 2)=false by simpa using p2,cond_false] at hz
    rw [cond_false,show (p' == 2)=false by simpa using p2,cond_false]
    exact CO h last r { gC:=(c.view.now.af.getD l.toNat default).cM,sign:=l,state:=o.state } { gC:=(c.view.now.af.getD l.toNat default).cM,sign:=l,state:=o'.state } z' rfl rfl t hz
theorem aeM (v:View) (A G:ak) (hs:G.af=v.now.af) (s:Int):aC { v with all:=A,now:=G } s=aC v s:=by
 have key:∀ (fu:Nat) (s:Int),bh fu { v with all:=A,now:=G } s=bh fu v s:=by
  intro fu
  induction fu with
  | zero=>intro s; rfl
  | succ n ih =>
   intro s
   have bq:∀ (v:View) (fu:Nat) (s:Int),bh (fu+1) v s=bif (((v.now.af.getD s.toNat default).kind) == 3)||(((v.now.af.getD s.toNat default).kind) == 4) then bh fu v ((v.now.af.getD s.toNat default).for_) else s:=fun v fu s=>by kernel_rfl
   rw [bq,bq]; show (bif (((G.af.getD s.toNat default).kind) == 3)||(((G.af.getD s.toNat default).kind) == 4) then bh n { v with all:=A,now:=G } ((G.af.getD s.toNat default).for_) else s)=_; rw [hs,ih]
 exact key _ s
def stT (k1 AZ has SA:Bool) (a kp tn:Int):Int × Int:=bif k1 then (bif !AZ then (0,0) else (a,0)) else bif ((!AZ)&&(!has))||(!SA) then (0,0) else (fO a kp,tn)
theorem aeN (k1 AZ has SA:Bool) {a a' kp kp':Int} (tn:Int) (ha:lg a a') (hk:lg kp kp'):lg (stT k1 AZ has SA a kp tn).1 (stT k1 AZ has SA a' kp' tn).1∧((stT k1 AZ has SA a kp tn).1≠0→(stT k1 AZ has SA a' kp' tn).1≠0→(stT k1 AZ has SA a' kp' tn).2=(stT k1 AZ has SA a kp tn).2):=by
 have hb:=Sz ha hk
 unfold stT
 generalize fO a kp=x at hb ⊢
 generalize fO a' kp'=x' at hb ⊢
 cases k1 <;> cases AZ <;> cases has <;> cases SA <;> first | exact ⟨ha,fun _ _=>rfl⟩ | exact ⟨hb,fun _ _=>rfl⟩ | exact ⟨lg.rfl' _,fun _ _=>rfl⟩
theorem abS (c:fy) (o:lO) (sign:Int) (links:List Int) (eff:List cX) (hl:links.length≤1000000):aQ c o sign links eff =
  stT ((c.view.now.af.getD (aC c.view sign).toNat default).kind == 1) (od c) (cR c.view.now.aw) ((eff.getD (aC c.view sign).toNat default).fM) (fO o.state (eff.getD sign.toNat default).binds)
   (jC c.r c.forum c.view.all (aC c.view sign) c.view.day).all (bif !(bZ links (aC c.view sign)) then (1+(H0 links o.sign:Int)) else (Bf links (aC c.view sign) o.sign:Int)):=Gs c o sign links eff hl
theorem Vv {c:fy} {F G:List Fact} {o o':lO} {sign:Int} {links:List Int} {eff eff':List cX} (hl:links.length≤1000000) (ha:sn c.view.all F) (ho:o'.sign=o.sign∧lg o.state o'.state)
  (hb:lg (eff.getD sign.toNat default).binds (eff'.getD sign.toNat default).binds) (hr:(eff'.getD (aC c.view sign).toNat default).fM=(eff.getD (aC c.view sign).toNat default).fM) :
  lg (aQ c o sign links eff).1 (aQ (cF c F G) o' sign links eff').1∧((aQ c o sign links eff).1≠0→(aQ (cF c F G) o' sign links eff').1≠0→(aQ (cF c F G) o' sign links eff').2=(aQ c o sign links eff).2):=by
 have agu:aC (cF c F G).view sign=aC c.view sign:=aeM c.view { c.view.all with facts:=F } { c.view.now with facts:=G } rfl sign
 have e1:=abS c o sign links eff hl
 have e2:=abS (cF c F G) o' sign links eff' hl
 rw [agu,hr,ho.1] at e2
 rw [e1,e2]
 exact aeN _ _ _ _ _ (Sz ho.2 hb) (ac0 c.r c.forum (aC c.view sign) c.view.day ha)
theorem Vw {r:ah} {forum:Int} {f:ak} {day:Int} {c:Claim} {part:Int} {o:lO} {sign:Int} (ht:(aF r forum f day).2=true) (h:aeI r forum f day c part o sign):c∈cm r forum f day:=by
 rw [zB,ht,Bool.not_true,cond_false]
 unfold Cw
 rw [show (aF r forum f day).1.view=aD f day by rw [EM ht]]
 refine List.mem_flatMap.2 ⟨part,h.lead,List.mem_flatMap.2 ⟨o,h.own,List.mem_flatMap.2 ⟨sign,h.li,?_⟩⟩⟩
 unfold qy
 rw [show (aF r forum f day).1.view=aD f day by rw [EM ht],jG]
 have hc:((aQ (aF r forum f day).1 o sign (al (aD f day) part) (aW r forum f day)).1 == 0||((ai f day).af.getD sign.toNat default).dQ == o.gC)=false:=by
  simp only [Bool.or_eq_false_iff,beq_eq_false_iff_ne,ne_eq]
  exact ⟨h.st,h.ne⟩
 rw [hc,cond_false,List.mem_singleton]
 exact h.eq
theorem abT {r:ah} {forum:Int} {f:ak} {day:Int} {c:Claim} (h:c∈cm r forum f day):(aF r forum f day).2=true:=by
 rw [zB] at h
 cases ht:(aF r forum f day).2 with
 | true=>rfl
 | false=>rw [ht] at h; cases h
theorem abU (r:ah) (forum:Int) (f:ak) (F:List Fact) (day:Int):(aF r forum { f with facts:=F } day).2=(aF r forum f day).2:=by
 have e:∀ f,(aF r forum f day).2 = !((decide (forum < 0))||(decide (forum≥((r.aE.length:Nat):Int)))):=fun f=>by
  unfold aF sQ
  dsimp +instances only [Sk.fB,Sk.js,Sk.dn,ig.AY,kk,kp,bH.IB]
  cases (decide (forum < 0))||(decide (forum≥((r.aE.length:Nat):Int))) <;> rfl
 rw [e,e]
theorem SB (f:ak) (F:List Fact) (day:Int):aD { f with facts:=F } day = { aD f day with all:={ f with facts:=F },now:={ ai f day with facts:=uR f F day } }:=by
 rw [Dd,Dd,EX]; rfl
theorem Dp {r:ah} {forum:Int} {f:ak} (F:List Fact) {day:Int} (ht:(aF r forum f day).2=true):(aF r forum { f with facts:=F } day).1=cF (aF r forum f day).1 F (uR f F day):=by
 rw [EM ht,EM (by rw [abU]; exact ht),iu r forum f F day,SB f F day]
 have a:=tY f day
 have b:=jG f day
 unfold cF
 dsimp only
 rw [a,b]
theorem xK (f:ak) (F:List Fact) (day part:Int):al (aD { f with facts:=F } day) part=al (aD f day) part:=by
 have e:∀ v,al v part=(l4 v.all part v.day).af:=fun v=>rfl
 rw [e,e,tY,tY,Nf,Nf]
 exact congrArg ML.af (show l4 { f with facts:=F } part day=l4 f part day by kernel_rfl)
theorem Vx (f:ak) (F:List Fact) (day part c9:Int) (links:List Int):bA (aD { f with facts:=F } day) part c9 links=bA (aD f day) part c9 links:=by
 rw [SB]
 have b:=jG f day
 generalize aD f day=v at b ⊢
 rw [← b]
 rw [Dc,Dc]
 have key:∀ n,rZ { v with all:={ f with facts:=F },now:={ v.now with facts:=uR f F day } } part c9 links n=rZ v part c9 links n:=by
  intro n
  induction n with
  | zero=>rfl
  | succ n ih =>
   simp only [rZ]
   rw [ih]
   have hp:fY { v with all:={ f with facts:=F },now:={ v.now with facts:=uR f F day } } ((n:Nat):Int)=fY v ((n:Nat):Int):=by kernel_rfl
   unfold yj
   rw [hp]
   rfl
 rw [key]
theorem ZQ {r:ah} {forum:Int} {f:ak} {F:List Fact} {day:Int} (h:sn f F) (hF:cb r f) (hF2:cb r { f with facts:=F }) (hR:r.dg) :
  (∀ c,c∈cm r forum f day→c.state=1→∃ c',c'∈cm r forum { f with facts:=F } day∧Cu c' c∧c'.state=1∧c.sum≤c'.sum)∧∀ c',c'∈cm r forum { f with facts:=F } day→∃ c,c∈cm r forum f day∧Cu c' c:=by
 have M8:=h.at day
 have xM:∀ part,(al (aD f day) part).length≤1000000:=fun part=>by have:=H2 (f:=f) (day:=day) (part:=part); have:=hF.2.1.1; omega
 have eb:∀ i:Int,0≤i→i < ((ai f day).af.length:Int)→lg ((aW r forum f day).getD i.toNat default).binds ((aW r forum { f with facts:=F } day).getD i.toNat default).binds∧((aW r forum { f with facts:=F } day).getD i.toNat default).fM=((aW r forum f day).getD i.toNat default).fM:=by
  intro i h0 h1
  rw [I2 r forum f day (by omega),I2 r forum { f with facts:=F } day (by rw [EX]; show i.toNat < (ai f day).af.length; omega),Yo r forum f F day]
  exact ⟨Sy (NH h) _,Xn _ _ _⟩
 have bs:∀ {c part o sign},aeI r forum f day c part o sign∨sign∈bA (aD f day) part o.sign (al (aD f day) part)→0≤sign∧sign < ((ai f day).af.length:Int)∧0≤aC (aD f day) sign∧aC (aD f day) sign < ((ai f day).af.length:Int):=by
  intro c part o sign hf
  have NR:sign∈bA (aD f day) part o.sign (al (aD f day) part):=hf.elim (fun q=>q.li) (fun q=>q)
  have hm:=tW (EH NR).2
  rw [jG] at hm
  have hB:(aD f day).kP:=by unfold View.kP; rw [jG]; exact hF.RH day
  have:=pC (aD f day) hB (sign.toNat+1) sign hm.1 (by rw [jG]; exact hm.2.1) (by omega)
  have e:aC (aD f day) sign=bh (sign.toNat+1) (aD f day) sign:=by kernel_rfl
  rw [e]
  have h2:=hm.2.1
  exact ⟨hm.1,h2,this.1,by omega⟩
 refine ⟨fun c hc h1=>?_,fun c' VG=>?_⟩
 ·have ht:=abT hc
  obtain ⟨he,part,o,sign,k⟩:=xE hc
  have hb:=bs (.inl k)
  have e1:=congrArg Claim.state k.eq
  rw [h1] at e1
  have e1:(aQ (aF r forum f day).1 o sign (al (aD f day) part) (aW r forum f day)).1=1:=e1.symm
  have hv:(aF r forum f day).1.view=aD f day:=by rw [he]
  have ho1:o.state=1:=by
   rcases (MS k.own).2 with q | q
   ·exact q
   ·exfalso
    rw [Gs _ _ _ _ _ (xM part)] at e1
    have e:∀ a b,fO a b=bif (a == 0)||(b == 0) then 0 else bif (a == 2)||(b == 2) then 2 else 1:=fun a b=>by kernel_rfl
    have nb:∀ b,fO 2 b≠1:=fun b=>by
     rw [e]; cases b == 0 with
     | true=>exact (by decide:(0:Int)≠1)
     | false=>exact (by decide:(2:Int)≠1)
    have nb2:∀ a b,fO a b=1→a=1∨(a≠0∧a≠2):=fun a b hab=>by
     rw [e] at hab
     by_cases a0:a=0
     ·subst a0; exact absurd hab (by show (0:Int)≠1; decide)
     ·by_cases a2:a=2
      ·subst a2; rw [← e] at hab; exact absurd hab (nb b)
      ·exact .inr ⟨a0,a2⟩
    rw [q] at e1
    generalize aC (aF r forum f day).1.view sign=b at e1
    cases hk:((aF r forum f day).1.view.now.af.getD b.toNat default).kind == 1 with
    | true =>
     rw [hk,cond_true] at e1
     cases hp:od (aF r forum f day).1 with
     | false=>rw [hp] at e1; exact absurd e1 (by show (0:Int)≠1; decide)
     | true=>rw [hp] at e1; exact nb _ e1
    | false =>
     rw [hk,cond_false] at e1
     cases hp:((!(od (aF r forum f day).1))&&(!(cR (aF r forum f day).1.view.now.aw)))||(!(((aW r forum f day).getD b.toNat default).fM)) with
     | true=>rw [hp] at e1; exact absurd e1 (by show (0:Int)≠1; decide)
     | false =>
      rw [hp,cond_false] at e1
      have r2:=Nd 2 ((aW r forum f day).getD sign.toNat default).binds
      rcases nb2 _ _ e1 with w | ⟨w1,w2⟩
      ·exact nb _ w
      ·rcases r2 with r2 | r2 | r2
       ·exact w1 r2
       ·exact nb _ r2
       ·exact w2 r2
  have lW:=Vv (c:=(aF r forum f day).1) (F:=F) (G:=uR f F day) (o:=o) (o':=o) (links:=al (aD f day) part) (eff:=aW r forum f day) (eff':=aW r forum { f with facts:=F } day) (sign:=sign) (xM part) (by rw [hv,tY]; exact h) ⟨rfl,lg.rfl' _⟩ (eb sign hb.1 hb.2.1).1 (by rw [hv]; exact (eb _ hb.2.2.1 hb.2.2.2).2)
  have s1:=lW.1 (by rw [e1]; decide)
  rw [e1] at s1
  have agv:=lW.2 (by rw [e1]; decide) (by rw [s1]; decide)
  have GP:o∈bK (aF r forum { f with facts:=F } day).1 (al (aD { f with facts:=F } day) part):=by
   rw [Dp F ht,xK]
   exact I3 (by rw [hv,jG]; exact M8) _ _ _ _ k.own ho1
  refine ⟨{ c with dF:=(aQ (cF (aF r forum f day).1 F (uR f F day)) o sign (al (aD f day) part) (aW r forum { f with facts:=F } day)).2,sum:=(im r forum { f with facts:=F } sign day).rest,state:=1 },Vw (part:=part) (o:=o) (sign:=sign) (by rw [abU]; exact ht) ⟨?_,GP,?_,?_,?_,?_⟩,⟨⟨rfl,rfl,rfl,rfl,rfl⟩,?_,rfl⟩,rfl,?_⟩
  ·rw [SB]; exact k.lead
  ·rw [Vx,xK]; exact k.li
  ·rw [Dp F ht,xK,s1]; decide
  ·rw [EX]; exact k.ne
  ·rw [k.eq,Dp F ht,xK f F day part,EX f F day,s1]
  ·rw [k.eq]; exact agv
  ·rw [k.eq]; exact ac5 sign day h hF hF2 hR
 ·have ht':=abT VG
  have ht:(aF r forum f day).2=true:=by rw [← abU r forum f F day]; exact ht'
  obtain ⟨-,part,o',sign,k⟩:=xE VG
  have he:=EM ht
  have hv:(aF r forum f day).1.view=aD f day:=by rw [he]
  have GP:=k.own
  rw [Dp F ht,xK] at GP
  obtain ⟨o,ko,k1,k2,k3⟩:=CO (c:=(aF r forum f day).1) (by rw [hv,jG]; exact M8) _ _ _ _ o' rfl rfl (lg.rfl' _) GP
  have NR:=k.li
  rw [Vx,xK,k2] at NR
  have hb:=bs (c:=c') (.inr NR)
  have lW:=Vv (c:=(aF r forum f day).1) (F:=F) (G:=uR f F day) (o:=o) (o':=o') (links:=al (aD f day) part) (eff:=aW r forum f day) (eff':=aW r forum { f with facts:=F } day) (sign:=sign) (xM part) (by rw [hv,tY]; exact h) ⟨k2,k3⟩ (eb sign hb.1 hb.2.1).1 (by rw [hv]; exact (eb _ hb.2.2.1 hb.2.2.2).2)
  have s1:=k.st
  rw [Dp F ht,xK] at s1
  have s0:(aQ (aF r forum f day).1 o sign (al (aD f day) part) (aW r forum f day)).1≠0:=fun e=>s1 (by rw [lW.1 (by rw [e]; decide),e])
  have vD:=k.ne
  rw [EX,k1] at vD
  refine ⟨_,Vw (part:=part) (o:=o) (sign:=sign) ht ⟨?_,ko,NR,s0,vD,rfl⟩,?_⟩
  ·have:=k.lead; rw [SB] at this; exact this
  ·rw [k.eq,Dp F ht,xK,EX]
   exact ⟨⟨rfl,k1,rfl,rfl,k2⟩,lW.2 s0 s1,rfl⟩
def keyOf (c:Claim):Int × Int × Int × Int × Int:=(c.bL,c.aH,c.part,c.sign,c.c9)
theorem jV {x y:Claim}:gx x y↔keyOf x=keyOf y:=by
 unfold gx keyOf
 simp only [Prod.mk.injEq]
def lk (L:List Claim) (k:Int × Int × Int × Int × Int):Option Claim:=L.find? fun x=>decide (keyOf x=k)
theorem aeO (k:Int × Int × Int × Int × Int):lk [] k=none:=rfl
theorem vn (x:Claim) (r:List Claim) (k:Int × Int × Int × Int × Int):lk (x :: r) k=if keyOf x=k then some x else lk r k:=by
 unfold lk
 rw [List.find?_cons]
 by_cases h:keyOf x=k <;> simp [h]
theorem qM {L:List Claim} {k:Int × Int × Int × Int × Int} {x:Claim} (h:lk L k=some x):x∈L∧keyOf x=k:=by
 unfold lk at h
 exact ⟨List.mem_of_find?_eq_some h,by have:=List.find?_some h; simpa using this⟩
theorem I4 {L:List Claim} (h:L.Pairwise fun x y=>¬ gx x y) {x:Claim} (hx:x∈L):lk L (keyOf x)=some x:=by
 induction L with
 | nil=>cases hx
 | cons y r ih =>
  rw [List.pairwise_cons] at h
  rw [vn]
  rcases List.mem_cons.1 hx with rfl | hx
  ·rw [if_pos rfl]
  ·rw [if_neg (fun e=>h.1 x hx (jV.2 e)),ih h.2 hx]
def m8 (f:Claim→Claim) (c:Claim):List Claim→List Claim
 | []=>[c]
 | x :: r=>if keyOf x=keyOf c then f x :: r else x :: m8 f c r
theorem Vy {f:Claim→Claim} {c:Claim}:∀ (l:List Claim),(∀ i,i < l.length→¬ gx (l.getD i default) c)→m8 f c l=l++[c]
 | [],_=>rfl
 | x :: r,h=>by
  have h0:¬ keyOf x=keyOf c:=fun e=>h 0 (by simp) (jV.2 e)
  simp only [m8,if_neg h0,List.cons_append]
  rw [Vy r fun i hi=>h (i+1) (by simpa using hi)]
theorem Qz {f:Claim→Claim} {c:Claim}:∀ (l:List Claim) (i:Nat),l.Pairwise (fun x y=>¬ gx x y)→i < l.length→gx (l.getD i default) c→m8 f c l=l.set i (f (l.getD i default))
 | [],i,_,h,_=>absurd h (by simp)
 | x :: r,0,_,_,hk=>by
  have hk:keyOf x=keyOf c:=jV.1 hk
  simp only [m8,if_pos hk]; rfl
 | x :: r,i+1,hp,h,hk=>by
  rw [List.pairwise_cons] at hp
  have hi:i < r.length:=by simpa using h
  have hk:gx (r.getD i default) c:=hk
  have h0:¬ keyOf x=keyOf c:=fun e=>hp.1 _ (oa hi) ((jV.2 e).tr hk.comm)
  simp only [m8,if_neg h0]
  rw [Qz r i hp.2 hi hk]; rfl
theorem uE.eq {f:Claim→Claim} {l x:List Claim} {c:Claim} (h:uE f l c x) (hp:l.Pairwise fun x y=>¬ gx x y):x=m8 f c l:=by
 rcases h with ⟨i,hi,hk,rfl⟩ | ⟨hn,rfl⟩
 ·exact (Qz l i hp hi hk).symm
 ·exact (Vy l hn).symm
theorem NK {f:Claim→Claim} {c:Claim} (hf:∀ x,keyOf (f x)=keyOf x) (k:Int × Int × Int × Int × Int):∀ l,lk (m8 f c l) k=if keyOf c=k then some ((lk l k).elim c f) else lk l k
 | []=>by
  show lk [c] k=_
  rw [vn,aeO]; rfl
 | x :: r=>by
  by_cases hx:keyOf x=keyOf c
  ·simp only [m8,if_pos hx]
   rw [vn,vn,hf,hx]
   by_cases hk:keyOf c=k
   ·rw [if_pos hk,if_pos hk,if_pos hk]; rfl
   ·rw [if_neg hk,if_neg hk,if_neg hk]
  ·simp only [m8,if_neg hx]
   rw [vn,vn,NK hf k r]
   by_cases hk:keyOf c=k
   ·have:¬ keyOf x=k:=fun e=>hx (e.trans hk.symm)
    rw [if_neg this,if_neg this]
   ·rw [if_neg hk,if_neg hk]
theorem QA {f:Claim→Claim} {c z:Claim}:∀ {l:List Claim},z∈m8 f c l→z=c∨z∈l∨∃ x,x∈l∧keyOf x=keyOf c∧z=f x
 | [],h=>.inl (List.mem_singleton.1 h)
 | x :: r,h=>by
  by_cases hx:keyOf x=keyOf c
  ·simp only [m8,if_pos hx] at h
   rcases List.mem_cons.1 h with rfl | h
   ·exact .inr (.inr ⟨x,by simp,hx,rfl⟩)
   ·exact .inr (.inl (by simp [h]))
  ·simp only [m8,if_neg hx] at h
   rcases List.mem_cons.1 h with rfl | h
   ·exact .inr (.inl (by simp))
   ·rcases QA h with h | h | ⟨y,h1,h2⟩
    ·exact .inl h
    ·exact .inr (.inl (by simp [h]))
    ·exact .inr (.inr ⟨y,by simp [h1],h2⟩)
theorem EY {f:Claim→Claim} {c:Claim} (hf:∀ x,keyOf (f x)=keyOf x):∀ {l:List Claim},l.Pairwise (fun x y=>¬ gx x y)→(m8 f c l).Pairwise fun x y=>¬ gx x y
 | [],_=>List.pairwise_singleton _ _
 | x :: r,h=>by
  have h':=h
  rw [List.pairwise_cons] at h
  by_cases hx:keyOf x=keyOf c
  ·simp only [m8,if_pos hx]
   rw [List.pairwise_cons]
   exact ⟨fun y hy e=>h.1 y hy (jV.2 ((hf x).symm.trans (jV.1 e))),h.2⟩
  ·simp only [m8,if_neg hx]
   rw [List.pairwise_cons]
   refine ⟨fun y hy e=>?_,EY hf h.2⟩
   rcases QA hy with rfl | hy | ⟨z,h1,h2,rfl⟩
   ·exact hx (jV.1 e)
   ·exact h.1 y hy e
   ·exact h.1 z h1 (jV.2 ((jV.1 e).trans (hf z)))
theorem abV (c x:Claim):keyOf (fG c x)=keyOf x:=rfl
theorem abW (c x:Claim):keyOf (fJ c x)=keyOf x:=rfl
def oo (a:bD) (x:Claim):Claim:={ x with aH:=a.dQ,c9:=a.at_,sum:=j2 a x }
def QB (a:bD) (kind:Int) (st:Bool) (x:Claim):Bool:=eE a st x&&(((kind != 1)&&((x.dF == 0)||(decide (x.sign < a.at_))))&&(x.bL != a.dQ))
def gD (a:bD) (kind:Int) (st:Bool) (o9:List Claim) (x:Claim):List Claim:=bif QB a kind st x then rb o9 (oo a x) else o9
def stepOf (a:bD) (st:Bool) (x:Claim):List Step:=bif eE a st x then [{ bL:=x.bL,aH:=x.aH,sign:=x.sign,sum:=j2 a x }] else []
theorem NL (l:List Claim) (a:bD) (kind:Int) (st:Bool):(kd l a kind st).1=(l.foldl (gD a kind st) []).foldl kI (l.map (iq a st)):=by
 unfold kd mw
 dsimp +instances only [Sk.dK,Sk.gd,Sk.iO,Sk.fB,Sk.js,Sk.l6,Sk.Rc,Sk.dn,ig.AY,kk,kp,bH.rB,yR.AY,jZ.AY,qx,xB,pb,rh]
 have AP:sf l=l:=(xA l).2
 rw [AP]
 have h1:=Db l.length (fun n=>((l.take n).map (iq a st)++l.drop n,(l.take n).flatMap (stepOf a st),(l.take n).foldl (gD a kind st) [])) (fun s i=>(s.1,s.2.1,s.2.2,i))
  (f:=fun i3:List Claim × List Step × List Claim × Nat=>bif decide ((i3.2.2.2:Int) < ((l.length:Nat):Int)) then
   bif !(eE a st (l.getD i3.2.2.2 default)) then Sum.inr (i3.1,i3.2.1,i3.2.2.1,i3.2.2.2+1) else
   bif (((kind != 1)&&((((l.getD i3.2.2.2 default).dF) == 0)||(decide (((l.getD i3.2.2.2 default).sign) < a.at_))))&&(((l.getD i3.2.2.2 default).bL) != a.dQ)) then
    Sum.inr (i3.1.set i3.2.2.2 ({ i3.1.getD i3.2.2.2 default with sum:=ar ((bX 0 ((l.getD i3.2.2.2 default).sum)) - (cq (bX 0 a.sum) (bX 0 ((l.getD i3.2.2.2 default).sum)))) }),i3.2.1++[({ bL:=(l.getD i3.2.2.2 default).bL,aH:=(l.getD i3.2.2.2 default).aH,sign:=(l.getD i3.2.2.2 default).sign,sum:=cq (bX 0 a.sum) (bX 0 ((l.getD i3.2.2.2 default).sum)) }:Step)],rb i3.2.2.1 ({ l.getD i3.2.2.2 default with aH:=a.dQ,c9:=a.at_,sum:=cq (bX 0 a.sum) (bX 0 ((l.getD i3.2.2.2 default).sum)) }),i3.2.2.2+1)
   else Sum.inr (i3.1.set i3.2.2.2 ({ i3.1.getD i3.2.2.2 default with sum:=ar ((bX 0 ((l.getD i3.2.2.2 default).sum)) - (cq (bX 0 a.sum) (bX 0 ((l.getD i3.2.2.2 default).sum)))) }),i3.2.1++[({ bL:=(l.getD i3.2.2.2 default).bL,aH:=(l.getD i3.2.2.2 default).aH,sign:=(l.getD i3.2.2.2 default).sign,sum:=cq (bX 0 a.sum) (bX 0 ((l.getD i3.2.2.2 default).sum)) }:Step)],i3.2.2.1,i3.2.2.2+1)
   else Sum.inl (Sum.inr (i3.1,i3.2.1,i3.2.2.1)))
  (d:=(default:(List Claim × List Step) ⊕ (List Claim × List Step × List Claim)))
  (fun s=>Sum.inr s) (fun i hi=>by
   have et:l.take (i+1)=l.take i++[l.getD i default]:=by
    rw [List.take_succ_eq_append_getElem hi]; simp [List.getD,hi]
   have e2:(l.take (i+1)).flatMap (stepOf a st)=(l.take i).flatMap (stepOf a st)++stepOf a st (l.getD i default):=by rw [et]; simp
   have e3:(l.take (i+1)).foldl (gD a kind st) []=gD a kind st ((l.take i).foldl (gD a kind st) []) (l.getD i default):=by rw [et,List.foldl_append]; rfl
   dsimp only
   rw [decide_eq_true (by omega),cond_true,e2,e3]
   cases hm:eE a st (l.getD i default) with
   | false =>
    have er:iq a st (l.getD i default)=l.getD i default:=by unfold iq; rw [hm]; rfl
    have es:stepOf a st (l.getD i default)=[]:=by unfold stepOf; rw [hm]; rfl
    have ei:∀ s,gD a kind st s (l.getD i default)=s:=fun s=>by unfold gD QB; rw [hm]; rfl
    rw [H5 _ hi er,es,ei,List.append_nil]; rfl
   | true =>
    have er:iq a st (l.getD i default) = { l.getD i default with sum:=ar ((bX 0 ((l.getD i default).sum)) - (cq (bX 0 a.sum) (bX 0 ((l.getD i default).sum)))) }:=by unfold iq j2; rw [hm]; rfl
    have es:stepOf a st (l.getD i default)=[({ bL:=(l.getD i default).bL,aH:=(l.getD i default).aH,sign:=(l.getD i default).sign,sum:=cq (bX 0 a.sum) (bX 0 ((l.getD i default).sum)) }:Step)]:=by unfold stepOf j2; rw [hm]; rfl
    have ei:∀ s,gD a kind st s (l.getD i default)=bif (((kind != 1)&&((((l.getD i default).dF) == 0)||(decide (((l.getD i default).sign) < a.at_))))&&(((l.getD i default).bL) != a.dQ)) then rb s (oo a (l.getD i default)) else s:=fun s=>by unfold gD QB; rw [hm,Bool.true_and]
    rw [wC _ hi,← er,Gu _ hi,es,ei,Bool.not_true,cond_false]
    cases (((kind != 1)&&((((l.getD i default).dF) == 0)||(decide (((l.getD i default).sign) < a.at_))))&&(((l.getD i default).bL) != a.dQ)) <;> rfl)
  (by dsimp only; rw [decide_eq_false (by omega),cond_false]) (m:=l.length - 0+1) (by omega)
 rw [List.take_length,List.drop_length,List.append_nil] at h1
 refine (congrArg (fun q=>(iX q fun b2:List Claim × List Step × List Claim=>iX (iter (fun i7:List Claim × Nat=>bif decide ((i7.2:Int) < ((b2.2.2.length:Nat):Int)) then Sum.inr (kI i7.1 (b2.2.2.getD i7.2 default),i7.2+1) else Sum.inl (Sum.inr i7.1)) (default:(List Claim × List Step) ⊕ List Claim) (b2.2.2.length - 0+1) (b2.1,0)) fun b6=>(b6,b2.2.1)).1) h1).trans ?_
 refine (congrArg Prod.fst (dT (l.foldl (gD a kind st) []) (fun s i=>(s,i)) (fun c v=>.inr (kI v c)) (fun v=>v) (fun b6=>(b6,l.flatMap (stepOf a st))) (fun s i hi=>?_) (fun s=>?_) (by dsimp only; omega) (l.map (iq a st)))).trans ?_
 ·dsimp only
  rw [decide_eq_true (by omega),cond_true]
 ·dsimp only
  rw [decide_eq_false (by omega),cond_false]
 ·rw [j4 (fun c v=>kI v c)]
def Yr (a:bD) (kind:Int) (st:Bool) (P:List Claim) (k:Int × Int × Int × Int × Int):Option Claim→Prop
 | none=>∀ x,x∈P→QB a kind st x=true→keyOf (oo a x)≠k
 | some c=>((c.state=1∨c.state=2)∧keyOf c=k∧∃ x,x∈P∧QB a kind st x=true∧keyOf (oo a x)=k∧c.dF=x.dF)∧(∃ x,x∈P∧QB a kind st x=true∧keyOf (oo a x)=k∧c.sum=j2 a x)∧(∀ x,x∈P→QB a kind st x=true→keyOf (oo a x)=k→j2 a x≤c.sum)∧(c.state=1↔∀ x,x∈P→QB a kind st x=true→keyOf (oo a x)=k→x.state=1)
def Spec (a:bD) (kind:Int) (st:Bool) (P o9:List Claim):Prop:=(o9.Pairwise fun x y=>¬ gx x y)∧∀ k,Yr a kind st P k (lk o9 k)
theorem SC {a b:Int} (ha:a=1∨a=2) (hb:b=1∨b=2):dN a b=1↔a=1∧b=1:=by
 have e11:dN 1 1=1:=by kernel_rfl
 have e12:dN 1 2=2:=by kernel_rfl
 have e21:dN 2 1=2:=by kernel_rfl
 have e22:dN 2 2=2:=by kernel_rfl
 rcases ha with rfl | rfl <;> rcases hb with rfl | rfl <;> simp [e11,e12,e21,e22]
theorem Yr.agw {a:bD} {kind:Int} {st:Bool} {P:List Claim} {k:Int × Int × Int × Int × Int} {o:Option Claim} (h:Yr a kind st P k o) {x:Claim} (hx:QB a kind st x=true→keyOf (oo a x)≠k):Yr a kind st (P++[x]) k o:=by
 have hm:∀ y,y∈P++[x]→QB a kind st y=true→keyOf (oo a y)=k→y∈P:=fun y hy h1 h2=>by
  rcases List.mem_append.1 hy with hy | hy
  ·exact hy
  ·rw [List.mem_singleton.1 hy] at h1 h2; exact absurd h2 (hx h1)
 cases o with
 | none=>exact fun y hy h1 h2=>h y (hm y hy h1 h2) h1 h2
 | some c =>
  obtain ⟨⟨h1,h2,y,hy,k1,k2⟩,⟨z,hz,k3⟩,k4,k5⟩:=h
  refine ⟨⟨h1,h2,y,List.mem_append_left _ hy,k1,k2⟩,⟨z,List.mem_append_left _ hz,k3⟩,fun y hy q1 q2=>k4 y (hm y hy q1 q2) q1 q2,k5.trans ⟨fun q y hy q1 q2=>q y (hm y hy q1 q2) q1 q2,fun q y hy q1 q2=>q y (List.mem_append_left _ hy) q1 q2⟩⟩
theorem Spec.step {a:bD} {kind:Int} {st:Bool} {P o9:List Claim} (h:Spec a kind st P o9) {x:Claim} (hx:x.state=1∨x.state=2):Spec a kind st (P++[x]) (gD a kind st o9 x):=by
 unfold gD
 cases hs:QB a kind st x with
 | false=>exact ⟨h.1,fun k=>(h.2 k).agw (fun e=>absurd e (by rw [hs]; decide))⟩
 | true =>
  have e:rb o9 (oo a x)=m8 (fG (oo a x)) (oo a x) o9:=(Cv o9 (oo a x)).eq h.1
  rw [cond_true,e]
  refine ⟨EY (abV _) h.1,fun k=>?_⟩
  rw [NK (abV _)]
  by_cases hk:keyOf (oo a x)=k
  ·rw [if_pos hk]
   have hq:=h.2 k
   have hP:∀ (Q:Claim→Prop),(∀ y,y∈P++[x]→QB a kind st y=true→keyOf (oo a y)=k→Q y)↔(∀ y,y∈P→QB a kind st y=true→keyOf (oo a y)=k→Q y)∧Q x:=fun Q =>
    ⟨fun q=>⟨fun y hy=>q y (List.mem_append_left _ hy),q x (by simp) hs hk⟩,fun q y hy q1 q2=>by
     rcases List.mem_append.1 hy with hy | hy
     ·exact q.1 y hy q1 q2
     ·rw [List.mem_singleton.1 hy]; exact q.2⟩
   cases ho:lk o9 k with
   | none =>
    rw [ho] at hq
    refine ⟨⟨hx,hk,x,by simp,hs,hk,rfl⟩,⟨x,by simp,hs,hk,rfl⟩,(hP _).2 ⟨fun y hy q1 q2=>absurd q2 (hq y hy q1),Int.le_refl _⟩,Iff.trans ⟨fun q=>⟨fun y hy q1 q2=>absurd q2 (hq y hy q1),q⟩,fun q=>q.2⟩ (hP _).symm⟩
   | some c =>
    rw [ho] at hq
    obtain ⟨⟨h1,h2,y,hy,k1,k1',k2⟩,⟨z,hz,k3,k3',aih⟩,k4,k5⟩:=hq
    have lW:(fG (oo a x) c).state=1↔x.state=1∧c.state=1:=SC (a:=x.state) (b:=c.state) hx h1
    have hmx:(fG (oo a x) c).sum=bX c.sum (j2 a x):=rfl
    refine ⟨⟨WT (a:=x.state) (b:=c.state) hx h1,h2,y,List.mem_append_left _ hy,k1,k1',k2⟩,?_,(hP _).2 ⟨fun y hy q1 q2=>?_,?_⟩,Iff.trans ?_ (hP _).symm⟩
    ·show ∃ w,w∈P++[x]∧_∧_∧(fG (oo a x) c).sum=_
     rw [hmx]
     unfold bX
     split
     ·exact ⟨x,by simp,hs,hk,rfl⟩
     ·exact ⟨z,List.mem_append_left _ hz,k3,k3',aih⟩
    ·have:=k4 y hy q1 q2
     show _≤(fG (oo a x) c).sum
     rw [hmx]; unfold bX; split <;> omega
    ·show _≤(fG (oo a x) c).sum
     rw [hmx]; unfold bX; split <;> omega
    ·exact lW.trans ⟨fun q=>⟨k5.1 q.2,q.1⟩,fun q=>⟨q.2,k5.2 q.1⟩⟩
  ·rw [if_neg hk]
   exact (h.2 k).agw (fun _=>hk)
theorem Spec.all {a:bD} {kind:Int} {st:Bool}:∀ (l P o9:List Claim),Spec a kind st P o9→(∀ x,x∈l→x.state=1∨x.state=2)→Spec a kind st (P++l) (l.foldl (gD a kind st) o9)
 | [],P,o9,h,_=>by rw [List.append_nil]; exact h
 | x :: r,P,o9,h,hl=>by
  have:=Spec.all r (P++[x]) _ (h.step (hl x (by simp))) (fun y hy=>hl y (by simp [hy]))
  rwa [List.append_assoc] at this
theorem Spec.of {a:bD} {kind:Int} {st:Bool} {l:List Claim} (hl:∀ x,x∈l→x.state=1∨x.state=2):Spec a kind st l (l.foldl (gD a kind st) []):=by
 have:=Spec.all (a:=a) (kind:=kind) (st:=st) l [] [] ⟨.nil,fun k x hx=>by simp at hx⟩ hl
 rwa [List.nil_append] at this
theorem NM {k:Int × Int × Int × Int × Int}:∀ (o9 v:List Claim),(o9.Pairwise fun x y=>¬ gx x y)→(v.Pairwise fun x y=>¬ gx x y)→((o9.foldl kI v).Pairwise fun x y=>¬ gx x y)∧lk (o9.foldl kI v) k=(lk o9 k).elim (lk v k) fun c=>some ((lk v k).elim c (fJ c))
 | [],v,_,hv=>⟨hv,rfl⟩
 | c :: r,v,hi,hv=>by
  rw [List.pairwise_cons] at hi
  have e:kI v c=m8 (fJ c) c v:=(D5 v c).eq hv
  have h:=NM (k:=k) r (kI v c) hi.2 (by rw [e]; exact EY (abW _) hv)
  rw [List.foldl_cons]
  refine ⟨h.1,h.2.trans ?_⟩
  rw [e,NK (abW _),vn]
  by_cases hk:keyOf c=k
  ·rw [if_pos hk,if_pos hk]
   have:lk r k=none:=by
    cases hr:lk r k with
    | none=>rfl
    | some y =>
     obtain ⟨m1,m2⟩:=qM hr
     exact absurd (jV.2 (hk.trans m2.symm)) (hi.1 y m1)
   rw [this]; rfl
  ·rw [if_neg hk,if_neg hk]
theorem abX:∀ {o9 v:List Claim} {z:Claim},(o9.Pairwise fun x y=>¬ gx x y)→(v.Pairwise fun x y=>¬ gx x y)→z∈o9.foldl kI v→z∈v∨z∈o9∨∃ x c,x∈v∧c∈o9∧z=fJ c x:=fun {o9 v z} hi hv hz=>by
 obtain ⟨h1,h2⟩:=NM (k:=keyOf z) o9 v hi hv
 have h3:=I4 h1 hz
 rw [h2] at h3
 cases hc:lk o9 (keyOf z) with
 | none=>rw [hc] at h3; exact .inl (qM h3).1
 | some c =>
  rw [hc] at h3
  cases hx:lk v (keyOf z) with
  | none=>rw [hx] at h3; have h3:some c=some z:=h3; cases h3; exact .inr (.inl (qM hc).1)
  | some x=>rw [hx] at h3; have h3:some (fJ c x)=some z:=h3; cases h3; exact .inr (.inr ⟨x,c,(qM hx).1,(qM hc).1,rfl⟩)
structure ZR (Z:Int→Prop) (L:List Claim):Prop where
 pair:L.Pairwise fun x y=>¬ gx x y
 cl:∀ x,x∈L→Gn x
 dF:∀ x,x∈L→(x.dF=0↔Z x.sign)
structure Gr (L L':List Claim):Prop where
 old:∀ k x',lk L' k=some x'→∃ x,lk L k=some x
 yes:∀ k x,lk L k=some x→x.state=1→∃ x',lk L' k=some x'∧x'.state=1∧x.sum≤x'.sum
theorem SD (a:bD) (st:Bool) (x:Claim):keyOf (iq a st x)=keyOf x:=jV.1 (Gq a st x).1
theorem Xp (a:bD) (st:Bool) (k:Int × Int × Int × Int × Int):∀ l:List Claim,lk (l.map (iq a st)) k=(lk l k).map (iq a st)
 | []=>rfl
 | x :: r=>by
  rw [List.map_cons,vn,vn,SD,Xp a st k r]
  split <;> rfl
theorem QC (a:bD) (st:Bool) (x:Claim):(iq a st x).state=x.state:=by unfold iq; cases eE a st x <;> rfl
theorem NN {a:bD} {st:Bool} {l:List Claim} (h:l.Pairwise fun x y=>¬ gx x y):(l.map (iq a st)).Pairwise fun x y=>¬ gx x y:=by
 rw [List.pairwise_map]
 exact h.imp fun h e=>h (jV.2 (by have:=jV.1 e; rwa [SD,SD] at this))
theorem NP {a:bD} {x:Claim} (h:Gn x):l9 (j2 a x):=by
 have h:=h.1
 unfold l9 j2 cq bX at *
 (repeat' split) <;> omega
theorem ZR.apply {Z:Int→Prop} {L:List Claim} (h:ZR Z L) (a:bD) (kind:Int) (st:Bool):ZR Z (kd L a kind st).1:=by
 have hs:=Spec.of (a:=a) (kind:=kind) (st:=st) fun x hx=>(h.cl x hx).2
 have hv:=NN (a:=a) (st:=st) h.pair
 rw [NL]
 have ci:∀ c,c∈L.foldl (gD a kind st) []→Gn c∧(c.dF=0↔Z c.sign):=fun c hc=>by
  have hk:=hs.2 (keyOf c)
  rw [I4 hs.1 hc] at hk
  obtain ⟨⟨h1,-,y,hy,-,k1,k2⟩,⟨z,hz,-,-,k3⟩,-,-⟩:=hk
  refine ⟨⟨by rw [k3]; exact NP (h.cl z hz),h1⟩,?_⟩
  have:y.sign=c.sign:=congrArg (fun q:Int × Int × Int × Int × Int=>q.2.2.2.1) k1
  rw [k2,← this]; exact h.dF y hy
 have cv:∀ c,c∈L.map (iq a st)→Gn c∧(c.dF=0↔Z c.sign):=fun c hc=>by
  obtain ⟨x,hx,rfl⟩:=List.mem_map.1 hc
  have e:=Gq a st x
  exact ⟨KH (h.cl x hx),by rw [e.2.1,e.1.2.2.2.1]; exact h.dF x hx⟩
 have all:∀ z,z∈(L.foldl (gD a kind st) []).foldl kI (L.map (iq a st))→Gn z∧(z.dF=0↔Z z.sign):=fun z hz=>by
  rcases abX hs.1 hv hz with hz | hz | ⟨x,c,hx,hc,rfl⟩
  ·exact cv z hz
  ·exact ci z hz
  ·exact ⟨abA (ci c hc).1 (cv x hx).1,(cv x hx).2⟩
 exact ⟨(NM (k:=keyOf default) _ _ hs.1 hv).1,fun z hz=>(all z hz).1,fun z hz=>(all z hz).2⟩
theorem SE {Z:Int→Prop} {a:bD} {kind:Int} {st:Bool} {x y:Claim} (hk:keyOf x=keyOf y) (hx:x.dF=0↔Z x.sign) (hy:y.dF=0↔Z y.sign):QB a kind st x=QB a kind st y∧eE a st x=eE a st y:=by
 obtain ⟨e1,e2,e3,e4,e5⟩:=jV.2 hk
 have et:(x.dF == 0)=(y.dF == 0):=by
  have:x.dF=0↔y.dF=0:=by rw [hx,hy,e4]
  cases h:y.dF == 0 with
  | true=>rw [beq_iff_eq] at h ⊢; exact this.2 h
  | false=>rw [beq_eq_false_iff_ne] at h ⊢; exact fun q=>h (this.1 q)
 have em:eE a st x=eE a st y:=by rw [kH,kH,e2]
 unfold QB
 rw [em,et,e4,e1]
 exact ⟨rfl,rfl⟩
theorem KL {a:bD} {x y:Claim} (hk:keyOf x=keyOf y):keyOf (oo a x)=keyOf (oo a y):=by
 obtain ⟨e1,e2,e3,e4,e5⟩:=jV.2 hk
 exact jV.1 ⟨e1,rfl,e3,e4,rfl⟩
theorem ac7 {a:bD} {x y:Claim} (h:x.sum≤y.sum):j2 a x≤j2 a y:=by
 unfold j2 cq bX; (repeat' split) <;> omega
theorem Gr.apply {Z:Int→Prop} {L L':List Claim} (h:ZR Z L) (h':ZR Z L') (hg:Gr L L') (a:bD) (kind:Int) (st:Bool):Gr (kd L a kind st).1 (kd L' a kind st).1:=by
 have hs:=Spec.of (a:=a) (kind:=kind) (st:=st) fun x hx=>(h.cl x hx).2
 have yG:=Spec.of (a:=a) (kind:=kind) (st:=st) fun x hx=>(h'.cl x hx).2
 have back:∀ x',x'∈L'→∃ x,x∈L∧keyOf x=keyOf x'∧QB a kind st x=QB a kind st x'∧(x.state=1→x'.state=1∧x.sum≤x'.sum):=fun x' QN=>by
  have KS:=I4 h'.pair QN
  obtain ⟨x,hx⟩:=hg.old _ _ KS
  obtain ⟨m1,m2⟩:=qM hx
  refine ⟨x,m1,m2,(SE m2 (h.dF x m1) (h'.dF x' QN)).1,fun h1=>?_⟩
  obtain ⟨y,y1,y2,y3⟩:=hg.yes _ x hx h1
  rw [KS] at y1
  cases y1
  exact ⟨y2,y3⟩
 have fwd:∀ x,x∈L→x.state=1→∃ x',x'∈L'∧keyOf x'=keyOf x∧QB a kind st x'=QB a kind st x∧x.sum≤x'.sum:=fun x hx h1=>by
  obtain ⟨x',y1,y2,y3⟩:=hg.yes _ x (I4 h.pair hx) h1
  obtain ⟨m1,m2⟩:=qM y1
  exact ⟨x',m1,m2,(SE m2 (h'.dF x' m1) (h.dF x hx)).1,y3⟩
 have io:∀ k c',lk (L'.foldl (gD a kind st) []) k=some c'→∃ c,lk (L.foldl (gD a kind st) []) k=some c:=fun k c' VG=>by
  have q:=yG.2 k
  rw [VG] at q
  obtain ⟨-,⟨z,hz,z1,z2,-⟩,-,-⟩:=q
  obtain ⟨x,x1,x2,x3,-⟩:=back z hz
  have q:=hs.2 k
  cases hc:lk (L.foldl (gD a kind st) []) k with
  | some c=>exact ⟨c,rfl⟩
  | none=>rw [hc] at q; exact absurd ((KL x2).trans z2) (q x x1 (by rw [x3]; exact z1))
 have iy:∀ k c,lk (L.foldl (gD a kind st) []) k=some c→c.state=1→∃ c',lk (L'.foldl (gD a kind st) []) k=some c'∧c'.state=1∧c.sum≤c'.sum:=fun k c hc h1=>by
  have q:=hs.2 k
  rw [hc] at q
  obtain ⟨-,⟨z,hz,z1,z2,z3⟩,-,k5⟩:=q
  have rl:=k5.1 h1
  obtain ⟨z',w1,w2,w3,w4⟩:=fwd z hz (rl z hz z1 z2)
  have q:=yG.2 k
  cases VG:lk (L'.foldl (gD a kind st) []) k with
  | none=>rw [VG] at q; exact absurd ((KL w2).trans z2) (q z' w1 (by rw [w3]; exact z1))
  | some c' =>
   rw [VG] at q
   obtain ⟨-,-,k4',k5'⟩:=q
   refine ⟨c',rfl,k5'.2 fun y hy q1 q2=>?_,?_⟩
   ·obtain ⟨x,x1,x2,x3,x4⟩:=back y hy
    exact (x4 (rl x x1 (by rw [x3]; exact q1) ((KL x2).trans q2))).1
   ·rw [z3]
    exact Int.le_trans (ac7 w4) (k4' z' w1 (by rw [w3]; exact z1) ((KL w2).trans z2))
 have vo:∀ k x',lk (L'.map (iq a st)) k=some x'→∃ x,lk (L.map (iq a st)) k=some x:=fun k x' QN=>by
  rw [Xp] at QN ⊢
  cases hy:lk L' k with
  | none=>rw [hy] at QN; cases QN
  | some y =>
   obtain ⟨x,hx⟩:=hg.old k y hy
   exact ⟨_,by rw [hx]; rfl⟩
 have vy:∀ k x,lk (L.map (iq a st)) k=some x→x.state=1→∃ x',lk (L'.map (iq a st)) k=some x'∧x'.state=1∧x.sum≤x'.sum:=fun k x hx h1=>by
  rw [Xp] at hx ⊢
  cases hy:lk L k with
  | none=>rw [hy] at hx; cases hx
  | some y =>
   rw [hy] at hx
   have hx:some (iq a st y)=some x:=hx
   cases hx
   rw [QC] at h1
   obtain ⟨y',y1,y2,y3⟩:=hg.yes k y hy h1
   refine ⟨iq a st y',by rw [y1]; rfl,by rw [QC]; exact y2,?_⟩
   obtain ⟨m1,m2⟩:=qM hy
   obtain ⟨n1,n2⟩:=qM y1
   have em:=(SE (Z:=Z) (a:=a) (kind:=kind) (st:=st) (m2.trans n2.symm) (h.dF y m1) (h'.dF y' n1)).2
   have c1:=(h.cl y m1).1
   have c2:=(h'.cl y' n1).1
   unfold iq
   rw [em]
   cases eE a st y' with
   | false=>exact y3
   | true =>
    show ar _≤ar _
    unfold j2 l9 at *
    have a0:0≤bX 0 a.sum:=by unfold bX; split <;> omega
    generalize bX 0 a.sum=A at a0 ⊢
    rw [show bX 0 y.sum=y.sum by unfold bX; split <;> omega,show bX 0 y'.sum=y'.sum by unfold bX; split <;> omega]
    have b1:0≤cq A y.sum∧cq A y.sum≤y.sum:=by unfold cq; split <;> omega
    have b2:0≤cq A y'.sum∧cq A y'.sum≤y'.sum:=by unfold cq; split <;> omega
    rw [aA (by omega) (by omega),aA (by omega) (by omega)]
    unfold cq; split <;> split <;> omega
 have hv:=NN (a:=a) (st:=st) h.pair
 have hv':=NN (a:=a) (st:=st) h'.pair
 have ci:∀ k c,lk (L.foldl (gD a kind st) []) k=some c→Gn c:=fun k c hc=>by
  have q:=hs.2 k
  rw [hc] at q
  obtain ⟨⟨h1,-⟩,⟨z,hz,-,-,k3⟩,-⟩:=q
  exact ⟨by rw [k3]; exact NP (h.cl z hz),h1⟩
 have ci':∀ k c,lk (L'.foldl (gD a kind st) []) k=some c→Gn c:=fun k c hc=>by
  have q:=yG.2 k
  rw [hc] at q
  obtain ⟨⟨h1,-⟩,⟨z,hz,-,-,k3⟩,-⟩:=q
  exact ⟨by rw [k3]; exact NP (h'.cl z hz),h1⟩
 have cv:∀ k c,lk (L.map (iq a st)) k=some c→Gn c:=fun k c hc=>by
  obtain ⟨x,hx,e⟩:=List.mem_map.1 (qM hc).1
  rw [← e]; exact KH (h.cl x hx)
 have cv':∀ k c,lk (L'.map (iq a st)) k=some c→Gn c:=fun k c hc=>by
  obtain ⟨x,hx,e⟩:=List.mem_map.1 (qM hc).1
  rw [← e]; exact KH (h'.cl x hx)
 rw [NL,NL]
 refine ⟨fun k z' hz'=>?_,fun k z hz h1=>?_⟩
 ·rw [(NM _ _ yG.1 hv').2] at hz'
  rw [(NM _ _ hs.1 hv).2]
  cases VG:lk (L'.foldl (gD a kind st) []) k with
  | some c' =>
   obtain ⟨c,hc⟩:=io k c' VG
   rw [hc]; exact ⟨_,rfl⟩
  | none =>
   rw [VG] at hz'
   obtain ⟨x,hx⟩:=vo k z' hz'
   rw [hx]
   cases lk (L.foldl (gD a kind st) []) k <;> exact ⟨_,rfl⟩
 ·rw [(NM _ _ hs.1 hv).2] at hz
  rw [(NM _ _ yG.1 hv').2]
  cases hc:lk (L.foldl (gD a kind st) []) k with
  | none =>
   rw [hc] at hz
   obtain ⟨x',x1,x2,x3⟩:=vy k z hz h1
   cases VG:lk (L'.foldl (gD a kind st) []) k with
   | none=>exact ⟨x',x1,x2,x3⟩
   | some c'=>obtain ⟨c0,I9⟩:=io k c' VG; rw [hc] at I9; cases I9
  | some c =>
   rw [hc] at hz
   cases hx:lk (L.map (iq a st)) k with
   | none =>
    rw [hx] at hz
    have hz:some c=some z:=hz
    have hz:c=z:=Option.some.inj hz
    subst z
    obtain ⟨c',c1,c2,c3⟩:=iy k c hc h1
    rw [c1]
    cases QN:lk (L'.map (iq a st)) k with
    | none=>exact ⟨c',rfl,c2,c3⟩
    | some x'=>obtain ⟨x,hx2⟩:=vo k x' QN; rw [hx] at hx2; cases hx2
   | some x =>
    rw [hx] at hz
    have hz:some (fJ c x)=some z:=hz
    cases hz
    have px:=cv k x hx
    have pc:=ci k c hc
    obtain ⟨s1,s2⟩:=(SC (a:=x.state) (b:=c.state) px.2 pc.2).1 h1
    obtain ⟨c',c1,c2,c3⟩:=iy k c hc s2
    obtain ⟨x',x1,x2,x3⟩:=vy k x hx s1
    have px':=cv' k x' x1
    have pc':=ci' k c' c1
    rw [c1,x1]
    refine ⟨_,rfl,(SC (a:=x'.state) (b:=c'.state) px'.2 pc'.2).2 ⟨x2,c2⟩,?_⟩
    show cq 1099511627776 (ar (x.sum+c.sum))≤cq 1099511627776 (ar (x'.sum+c'.sum))
    have p1:=px.1
    have p2:=pc.1
    have p3:=px'.1
    have p4:=pc'.1
    unfold l9 at *
    rw [aA (by omega) (by omega),aA (by omega) (by omega)]
    unfold cq; split <;> split <;> omega
def qA (g:ak) (l:List Claim) (a:bD):List Claim:=bif (((a.kind != 6)||(decide (a.at_ < 0)))||(decide (a.at_≥((g.af.length:Nat):Int)))) then l else (kd l a (g.af.getD a.at_.toNat default).kind (!(mu g.af a))).1
theorem D7 (r:ah) (forum:Int) (f:ak) (day:Int):eQ r forum f day=(ai f day).aw.foldl (qA (ai f day)) (cm r forum f day):=by
 have e0:eQ r forum f day=(Dj r forum f day).1:=by kernel_rfl
 rw [e0]
 unfold Dj qK
 dsimp +instances only [Sk.val,Sk.dK,Sk.gd,Sk.iO,Sk.fB,Sk.js,Sk.l6,Sk.Rc,Sk.dn,Sk.aeq,Sk.aep,Sk.XY,Sk.XZ,ig.AY,kk,kp,bH.rB,aV,R3,hZ,jZ.AY,vi]
 refine (congrArg Prod.fst (dT (ai f day).aw (fun s i=>(s,i)) (fun a l=>.inr (qA (ai f day) l a)) (fun l=>l) (fun b3=>(b3,())) (fun s i hi=>?_) (fun s=>?_) (by omega) (cm r forum f day))).trans ?_
 ·dsimp only
  rw [decide_eq_true (by omega),cond_true]
  unfold qA
  cases ((((((ai f day).aw.getD i default).kind) != 6)||(decide ((((ai f day).aw.getD i default).at_) < 0)))||(decide ((((ai f day).aw.getD i default).at_)≥(((ai f day).af.length:Nat):Int)))) with
  | true=>rfl
  | false =>
   rw [cond_false,cond_false]
   generalize kd s ((ai f day).aw.getD i default) ((ai f day).af.getD ((ai f day).aw.getD i default).at_.toNat default).kind (!(mu (ai f day).af ((ai f day).aw.getD i default)))=w
   refine Eq.trans (congrArg (fun q=>iX (iX q _) _) (Db w.2.length (fun k=>(w.2.take k).foldl (fun m (s:Step)=>nB m s.aH true) ([]:List (Int × Bool))) (fun s i=>(i,s)) (fun s=>Sum.inr (((w.2.length:Nat):Int),s)) (fun k hk=>?_) ?_ (by omega))) ?_
   ·dsimp only
    rw [decide_eq_true (by omega),cond_true,List.take_succ_eq_append_getElem hk,List.foldl_append,show w.2.getD k default=w.2[k] by simp [List.getD,hk]]
    rfl
   ·dsimp only
    rw [decide_eq_false (by omega),cond_false,List.take_length]
   ·rfl
 ·dsimp only
  rw [decide_eq_false (by omega),cond_false]
 ·rw [j4 (fun a l=>qA (ai f day) l a)]
theorem abY {Z:Int→Prop} (g g':ak) (hs:g'.af=g.af):∀ (aw:List bD) (L L':List Claim),ZR Z L→ZR Z L'→Gr L L'→ZR Z (aw.foldl (qA g) L)∧ZR Z (aw.foldl (qA g') L')∧Gr (aw.foldl (qA g) L) (aw.foldl (qA g') L')
 | [],L,L',h,h',hg=>⟨h,h',hg⟩
 | a :: r,L,L',h,h',hg=>by
  rw [List.foldl_cons,List.foldl_cons]
  have e:∀ l,qA g' l a=qA g l a:=fun l=>by unfold qA; rw [hs]
  rw [e]
  unfold qA
  cases (((a.kind != 6)||(decide (a.at_ < 0)))||(decide (a.at_≥((g.af.length:Nat):Int)))) with
  | true=>exact abY g g' hs r L L' h h' hg
  | false=>exact abY g g' hs r _ _ (h.apply _ _ _) (h'.apply _ _ _) (hg.apply h h' _ _ _)
def Ys (f:ak) (day s:Int):Prop:=((ai f day).af.getD (aC (aD f day) s).toNat default).kind=1
theorem Yt {r:ah} {forum:Int} {f:ak} {day:Int} (hF:cb r f) (hR:r.dg):ZR (Ys f day) (cm r forum f day):=by
 refine ⟨(US r forum f day).imp fun h e=>h ⟨e.2.2.1,e.2.2.2.1,e.2.2.2.2⟩,fun c hc=>?_,fun c hc=>?_⟩
 ·have:=Cy hF hR hc
  exact ⟨this.2.2.2.2.2.2.1,this.2.2.2.2.2.1⟩
 ·obtain ⟨b,hb,-,-,h,-⟩:=Vu hF hc
  rw [hb] at h
  exact h
theorem ZS {r:ah} {forum:Int} {f:ak} {F:List Fact} {day:Int} (h:sn f F) (hF:cb r f) (hF2:cb r { f with facts:=F }) (hR:r.dg) :
  ZR (Ys f day) (eQ r forum f day)∧ZR (Ys f day) (eQ r forum { f with facts:=F } day)∧Gr (eQ r forum f day) (eQ r forum { f with facts:=F } day):=by
 obtain ⟨g1,g2⟩:=ZQ (forum:=forum) (day:=day) h hF hF2 hR
 have o1:=Yt (forum:=forum) (day:=day) hF hR
 have o2:=Yt (forum:=forum) (day:=day) hF2 hR
 have o3:ZR (Ys f day) (cm r forum { f with facts:=F } day):=by
  refine ⟨o2.pair,o2.cl,fun c hc=>?_⟩
  obtain ⟨d,hd,e⟩:=g2 c hc
  rw [e.2.1,e.1.2.2.2.1]
  exact o1.dF d hd
 rw [D7,D7,show (ai { f with facts:=F } day).aw=(ai f day).aw by rw [EX]]
 refine abY _ _ (by rw [EX]) _ _ _ o1 o3 ⟨fun k x' QN=>?_,fun k x hx h1=>?_⟩
 ·obtain ⟨m1,m2⟩:=qM QN
  obtain ⟨c,hc,e⟩:=g2 x' m1
  exact ⟨c,by rw [← m2,jV.1 e.1]; exact I4 o1.pair hc⟩
 ·obtain ⟨m1,m2⟩:=qM hx
  obtain ⟨c',hc,e,s1,s2⟩:=g1 x m1 h1
  exact ⟨c',by rw [← m2,← jV.1 e.1]; exact I4 o2.pair hc,s1,s2⟩
theorem aeP (r:ah) (fo:Int) (f:ak) (F:List Fact) (day:Int):iM r fo { f with facts:=F } day=iM r fo f day:=by
 rw [Gt,Gt,iu r fo f F day,EX f F day]
 exact AN (⟨r,fo,ai f day,0,day,bJ r fo f day⟩:cP) _
theorem Yu (r:ah) (fo:Int) (x:ak) (F:List Fact) {c c':Claim} (hk:keyOf c'=keyOf c) (ht:c'.dF=0↔c.dF=0) (day:Int):eS r fo { x with facts:=F } c' day=eS r fo x c day:=by
 unfold keyOf at hk
 simp only [Prod.mk.injEq] at hk
 obtain ⟨k1,k2,k3,k4,k5⟩:=hk
 have hp:zC c'=zC c:=by funext a s; unfold zC; rw [k2,k5]
 have hb:(c'.dF == 0)=(c.dF == 0):=Bool.eq_iff_iff.2 (by rw [beq_iff_eq,beq_iff_eq]; exact ht)
 rw [start_eq,start_eq,iu r fo x F day,aeP r fo x F day,hp,hb]
theorem aeQ (r:ah) (fo:Int) {x:ak} {F:List Fact} (h:sn x F) {c c':Claim} (hk:keyOf c'=keyOf c) (ht:c'.dF=0↔c.dF=0) (day:Int):SLe (AD r fo x c day) (AD r fo { x with facts:=F } c' day):=by
 have k4:c'.sign=c.sign:=congrArg (fun k=>k.2.2.2.1) hk
 unfold AD
 rw [Yu r fo x F hk ht day,iu r fo x F day,k4]
 exact wR r fo _ c.sign c.sign (-1) _ day h
def ZT (bad:Bool) (fi:Int) (s:ma) (la:Int→Int):Int × Int:=bif bad then (0,1) else bif (s.err != 0)||(fi == -1) then (0,4) else bif !s.cell.known then (0,17) else (la s.cell.n,0)
theorem ac8 (bad:Bool) (fi:Int) (la:Int→Int) {s s':ma} (h:SLe s s'):ZT bad fi s' la=ZT bad fi s la∨(ZT bad fi s la).2=17:=by
 rcases h with e | ⟨e1,e2⟩
 ·left; rw [e]
 ·unfold ZT
  cases bad with
  | true=>left; rfl
  | false =>
   cases hz:fi == -1 with
   | true=>left; simp only [Bool.or_true,cond_true,cond_false]
   | false=>right; rw [e1,e2]; rfl
theorem Yv (r:ah) (fo:Int) (x:ak) (c:Claim) (day:Int):Nk r fo x c day=ZT (decide (c.sign < 0)||decide (c.sign≥(x.af.length:Int))) (eS r fo x c day).2 (AD r fo x c day) (fun n=>H3 c (eS r fo x c day).2 n x.aw):=rfl
theorem ac9 (r:ah) (fo:Int) {x:ak} {F:List Fact} (h:sn x F) {c c':Claim} (hk:keyOf c'=keyOf c) (ht:c'.dF=0↔c.dF=0) (day:Int):Nk r fo { x with facts:=F } c' day=Nk r fo x c day∨(Nk r fo x c day).2=17:=by
 have k2:c'.aH=c.aH:=congrArg (fun k=>k.2.1) hk
 have k4:c'.sign=c.sign:=congrArg (fun k=>k.2.2.2.1) hk
 have hi:∀ a,jo a c'=jo a c:=fun a=>by rw [D6,D6,k2,k4]
 have hl:∀ fi n l,H3 c' fi n l=H3 c fi n l:=fun fi n l=>by
  unfold H3
  have:(fun s a=>zD c' fi n a s)=fun s a=>zD c fi n a s:=by funext s a; unfold zD; rw [hi]
  rw [this]
 have e1:=Yu r fo x F hk ht day
 have eF:Nk r fo { x with facts:=F } c' day=ZT (decide (c.sign < 0)||decide (c.sign≥(x.af.length:Int))) (eS r fo x c day).2 (AD r fo { x with facts:=F } c' day) (fun n=>H3 c (eS r fo x c day).2 n x.aw):=by
  have q:=Yv r fo { x with facts:=F } c' day
  rw [e1,k4] at q
  simp only [hl] at q
  exact q
 rw [eF,Yv r fo x c day]
 exact ac8 _ _ _ (aeQ r fo h hk ht day)
theorem QD (r:ah) (fo:Int) (f:ak) (c:Claim) (day:Int):dr r fo f c day=(fun p:Int × Int=>bif p.2 == 17 then 2 else bif (p.2 == 0)&&decide (day > p.1) then 1 else 0) (Dk r fo f c day):=by kernel_rfl
theorem Vz (r:ah) (fo:Int) {f:ak} {F:List Fact} (h:sn f F) {c c':Claim} (hk:keyOf c'=keyOf c) (ht:c'.dF=0↔c.dF=0) (day:Int):lg (dr r fo f c day) (dr r fo { f with facts:=F } c' day):=by
 rw [QD,QD,abC,abC,EX f F day]
 rcases ac9 r fo (h.at day) hk ht day with e | e
 ·rw [e]; exact lg.rfl' _
 ·exact .op (by dsimp only; rw [e]; rfl)
theorem VA {r:ah} {forum:Int} {f:ak} {F:List Fact} {day:Int} (h:sn f F) (hF:cb r f) (hF2:cb r { f with facts:=F }) (hR:r.dg) :
  (∀ c,c∈cG r forum f day→c.state=1→∃ c',c'∈cG r forum { f with facts:=F } day∧keyOf c'=keyOf c∧c'.state=1∧c.sum≤c'.sum) ∧
  ∀ c',c'∈cG r forum { f with facts:=F } day→∃ c,c∈cG r forum f day∧keyOf c'=keyOf c:=by
 obtain ⟨o1,o2,g⟩:=ZS (forum:=forum) (day:=day) h hF hF2 hR
 have lk':∀ f c,keyOf (yx r forum f day c)=keyOf c:=fun f c=>by unfold yx; cases dr r forum f c day == 2 <;> rfl
 have dF:∀ {x x':Claim},x∈eQ r forum f day→x'∈eQ r forum { f with facts:=F } day→keyOf x'=keyOf x→(x'.dF=0↔x.dF=0):=fun {x x'} hx QN hk=>by
  have k4:x'.sign=x.sign:=congrArg (fun k=>k.2.2.2.1) hk
  rw [o1.dF x hx,o2.dF x' QN,k4]
 rw [nz r forum f day hF,nz r forum _ day hF2]
 refine ⟨fun c hc h1=>?_,fun c' VG=>?_⟩
 ·obtain ⟨x,hx,rfl⟩:=List.mem_map.1 hc
  obtain ⟨hx,hn⟩:=List.mem_filter.1 hx
  have hl2:dr r forum f x day≠2:=fun e=>by
   unfold yx at h1; rw [e] at h1; exact absurd h1 (by show ¬ (2:Int)=1; decide)
  have ex:yx r forum f day x=x:=by unfold yx; rw [beq_eq_false_iff_ne.2 hl2]; rfl
  rw [ex] at h1 ⊢
  obtain ⟨x',y1,y2,y3⟩:=g.yes _ _ (I4 o1.pair hx) h1
  obtain ⟨m1,m2⟩:=qM y1
  have hl:=Vz r forum h m2 (dF hx m1 m2) day hl2
  have ex':yx r forum { f with facts:=F } day x'=x':=by unfold yx; rw [hl,beq_eq_false_iff_ne.2 hl2]; rfl
  refine ⟨x',List.mem_map.2 ⟨x',List.mem_filter.2 ⟨m1,?_⟩,ex'⟩,m2,y2,y3⟩
  unfold sY at hn ⊢
  rw [hl]; exact hn
 ·obtain ⟨x',QN,rfl⟩:=List.mem_map.1 VG
  obtain ⟨QN,hn⟩:=List.mem_filter.1 QN
  obtain ⟨x,y1⟩:=g.old _ _ (I4 o2.pair QN)
  obtain ⟨m1,m2⟩:=qM y1
  refine ⟨_,List.mem_map.2 ⟨x,List.mem_filter.2 ⟨m1,?_⟩,rfl⟩,by rw [lk',lk',m2]⟩
  have hl:=Vz r forum h m2.symm (dF m1 QN m2.symm) day
  unfold sY at hn ⊢
  cases e:dr r forum f x day == 1 with
  | false=>rfl
  | true =>
   rw [beq_iff_eq] at e
   rw [hl (by rw [e]; decide),e] at hn
   exact hn
def D8 (files b:List ak) (k:Nat) (n:Nat):Prop:=b.length=files.length∧(∀ q,q≠k→b.getD q default=files.getD q default)∧(k < files.length→Xj (files.getD k default) (b.getD k default)∧(b.getD k default).facts.length≤(files.getD k default).facts.length+n)
theorem D8.init (files:List ak) (k:Nat):D8 files files k 0:=⟨rfl,fun _ _=>rfl,fun _=>⟨Xj.refl _,Nat.le_refl _⟩⟩
theorem D8.step {files b:List ak} {k n:Nat} (h:D8 files b k n) (x:Fact):D8 files (b.set k (pS (b.getD k default) x)) k (n+1):=by
 obtain ⟨h1,h2,h3⟩:=h
 refine ⟨by rw [List.length_set]; exact h1,fun q hq=>?_,fun hk=>?_⟩
 ·rw [← h2 q hq]
  simp only [List.getD,List.getElem?_set]
  rw [if_neg (fun e=>hq e.symm)]
 ·obtain ⟨a,b'⟩:=h3 hk
  have e:(b.set k (pS (b.getD k default) x)).getD k default=pS (b.getD k default) x:=by
   simp only [List.getD,List.getElem?_set,if_true]
   rw [if_pos (by omega)]; rfl
  rw [e]
  exact ⟨a.step x,by have:=abM (b.getD k default) x; omega⟩
structure abZ (x x':cx) (F:List Fact):Prop where
 r:x'.r=x.r
 forum:x'.forum=x.forum
 day:x'.day=x.day
 s:x'.s=x.s
 file:x'.files.getD x.s.file.toNat default = { x.files.getD x.s.file.toNat default with facts:=F }
 more:sn (x.files.getD x.s.file.toNat default) F
theorem ada {x x':cx} {F:List Fact} (h:abZ x x' F) {c c':Claim} (hk:keyOf c'=keyOf c) (q d:Int):lg (fj x q c d) (fj x' q c' d):=by
 have k4:c'.sign=c.sign:=congrArg (fun k=>k.2.2.2.1) hk
 have k5:c'.c9=c.c9:=congrArg (fun k=>k.2.2.2.2) hk
 have e:∀ (x:cx) c,fj x q c d=fS (nk x.r x.forum q ⟨x.files.getD x.s.file.toNat default,c.sign,c.c9,d,bJ x.r x.forum (x.files.getD x.s.file.toNat default) x.day,x.day⟩):=fun x c=>by kernel_rfl
 rw [e,e,h.r,h.forum,h.day,h.s,h.file,iu x.r x.forum (x.files.getD x.s.file.toNat default) F x.day,k4,k5]
 exact (wR x.r x.forum q c.sign c.c9 d _ x.day h.more).tri
theorem ab0 {x x':cx} {F:List Fact} (h:abZ x x' F) {c c':Claim} (hk:keyOf c'=keyOf c) {d:Int} (hd:0≤d∧d < 7) (h5:d≠5∧d≠6):lg (cN x c d) (cN x' c' d):=by
 have k4:c'.sign=c.sign:=congrArg (fun k=>k.2.2.2.1) hk
 have key:∀ k,lg ((fun y:aJ=>bif !y.known then 2 else bif y.n == 0 then 1 else 0) (bB (ai (x.files.getD x.s.file.toNat default) x.day) k c.sign)) ((fun y:aJ=>bif !y.known then 2 else bif y.n == 0 then 1 else 0) (bB (ai (x'.files.getD x'.s.file.toNat default) x'.day) k c'.sign)):=fun k=>by
  rw [h.s,h.day,h.file,EX (x.files.getD x.s.file.toNat default) F x.day,k4]
  have hm:=h.more.at x.day k c.sign
  dsimp only
  cases hc:(bB (ai (x.files.getD x.s.file.toNat default) x.day) k c.sign).known with
  | true=>rw [hm hc,hc]; exact lg.rfl' _
  | false=>exact .op rfl
 have g0:∀ (x:cx) c,cN x c 0=(fun y:aJ=>bif !y.known then 2 else bif y.n == 0 then 1 else 0) (bB (ai (x.files.getD x.s.file.toNat default) x.day) 0 c.sign):=fun x c=>by kernel_rfl
 have g1:∀ (x:cx) c,cN x c 1=(fun y:aJ=>bif !y.known then 2 else bif y.n == 0 then 1 else 0) (bB (ai (x.files.getD x.s.file.toNat default) x.day) 1 c.sign):=fun x c=>by kernel_rfl
 have g2:∀ (x:cx) c,cN x c 2=(fun y:aJ=>bif !y.known then 2 else bif y.n == 0 then 1 else 0) (bB (ai (x.files.getD x.s.file.toNat default) x.day) 2 c.sign):=fun x c=>by kernel_rfl
 have g3:∀ (x:cx) c,cN x c 3=(fun y:aJ=>bif !y.known then 2 else bif y.n == 0 then 1 else 0) (bB (ai (x.files.getD x.s.file.toNat default) x.day) 4 c.sign):=fun x c=>by kernel_rfl
 have g4:∀ (x:cx) c,cN x c 4=(fun y:aJ=>bif !y.known then 2 else bif y.n == 0 then 1 else 0) (bB (ai (x.files.getD x.s.file.toNat default) x.day) 3 c.sign):=fun x c=>by kernel_rfl
 have hd:d=0∨d=1∨d=2∨d=3∨d=4:=by omega
 rcases hd with rfl | rfl | rfl | rfl | rfl
 ·rw [g0,g0]; exact key 0
 ·rw [g1,g1]; exact key 1
 ·rw [g2,g2]; exact key 2
 ·rw [g3,g3]; exact key 4
 ·rw [g4,g4]; exact key 3
theorem Yw {a a':Int} (h:lg a a') (ha:a=0∨a=1∨a=2):lg (kK a) (kK a'):=by
 have e:∀ a,kK a=bif a == 0 then 1 else bif a == 1 then 0 else 2:=fun a=>by kernel_rfl
 rcases ha with rfl | rfl | rfl
 ·rw [h (by decide)]; exact lg.rfl' _
 ·rw [h (by decide)]; exact lg.rfl' _
 ·exact .op (by rw [e]; rfl)
theorem adb {a a' b b':Int} (ha:lg a a') (hb:lg b b'):lg (dN a b) (dN a' b'):=by
 rw [Ny,Ny,Vo,Vo]
 simp only [List.mem_cons,List.not_mem_nil,or_false]
 intro k
 unfold lg at *
 by_cases z:0=a∨0=b
 ·have z':0=a'∨0=b':=by
   rcases z with z | z
   ·exact .inl (by rw [ha (by omega)]; exact z)
   ·exact .inr (by rw [hb (by omega)]; exact z)
  rw [if_pos z,if_pos z']
 ·rw [if_neg z] at k ⊢
  by_cases t:2=a∨2=b
  ·rw [if_pos t] at k; exact absurd rfl k
  ·rw [ha (by omega),hb (by omega),if_neg z]
def Dq (x:cx) (c:Claim) (d:Int):Int:=kK (dN (cN x c d) (kK (fj x 5 c d)))
theorem ade (a:ma):fS a=0∨fS a=1∨fS a=2:=by
 have e:fS a=bif a.err != 0 then 0 else bif !a.cell.known then 2 else bif a.cell.n != 0 then 1 else 0:=by kernel_rfl
 rw [e]
 cases a.err != 0 <;> cases !a.cell.known <;> cases a.cell.n != 0 <;> simp
theorem QE {x x':cx} {F:List Fact} (h:abZ x x' F) {c c':Claim} (hk:keyOf c'=keyOf c) {d:Int} (hd:0≤d∧d < 7) (h5:d≠5∧d≠6):lg (Dq x c d) (Dq x' c' d):=by
 unfold Dq
 refine Yw (adb (ab0 h hk hd h5) (Yw (ada h hk 5 d) ?_)) (Ih _ _)
 have e:fj x 5 c d=fS (nk x.r x.forum 5 ⟨x.files.getD x.s.file.toNat default,c.sign,c.c9,d,bJ x.r x.forum (x.files.getD x.s.file.toNat default) x.day,x.day⟩):=by kernel_rfl
 rw [e]; exact ade _
theorem ab1 {a b:Int}:dN a b=0↔a=0∨b=0:=by
 rw [Ny,Vo]
 simp only [List.mem_cons,List.not_mem_nil,or_false]
 by_cases z:0=a∨0=b
 ·rw [if_pos z]; exact ⟨fun _=>z.elim (fun e=>.inl e.symm) (fun e=>.inr e.symm),fun _=>rfl⟩
 ·rw [if_neg z]
  refine ⟨fun e=>?_,fun e=>absurd (e.elim (fun e=>.inl e.symm) (fun e=>.inr e.symm)) z⟩
  split at e <;> simp at e
theorem QF (x:cx) (c:Claim):∀ (D:List Int) (st:Int),D.foldl (awf x c) st=0↔st=0∨∃ d,d∈D∧Dq x c d=0
 | [],st=>by simp
 | d :: r,st=>by
  rw [List.foldl_cons,QF x c r]
  unfold awf
  rw [ab1,or_assoc]
  refine or_congr Iff.rfl ?_
  simp only [List.mem_cons]
  constructor
  ·rintro (h | ⟨e,h,k⟩)
   ·exact ⟨d,.inl rfl,h⟩
   ·exact ⟨e,.inr h,k⟩
  ·rintro ⟨e,rfl | h,k⟩
   ·exact .inl k
   ·exact .inr ⟨e,h,k⟩
theorem NQ {s:cS} {c c':Claim} (hk:keyOf c'=keyOf c):wP s c'↔wP s c:=by
 unfold keyOf at hk
 simp only [Prod.mk.injEq] at hk
 unfold wP
 rw [hk.1,hk.2.1,hk.2.2.2.1]
theorem ab2 (x:cx) {c:Claim} (h:c.state=1∨c.state=2) (D:List Int):zI x c D=0∨zI x c D=1∨zI x c D=2:=by
 have:∀ (D:List Int) (st:Int),(st=0∨st=1∨st=2)→(D.foldl (awf x c) st=0∨D.foldl (awf x c) st=1∨D.foldl (awf x c) st=2):=by
  intro D
  induction D with
  | nil=>exact fun st h=>h
  | cons d r ih=>exact fun st _=>ih _ (Ih _ _)
 exact this D _ (.inr h)
theorem VB {x x':cx} {F:List Fact} (h:abZ x x' F) {D:List Int} (hD:∀ d,d∈D→(0≤d∧d < 7)∧d≠5∧d≠6) {l l':List Claim} {cur:Int}
  (hl:∀ i,i < l.length→Gn (l.getD i default)) (KS:∀ i,i < l'.length→Gn (l'.getD i default))
  (g1:∀ c,c∈l→c.state=1→∃ c',c'∈l'∧keyOf c'=keyOf c∧c'.state=1∧c.sum≤c'.sum) (g2:∀ c',c'∈l'→∃ c,c∈l∧keyOf c'=keyOf c) :
  ((sB 0 cur (dx x D l l.length)).state=1→(sB 0 cur (dx x' D l' l'.length)).state=1∧(sB 0 cur (dx x D l l.length)).sum≤(sB 0 cur (dx x' D l' l'.length)).sum) ∧
  ((sB 0 cur (dx x D l l.length)).state=0→sB 0 cur (dx x' D l' l'.length)=sB 0 cur (dx x D l l.length)):=by
 have mg:∀ {l:List Claim} {c:Claim},c∈l→∃ i,i < l.length∧l.getD i default=c:=fun {l c} hc=>by
  obtain ⟨i,hi,rfl⟩:=List.getElem_of_mem hc
  exact ⟨i,hi,by simp [List.getD,hi]⟩
 have gm:∀ {l:List Claim} {i:Nat},i < l.length→l.getD i default∈l:=fun {l i} hi=>by
  rw [List.getD_eq_getElem?_getD,List.getElem?_eq_getElem hi]; exact List.getElem_mem _
 have t1:=Vd x D l 1 l.length
 have t1':=Vd x' D l' 1 l'.length
 have t2:=Vd x D l 2 l.length
 have t2':=Vd x' D l' 2 l'.length
 have yes:∀ i,i < l.length→wP x.s (l.getD i default)→zI x (l.getD i default) D=1→∃ j,j < l'.length∧wP x'.s (l'.getD j default)∧zI x' (l'.getD j default) D=1∧(l.getD i default).sum≤(l'.getD j default).sum:=by
  intro i hi hI hS
  obtain ⟨s1,s2⟩:=(Vc (hl i hi).2 D).1 hS
  obtain ⟨c',m,k,st,su⟩:=g1 _ (gm hi) s1
  obtain ⟨j,hj,rfl⟩:=mg m
  refine ⟨j,hj,by rw [h.s]; exact (NQ k).2 hI,(Vc (KS j hj).2 D).2 ⟨st,fun d hd=>?_⟩,su⟩
  have q:=s2 d hd
  have e:=QE h k (hD d hd).1 (hD d hd).2 (show Dq x (l.getD i default) d≠2 from q.2)
  have e:kK (dN (cN x' (l'.getD j default) d) (kK (fj x' 5 (l'.getD j default) d)))=Dq x (l.getD i default) d:=e
  unfold Idle
  rw [e]
  exact q
 constructor
 ·intro hs
  have h1:cT (dx x D l l.length).2 1 false=true:=by
   by_cases h1:cT (dx x D l l.length).2 1 false=true
   ·exact h1
   ·by_cases h2:cT (dx x D l l.length).2 2 false=true
    ·rw [Yk h1 h2] at hs; simp at hs
    ·rw [Sn h1 h2] at hs; simp at hs
  obtain ⟨i,a,b,c⟩:=t1.has.1 h1
  obtain ⟨j,ja,jb,jc,-⟩:=yes i a b c
  have h1':cT (dx x' D l' l'.length).2 1 false=true:=t1'.has.2 ⟨j,ja,jb,jc⟩
  rw [Sm h1,Sm h1']
  refine ⟨rfl,?_⟩
  show cT (dx x D l l.length).1 1 0≤cT (dx x' D l' l'.length).1 1 0
  rcases t1.eq with e | ⟨i,ia,ib,ic,id⟩
  ·have:=t1'.ge; omega
  ·rw [← id]
   obtain ⟨j,ja,jb,jc,jd⟩:=yes i ia ib ic
   have:=t1'.le j ja jb jc
   omega
 ·intro hs
  have h1:¬ cT (dx x D l l.length).2 1 false=true:=fun h1=>by rw [Sm h1] at hs; simp at hs
  have h2:¬ cT (dx x D l l.length).2 2 false=true:=fun h2=>by rw [Yk h1 h2] at hs; simp at hs
  have zero:∀ i,i < l.length→wP x.s (l.getD i default)→zI x (l.getD i default) D=0:=fun i hi hI=>by
   rcases ab2 x (hl i hi).2 D with e | e | e
   ·exact e
   ·exact absurd (t1.has.2 ⟨i,hi,hI,e⟩) h1
   ·exact absurd (t2.has.2 ⟨i,hi,hI,e⟩) h2
  have adL:∀ j,j < l'.length→wP x'.s (l'.getD j default)→zI x' (l'.getD j default) D=0:=fun j hj hI=>by
   obtain ⟨c,m,k⟩:=g2 _ (gm hj)
   obtain ⟨i,hi,rfl⟩:=mg m
   rw [h.s,NQ k] at hI
   have z:=zero i hi hI
   unfold zI at z ⊢
   rw [QF] at z ⊢
   rcases z with z | ⟨d,hd,z⟩
   ·have:=(hl i hi).2; omega
   ·refine .inr ⟨d,hd,?_⟩
    rw [QE h k (hD d hd).1 (hD d hd).2 (by rw [z]; decide),z]
  have h1':¬ cT (dx x' D l' l'.length).2 1 false=true:=fun q=>by
   obtain ⟨j,a,b,c⟩:=t1'.has.1 q
   rw [adL j a b] at c
   exact absurd c (by decide)
  have h2':¬ cT (dx x' D l' l'.length).2 2 false=true:=fun q=>by
   obtain ⟨j,a,b,c⟩:=t2'.has.1 q
   rw [adL j a b] at c
   exact absurd c (by decide)
  rw [Sn h1 h2,Sn h1' h2']
def lV (r:ah) (files:List ak) (s:cS) (aB:List Int) (day:Int) (facts:List Fact):Sk (Bool) :=
 .r 1 CI.c fun x1 =>
 .r 2 (.o [.eG (fm cS.E [s])]) fun _ =>
 .r 3 (.dep (((Ig r files [s] []).nil 3 ⟨_,rfl⟩).c) fun x2=>.wh (((((!x2)||(decide (((aB.length:Nat):Int) > 8)))||(decide (((facts.length:Nat):Int) > 60)))||(decide (day < s.day)))||(decide (day > 100000))) false (((iP r files [s] []).nil 3 ⟨_,rfl⟩).c)) fun p16 =>
 .br ((((((!p16.1)||(decide (((aB.length:Nat):Int) > 8)))||(decide (((facts.length:Nat):Int) > 60)))||(decide (day < s.day)))||(decide (day > 100000)))||(p16.2 != 0))
 (.fin x1)
 (.bind true (fun b4=>∀ q,q < aB.length→(0≤aB.getD q default∧aB.getD q default < 7)∧aB.getD q default≠5∧aB.getD q default≠6)
 (.loop (default:Sum (Bool) (Unit)) (fun i5=>i5≤aB.length∧∀ q,q < i5→(0≤aB.getD q default∧aB.getD q default < 7)∧aB.getD q default≠5∧aB.getD q default≠6) (fun i5=>aB.length - i5) (0:Nat)
 (fun (i5:Nat)=>⟨[(15,iv (i5:Int))],[]⟩) fun i5 =>
 .lt 3 0 i5 aB.length
 (.r 8 (.aj (.p (bU (i5:Int) aB.length)) (.aj (.wh (decide ((aB.getD i5 default) < 0)) false (.p (bU (i5:Int) aB.length))) (.aj (.wh ((decide ((aB.getD i5 default) < 0))||(decide ((aB.getD i5 default)≥7))) false (.p (bU (i5:Int) aB.length))) (.wh (((decide ((aB.getD i5 default) < 0))||(decide ((aB.getD i5 default)≥7)))||((aB.getD i5 default) == 5)) false (.p (bU (i5:Int) aB.length)))))) fun _ =>
 .br ((((decide ((aB.getD i5 default) < 0))||(decide ((aB.getD i5 default)≥7)))||((aB.getD i5 default) == 5))||((aB.getD i5 default) == 6))
 (.fin (.inl (.inl x1)))
 (.nx 7 15 i5 (i5+1)))
 (.fin (.inl (.inr ()))))
 (fun (_:Unit)=>⟨[],[]⟩) fun _ =>
 .r 10 (.aj (.o [.eG (fm ak.E ([]:List ak))]) (.aj (.o [.eG (mX ak.E ([]:List ak) files)]) (.aj (.t (ak.E.src files)) (.p (yB (([]:List ak).length) files.length 216))))) fun _ =>
 .bind true (fun b6=>D8 files b6 s.file.toNat facts.length)
 (.loop (default:Sum (Bool) ((List ak))) (fun i7=>i7.2≤facts.length∧D8 files i7.1 s.file.toNat i7.2) (fun i7=>facts.length - i7.2) ((([]:List ak)++files,0):(List ak) × Nat)
 (fun (i7:(List ak) × Nat)=>⟨[(16,ow 100002 i7.1),(17,iv (i7.2:Int))],[(100002,bw 50 19 ak.cells i7.1)]⟩) fun i7 =>
 .lt 5 0 i7.2 facts.length
 (.r 14 (.aj (.p (bU s.file i7.1.length)) (.aj (.p (s.file.toNat < i7.1.length)) (.aj (.p (bU (i7.2:Int) facts.length)) (.py ((EU (i7.1.getD s.file.toNat default) (facts.getD i7.2 default)).c) fun x8=>.aj (.p (bU s.file i7.1.length)) (.aj (.o [.eG (uf ak.E i7.1 s.file.toNat x8)]) (.p (s.file.toNat < i7.1.length))))))) fun x8 =>
 .wn 100002 i7.1.length (i7.1.set s.file.toNat x8).length <|
 .nx 13 17 i7.2 (i7.1.set s.file.toNat x8,i7.2+1))
 (.fin (.inl (.inr i7.1))))
 (fun (b6:(List ak))=>⟨[(16,ow 100001 b6)],[(100001,bw 50 19 ak.cells b6)]⟩) fun b6 =>
 .r 15 (.dep ((vm s aB day).c) fun x9=>(pd r files [s] x9 0).c) fun p15 =>
 .r 16 (.dep ((vm s aB day).c) fun x11=>(pd r b6 [s] x11 0).c) fun Mk =>
 .r 17 (((iP r b6 [s] []).nil 3 ⟨_,rfl⟩).c) fun J7 =>
 .br (J7 != 0)
 (.fin x1)
 (.fin ((((x1&&(p15.2.2 == 0))&&(Mk.2.2 == 0))&&((p15.2.1.state != 1)||((Mk.2.1.state == 1)&&(decide (Mk.2.1.sum≥p15.2.1.sum)))))&&((p15.2.1.state != 0)||((Mk.2.1.aL == p15.2.1.aL)&&((Mk.2.1.sum == p15.2.1.sum)&&((Mk.2.1.au == p15.2.1.au)&&((Mk.2.1.state == p15.2.1.state)&&true))))))))
def pU r files s aB day facts:=(lV r files s aB day facts).val
theorem xL (r:ah) (files:List ak) (s:cS) (aB:List Int) (day:Int) (facts:List Fact):(lV r files s aB day facts).dj (fun (x:Bool)=>x=true):=by
 refine Sk.bz _ ?_
 unfold lV
 simp only [Sk.de,Sk.aI,reduceCtorEq,ON,kk,kp,Ig,vm,CI,EU,pd,iP,maxLen]
 have nx:∀ {p:Nat→Prop} {i:Nat},(∀ q,q < i→p q)→p i→∀ q,q < i+1→p q:=fun h h0 q hq=>by
  rcases Nat.lt_succ_iff_lt_or_eq.1 hq with h1 | rfl
  ·exact h q h1
  ·exact h0
 simp only [LN]
 intro x1 _ KA _ p hp ab3
 refine ⟨fun _=>KA,fun hc=>⟨⟨⟨Nat.zero_le _,fun q hq=>absurd hq (by omega)⟩,fun i hi=>⟨fun gH _=>⟨fun _=>KA,fun h _=>⟨⟨by omega,nx hi.2 ⟨h.1.1,h.1.2,h.2⟩⟩,by omega⟩⟩,fun SH q hq=>hi.2 q (by omega)⟩⟩,fun _ hD _=>⟨⟨⟨Nat.zero_le _,D8.init files _⟩,fun i hi=>⟨fun gH x hx _=>⟨⟨by omega,by rw [hx]; exact hi.2.step _⟩,by omega⟩,fun SH=>?_⟩⟩,fun b hb x4 h4 _ x5 h5 _ x6 h6 hx6=>⟨fun _=>KA,fun hz=>?_⟩⟩⟩⟩
 ·have e:i.2=facts.length:=by omega
  have:=hi.2
  rwa [e] at this
 obtain ⟨⟨⟨⟨⟨f1,f2⟩,f2b⟩,f3⟩,f4⟩,f5⟩:=hc
 obtain ⟨r1,r2,r3,r4,r5,r6⟩:=ab3.1 f1
 obtain ⟨c1,c2,c3⟩:=ab3.2.1 f5
 obtain ⟨c1',c2',c3'⟩:=hx6.1 hz
 have hck:nN r files [s] []=0:=by rw [hp] at f5; exact f5
 have aii:nN r b [s] []=0:=by rw [← h6]; exact hz
 have hS:sK r files.length s:=c3 0 (by omega)
 have abG:0≤s.file∧s.file < (files.length:Int):=by unfold sK at hS; omega
 have hF:cb r (files.getD s.file.toNat default):=(lD r _ r5 (c2 s.file.toNat (by omega))).1
 obtain ⟨b1,b2,b3⟩:=hb
 have hF':cb r (b.getD s.file.toNat default):=(lD r _ r5 (c2' s.file.toNat (by omega))).1
 obtain ⟨⟨F,hFe,hm⟩,-⟩:=b3 (by omega)
 rw [hFe] at hF'
 have hDm:∀ d,d∈aB→(0≤d∧d < 7)∧d≠5∧d≠6:=by
  intro d hd
  obtain ⟨q,hq,rfl⟩:=List.getElem_of_mem hd
  have:=hD q hq
  rwa [List.getD_eq_getElem?_getD,List.getElem?_eq_getElem hq] at this
 have v4:x4.2=(awT r files s 0 day (counts (s.kind == 1) aB),0):=by
  rw [h4,show AM s aB day=PC s aB day from A7 s aB day]
  exact Qu hck (by omega) f3 f4 (fun d hd=>(hDm d hd).1)
 have v5:x5.2=(awT r b s 0 day (counts (s.kind == 1) aB),0):=by
  rw [h5,show AM s aB day=PC s aB day from A7 s aB day]
  exact Qu aii (by omega) f3 f4 (fun d hd=>(hDm d hd).1)
 have aij:abZ (xI r files s day) (xI r b s day) F:=⟨rfl,rfl,rfl,rfl,hFe,hm⟩
 obtain ⟨g1,g2⟩:=VA (forum:=s.forum) (day:=day) hm hF hF' r4
 have AP:∀ f,cb r f→∀ i,i < (cG r s.forum f day).length→Gn ((cG r s.forum f day).getD i default):=by
  intro f hf i hi
  refine abJ (r:=r) (forum:=s.forum) (day:=day) hf r4 ?_
  rw [List.getD_eq_getElem?_getD,List.getElem?_eq_getElem hi]
  exact List.getElem_mem _
 have K:=VB aij (D:=counts (s.kind == 1) aB) (cur:=(files.getD s.file.toNat default).aU.au) (fun d hd=>hDm d (List.mem_filter.1 hd).1) (AP _ hF) (AP _ hF') g1 g2
 have eb:awT r b s 0 day (counts (s.kind == 1) aB)=sB 0 (files.getD s.file.toNat default).aU.au (dx (xI r b s day) (counts (s.kind == 1) aB) (cG r s.forum { files.getD s.file.toNat default with facts:=F } day) (cG r s.forum { files.getD s.file.toNat default with facts:=F } day).length):=by
  unfold awT
  rw [hFe]
 rw [v4,v5,eb]
 have ea:awT r files s 0 day (counts (s.kind == 1) aB)=sB 0 (files.getD s.file.toNat default).aU.au (dx (xI r files s day) (counts (s.kind == 1) aB) (cG r s.forum (files.getD s.file.toNat default) day) (cG r s.forum (files.getD s.file.toNat default) day).length):=rfl
 rw [ea]
 obtain ⟨K1,K2⟩:=K
 refine ⟨⟨⟨⟨KA,rfl⟩,rfl⟩,?_⟩,?_⟩
 ·by_cases hs:(sB 0 (files.getD s.file.toNat default).aU.au (dx (xI r files s day) (counts (s.kind == 1) aB) (cG r s.forum (files.getD s.file.toNat default) day) (cG r s.forum (files.getD s.file.toNat default) day).length)).state=1
  ·exact .inr ⟨(K1 hs).1,(K1 hs).2⟩
  ·exact .inl hs
 ·by_cases hs:(sB 0 (files.getD s.file.toNat default).aU.au (dx (xI r files s day) (counts (s.kind == 1) aB) (cG r s.forum (files.getD s.file.toNat default) day) (cG r s.forum (files.getD s.file.toNat default) day).length)).state=0
  ·right
   rw [K2 hs]
   exact ⟨rfl,rfl,rfl,rfl,trivial⟩
  ·exact .inl hs
theorem EZ (r:ah) (files:List ak) (s:cS) (aB:List Int) (day:Int) (facts:List Fact):(fun (x:Bool)=>x=true) (pU r files s aB day facts):=have h:=Sk.dk _ (xL r files s aB day facts); h
theorem Il (r:ah) (files:List ak) (s:cS) (aB:List Int) (day:Int) (facts:List Fact):(lV r files s aB day facts).bC (fun _=>True):=by
 refine Sk.aR _ ?_
 unfold lV
 simp only [Sk.jt,Sk.aI,reduceCtorEq,ON,kk,kp,Ig,vm,CI,EU,pd,iP,maxLen]
 have nx:∀ {p:Nat→Prop} {i:Nat},(∀ q,q < i→p q)→p i→∀ q,q < i+1→p q:=fun h h0 q hq=>by
  rcases Nat.lt_succ_iff_lt_or_eq.1 hq with h1 | rfl
  ·exact h q h1
  ·exact h0
 have wi:∀ n m:Nat,n < m→m≤9223372036854775807→ar ((n:Int)+1)=((n+1:Nat):Int):=fun n m h h0=>by rw [aA (by omega) (by omega)]; omega
 simp only [LN]
 intro x1 _ KA _
 refine ⟨fun y _ hy h=>(hy h.1.1.1.1).1,fun p hp ab3 hc=>?_⟩
 obtain ⟨⟨⟨⟨⟨f1,f2⟩,f2b⟩,f3⟩,f4⟩,f5⟩:=hc
 obtain ⟨r1,r2,r3,r4,r5,r6⟩:=ab3.1 f1
 obtain ⟨c1,c2,c3⟩:=ab3.2.1 f5
 have hS:sK r files.length s:=c3 0 (by omega)
 have abG:0≤s.file∧s.file < (files.length:Int):=by unfold sK at hS; omega
 have hF:cb r (files.getD s.file.toNat default):=(lD r _ r5 (c2 s.file.toNat (by omega))).1
 have hsm:∀ (n:Nat) (b:List ak),D8 files b s.file.toNat n→n≤60→b.length=files.length∧(b.getD s.file.toNat default).facts.length≤1000000∧∀ q,q < b.length→(b.getD q default).Small:=by
  intro n b ⟨b1,b2,b3⟩ hn
  obtain ⟨⟨F,hFe,-⟩,hlen⟩:=b3 (by omega)
  have hfa:=hF.2.1.2.2.2.2
  refine ⟨b1,by omega,fun q hq=>?_⟩
  by_cases e:q=s.file.toNat
  ·subst e
   have:=r6 c1.1 s.file.toNat (by omega)
   unfold ak.Small at this ⊢
   rw [hFe] at hlen ⊢
   dsimp only at hlen ⊢
   omega
  ·rw [b2 q e]; exact r6 c1.1 q (by omega)
 refine ⟨⟨⟨Nat.zero_le _,fun q hq=>absurd hq (by omega)⟩,fun i hi hm=>⟨fun gH=>⟨⟨⟨by omega,by omega⟩,fun _=>⟨by omega,by omega⟩,fun _=>⟨by omega,by omega⟩,fun _=>⟨by omega,by omega⟩⟩,fun _ h _=>⟨wi _ _ (by omega) hm,⟨by omega,nx hi.2 ⟨h.1.1,h.1.2,h.2⟩⟩,by omega⟩⟩,fun SH q hq=>hi.2 q (by omega)⟩⟩,fun _ hD=>⟨⟨by omega,by omega⟩,fun _=>⟨⟨⟨Nat.zero_le _,D8.init files _⟩,fun i hi hm=>?_⟩,fun b hb=>⟨⟨by omega,fun _ _ _=>⟨r1,r2,r3,r4,r5,r6⟩⟩,fun x4 _ _=>⟨⟨by omega,fun _ _ _=>⟨r1,r2,r3,r4,r5,fun _=>(hsm _ b hb (by omega)).2.2⟩⟩,fun x5 _ _=>r1⟩⟩⟩⟩⟩
 obtain ⟨l1,l2,-⟩:=hsm i.2 i.1 hi.2 (by omega)
 refine ⟨fun gH=>⟨⟨⟨by omega,by omega⟩,by omega,⟨by omega,by omega⟩,l2,fun x _=>⟨⟨by omega,by omega⟩,by omega⟩⟩,fun x hx=>⟨by trivial,fun _=>⟨wi _ _ (by omega) hm,⟨by omega,by rw [hx]; exact hi.2.step _⟩,by omega⟩⟩⟩,fun SH=>?_⟩
 have e:i.2=facts.length:=by omega
 have:=hi.2
 rwa [e] at this
def Kn r files s aB day facts:=kp tok mixed Tryz.func3 [av r.cells,lv ak.cells files,av s.cells,lv bI aB,iv day,lv Fact.cells facts] (fun x=>bv x) true (pU r files s aB day facts) (u0 (Il r files s aB day facts)) (xL r files s aB day facts)
theorem Im (r:ah) (files:List ak) (s:cS) (aB:List Int) (day:Int) (facts:List Fact):gQ Tryz.prog 3 [av r.cells,lv ak.cells files,av s.cells,lv bI aB,iv day,lv Fact.cells facts] [] (bv (pU r files s aB day facts)) []:=(Kn r files s aB day facts).pf trivial
theorem SF {ds:List D} (h:eI TT 9 ds):∃ c:ByteArray,aP ds (kh c)∧(fun s:ByteArray=>s.size≤maxLen) c:=by
 obtain ⟨x,rfl,w⟩:=h.acp rfl rfl
 exact ⟨x,aP.refl _,w⟩
theorem aeR {ds:List D} (h:eI TT 22 ds):∃ l:List ByteArray,aP ds [nI kh l]∧(fun l=>∀ x,x∈l→(fun s:ByteArray=>s.size≤maxLen) x) l:=by
 obtain ⟨n,f,rfl,g⟩:=h.eV rfl rfl
 obtain ⟨l,y,-,w⟩:=jI kh (fun s:ByteArray=>s.size≤maxLen) (fun ds h=>SF h) g
 exact ⟨l,aP.one y,w⟩
theorem bT {ds:List D} (h:eI TT 3 ds):∃ c:Int,aP ds (bI c)∧(fun n=>dP n) c:=by
 obtain ⟨x,rfl,w⟩:=h.KB rfl rfl
 exact ⟨x,aP.refl _,acq w⟩
theorem Xq {ds:List D} (h:eI TT 35 ds):∃ l:List Int,aP ds [nI bI l]∧(fun l=>∀ x,x∈l→(fun n=>dP n) x) l:=by
 obtain ⟨n,f,rfl,g⟩:=h.eV rfl rfl
 obtain ⟨l,y,-,w⟩:=jI bI (fun n=>dP n) (fun ds h=>bT h) g
 exact ⟨l,aP.one y,w⟩
structure kO.ok (c:kO):Prop where
 name:(fun s:ByteArray=>s.size≤maxLen) c.name
 order:(fun n=>dP n) c.order
 au:(fun n=>dP n) c.au
 rest:(fun l=>∀ x,x∈l→(fun n=>dP n) x) c.rest
 gS:(fun l=>∀ x,x∈l→(fun n=>dP n) x) c.gS
 shut:(fun l=>∀ x,x∈l→(fun n=>dP n) x) c.shut
theorem kO.of {ds:List D} (h:eI TT 124 ds):∃ c:kO,aP ds c.cells∧c.ok:=by
 have q0:=h.dE rfl rfl
 obtain ⟨p0,r0,rfl,h0,q1⟩:=q0.cons_inv
 obtain ⟨x0,y0,w0⟩:=SF h0
 obtain ⟨p1,r1,rfl,h1,q2⟩:=q1.cons_inv
 obtain ⟨x1,y1,w1⟩:=bT h1
 obtain ⟨p2,r2,rfl,h2,q3⟩:=q2.cons_inv
 obtain ⟨x2,y2,w2⟩:=bT h2
 obtain ⟨p3,r3,rfl,h3,q4⟩:=q3.cons_inv
 obtain ⟨x3,y3,w3⟩:=Xq h3
 obtain ⟨p4,r4,rfl,h4,q5⟩:=q4.cons_inv
 obtain ⟨x4,y4,w4⟩:=Xq h4
 obtain ⟨p5,r5,rfl,h5,q6⟩:=q5.cons_inv
 obtain ⟨x5,y5,w5⟩:=Xq h5
 cases q6.jH
 refine ⟨⟨x0,x1,x2,x3,x4,x5⟩,?_,⟨w0,w1,w2,w3,w4,w5⟩⟩
 have hh:=(aP.append y0 (aP.append y1 (aP.append y2 (aP.append y3 (aP.append y4 (aP.append y5 aP.nil))))))
 simpa only [kO.cells,bI,kh,rA,List.append_assoc,List.cons_append,List.nil_append,List.append_nil] using hh
theorem aeS {ds:List D} (h:eI TT 23 ds):∃ l:List kO,aP ds [nI kO.cells l]∧(fun l=>∀ x,x∈l→kO.ok x) l:=by
 obtain ⟨n,f,rfl,g⟩:=h.eV rfl rfl
 obtain ⟨l,y,-,w⟩:=jI kO.cells kO.ok (fun ds h=>kO.of h) g
 exact ⟨l,aP.one y,w⟩
structure pz.ok (c:pz):Prop where
 T9:(fun n=>dP n) c.T9
theorem pz.of {ds:List D} (h:eI TT 127 ds):∃ c:pz,aP ds c.cells∧c.ok:=by
 have q0:=h.dE rfl rfl
 obtain ⟨p0,r0,rfl,h0,q1⟩:=q0.cons_inv
 obtain ⟨x0,y0,w0⟩:=bT h0
 cases q1.jH
 refine ⟨⟨x0⟩,?_,⟨w0⟩⟩
 have hh:=(aP.append y0 aP.nil)
 simpa only [pz.cells,bI,kh,rA,List.append_assoc,List.cons_append,List.nil_append,List.append_nil] using hh
theorem aeT {ds:List D} (h:eI TT 24 ds):∃ l:List pz,aP ds [nI pz.cells l]∧(fun l=>∀ x,x∈l→pz.ok x) l:=by
 obtain ⟨n,f,rfl,g⟩:=h.eV rfl rfl
 obtain ⟨l,y,-,w⟩:=jI pz.cells pz.ok (fun ds h=>pz.of h) g
 exact ⟨l,aP.one y,w⟩
structure Dx.ok (c:Dx):Prop where
 name:(fun s:ByteArray=>s.size≤maxLen) c.name
 cH:(fun n=>dP n) c.cH
 group:(fun n=>dP n) c.group
theorem Dx.of {ds:List D} (h:eI TT 129 ds):∃ c:Dx,aP ds c.cells∧c.ok:=by
 have q0:=h.dE rfl rfl
 obtain ⟨p0,r0,rfl,h0,q1⟩:=q0.cons_inv
 obtain ⟨x0,y0,w0⟩:=SF h0
 obtain ⟨p1,r1,rfl,h1,q2⟩:=q1.cons_inv
 obtain ⟨x1,y1,w1⟩:=bT h1
 obtain ⟨p2,r2,rfl,h2,q3⟩:=q2.cons_inv
 obtain ⟨x2,y2,w2⟩:=bT h2
 cases q3.jH
 refine ⟨⟨x0,x1,x2⟩,?_,⟨w0,w1,w2⟩⟩
 have hh:=(aP.append y0 (aP.append y1 (aP.append y2 aP.nil)))
 simpa only [Dx.cells,bI,kh,rA,List.append_assoc,List.cons_append,List.nil_append,List.append_nil] using hh
theorem aeU {ds:List D} (h:eI TT 25 ds):∃ l:List Dx,aP ds [nI Dx.cells l]∧(fun l=>∀ x,x∈l→Dx.ok x) l:=by
 obtain ⟨n,f,rfl,g⟩:=h.eV rfl rfl
 obtain ⟨l,y,-,w⟩:=jI Dx.cells Dx.ok (fun ds h=>Dx.of h) g
 exact ⟨l,aP.one y,w⟩
theorem Yx {ds:List D} (h:eI TT 4 ds):∃ c:Bool,aP ds (rA c)∧True:=by
 obtain ⟨x,rfl⟩:=h.aaJ rfl rfl
 exact ⟨x,aP.refl _,trivial⟩
structure Choice.ok (c:Choice):Prop where
 ask:(fun n=>dP n) c.ask
 c9:(fun n=>dP n) c.c9
 whole:(fun _=>True) c.whole
theorem Choice.of {ds:List D} (h:eI TT 166 ds):∃ c:Choice,aP ds c.cells∧c.ok:=by
 have q0:=h.dE rfl rfl
 obtain ⟨p0,r0,rfl,h0,q1⟩:=q0.cons_inv
 obtain ⟨x0,y0,w0⟩:=bT h0
 obtain ⟨p1,r1,rfl,h1,q2⟩:=q1.cons_inv
 obtain ⟨x1,y1,w1⟩:=bT h1
 obtain ⟨p2,r2,rfl,h2,q3⟩:=q2.cons_inv
 obtain ⟨x2,y2,w2⟩:=Yx h2
 cases q3.jH
 refine ⟨⟨x0,x1,x2⟩,?_,⟨w0,w1,w2⟩⟩
 have hh:=(aP.append y0 (aP.append y1 (aP.append y2 aP.nil)))
 simpa only [Choice.cells,bI,kh,rA,List.append_assoc,List.cons_append,List.nil_append,List.append_nil] using hh
theorem adf {ds:List D} (h:eI TT 118 ds):∃ l:List Choice,aP ds [nI Choice.cells l]∧(fun l=>∀ x,x∈l→Choice.ok x) l:=by
 obtain ⟨n,f,rfl,g⟩:=h.eV rfl rfl
 obtain ⟨l,y,-,w⟩:=jI Choice.cells Choice.ok (fun ds h=>Choice.of h) g
 exact ⟨l,aP.one y,w⟩
theorem Term.adg {t:Nat} {ds:List D} (h:eI TT t ds):(t=159→∃ c:Term,aP ds c.l7)∧(t=157→∃ l:List Term,aP ds [nI Term.l7 l]):=by
 refine eI.rec (motive_1:=fun t ds _=>(t=159→∃ c:Term,aP ds c.l7)∧(t=157→∃ l:List Term,aP ds [nI Term.l7 l]))
  (motive_2:=fun ts ds _=>(ts=[]→ds=[])∧(ts=[157]→∃ l:List Term,aP ds [nI Term.l7 l])∧(ts=[3,157]→∃ (n:Int) (l:List Term),aP ds [dI n,nI Term.l7 l])∧(ts=[3,3,157]→∃ (m n:Int) (l:List Term),aP ds [dI m,dI n,nI Term.l7 l])) ?_ ?_ ?_ ?_ ?_ ?_ ?_ h
 ·intro t i k hi hk n hw
  exact ⟨fun e=>(by subst e; cases hi; cases hk),fun e=>(by subst e; cases hi; cases hk)⟩
 ·intro t i hi hk b
  exact ⟨fun e=>(by subst e; cases hi; cases hk),fun e=>(by subst e; cases hi; cases hk)⟩
 ·intro t i hi hk s hw
  exact ⟨fun e=>(by subst e; cases hi; cases hk),fun e=>(by subst e; cases hi; cases hk)⟩
 ·intro t e i hi hk n f hh ih
  refine ⟨fun e=>(by subst e; cases hi; cases hk),fun e=>?_⟩
  subst e
  cases hi
  cases hk
  classical
  let g:Nat→Term:=fun j=>if hj:j < n then ((ih j hj).1 rfl).choose else default
  have hg:∀ j,j < n→aP (f j) (g j).l7:=fun j hj=>by
   simp only [g,hj,dif_pos]
   exact ((ih j hj).1 rfl).choose_spec
  refine ⟨(List.range n).map g,aP.one ?_⟩
  have e:nI Term.l7 ((List.range n).map g)=.sl n fun i=>Term.l7 (((List.range n).map g).getD i default):=by simp [nI]
  rw [e]
  refine uc.adr fun i hi=>?_
  have:((List.range n).map g).getD i default=g i:=by simp [List.getD,hi]
  rw [this]
  exact hg i hi
 ·intro t i fs hi hk ds hs ih
  refine ⟨fun e=>?_,fun e=>(by subst e; cases hi; cases hk)⟩
  subst e
  cases hi
  cases hk
  obtain ⟨m,n,l,hl⟩:=ih.2.2.2 rfl
  refine ⟨⟨m,n,l⟩,?_⟩
  have h2:=(Term.Ub ⟨m,n,l⟩).2
  have:aP [dI m,dI n,nI Term.l7 l] (Term.l7 ⟨m,n,l⟩):=aP.cons uc.rfl' (aP.cons uc.rfl' (aP.one h2))
  exact ⟨hl.1.trans this.1,fun j hj=>(hl.2 j hj).trans (this.2 j (by rw [← hl.1]; exact hj))⟩
 ·exact ⟨fun _=>rfl,fun e=>(by cases e),fun e=>(by cases e),fun e=>(by cases e)⟩
 ·intro t ts p ds hp hs ih1 ih2
  refine ⟨fun e=>(by cases e),fun e=>?_,fun e=>?_,fun e=>?_⟩
  ·cases e
   obtain ⟨l,hl⟩:=ih1.2 rfl
   have:=ih2.1 rfl
   subst this
   exact ⟨l,by simpa using hl⟩
  ·cases e
   obtain ⟨x,rfl,w⟩:=hp.KB rfl rfl
   obtain ⟨l,hl⟩:=ih2.2.1 rfl
   exact ⟨x,l,aP.append (aP.refl _) hl⟩
  ·cases e
   obtain ⟨x,rfl,w⟩:=hp.KB rfl rfl
   obtain ⟨n,l,hl⟩:=ih2.2.2.1 rfl
   exact ⟨x,n,l,aP.append (aP.refl _) hl⟩
theorem Term.ofR {ds:List D} (h:eI TT 159 ds):∃ c:Term,aP ds c.l7∧True:=by
 obtain ⟨c,hc⟩:=(Term.adg h).1 rfl
 exact ⟨c,hc,trivial⟩
theorem Term.of {ds:List D} (h:eI TT 159 ds):∃ c:Term,aP ds c.cells∧True:=by
 obtain ⟨c,hc,_⟩:=Term.ofR h
 have hu:=c.LM
 exact ⟨c,⟨hc.1.trans hu.1,fun j hj=>(hc.2 j hj).trans (hu.2 j (by rw [← hc.1]; exact hj))⟩,trivial⟩
structure vS.ok (c:vS):Prop where
 ask:(fun n=>dP n) c.ask
 term:(fun _=>True) c.term
theorem vS.of {ds:List D} (h:eI TT 161 ds):∃ c:vS,aP ds c.cells∧c.ok:=by
 have q0:=h.dE rfl rfl
 obtain ⟨p0,r0,rfl,h0,q1⟩:=q0.cons_inv
 obtain ⟨x0,y0,w0⟩:=bT h0
 obtain ⟨p1,r1,rfl,h1,q2⟩:=q1.cons_inv
 obtain ⟨x1,y1,w1⟩:=Term.of h1
 cases q2.jH
 refine ⟨⟨x0,x1⟩,?_,⟨w0,w1⟩⟩
 have hh:=(aP.append y0 (aP.append y1 aP.nil))
 simpa only [vS.cells,bI,kh,rA,List.append_assoc,List.cons_append,List.nil_append,List.append_nil] using hh
theorem adh {ds:List D} (h:eI TT 119 ds):∃ l:List vS,aP ds [nI vS.cells l]∧(fun l=>∀ x,x∈l→vS.ok x) l:=by
 obtain ⟨n,f,rfl,g⟩:=h.eV rfl rfl
 obtain ⟨l,y,-,w⟩:=jI vS.cells vS.ok (fun ds h=>vS.of h) g
 exact ⟨l,aP.one y,w⟩
structure Order.ok (c:Order):Prop where
 name:(fun s:ByteArray=>s.size≤maxLen) c.name
 KD:(fun _=>True) c.KD
 ba:(fun l=>∀ x,x∈l→Choice.ok x) c.ba
 rules:(fun l=>∀ x,x∈l→vS.ok x) c.rules
theorem Order.of {ds:List D} (h:eI TT 121 ds):∃ c:Order,aP ds c.cells∧c.ok:=by
 have q0:=h.dE rfl rfl
 obtain ⟨p0,r0,rfl,h0,q1⟩:=q0.cons_inv
 obtain ⟨x0,y0,w0⟩:=SF h0
 obtain ⟨p1,r1,rfl,h1,q2⟩:=q1.cons_inv
 obtain ⟨x1,y1,w1⟩:=Yx h1
 obtain ⟨p2,r2,rfl,h2,q3⟩:=q2.cons_inv
 obtain ⟨x2,y2,w2⟩:=adf h2
 obtain ⟨p3,r3,rfl,h3,q4⟩:=q3.cons_inv
 obtain ⟨x3,y3,w3⟩:=adh h3
 cases q4.jH
 refine ⟨⟨x0,x1,x2,x3⟩,?_,⟨w0,w1,w2,w3⟩⟩
 have hh:=(aP.append y0 (aP.append y1 (aP.append y2 (aP.append y3 aP.nil))))
 simpa only [Order.cells,bI,kh,rA,List.append_assoc,List.cons_append,List.nil_append,List.append_nil] using hh
theorem aeV {ds:List D} (h:eI TT 26 ds):∃ l:List Order,aP ds [nI Order.cells l]∧(fun l=>∀ x,x∈l→Order.ok x) l:=by
 obtain ⟨n,f,rfl,g⟩:=h.eV rfl rfl
 obtain ⟨l,y,-,w⟩:=jI Order.cells Order.ok (fun ds h=>Order.of h) g
 exact ⟨l,aP.one y,w⟩
structure ev.ok (c:ev):Prop where
 from_:(fun n=>dP n) c.from_
 cM:(fun n=>dP n) c.cM
 days:(fun n=>dP n) c.days
theorem ev.of {ds:List D} (h:eI TT 131 ds):∃ c:ev,aP ds c.cells∧c.ok:=by
 have q0:=h.dE rfl rfl
 obtain ⟨p0,r0,rfl,h0,q1⟩:=q0.cons_inv
 obtain ⟨x0,y0,w0⟩:=bT h0
 obtain ⟨p1,r1,rfl,h1,q2⟩:=q1.cons_inv
 obtain ⟨x1,y1,w1⟩:=bT h1
 obtain ⟨p2,r2,rfl,h2,q3⟩:=q2.cons_inv
 obtain ⟨x2,y2,w2⟩:=bT h2
 cases q3.jH
 refine ⟨⟨x0,x1,x2⟩,?_,⟨w0,w1,w2⟩⟩
 have hh:=(aP.append y0 (aP.append y1 (aP.append y2 aP.nil)))
 simpa only [ev.cells,bI,kh,rA,List.append_assoc,List.cons_append,List.nil_append,List.append_nil] using hh
theorem aeW {ds:List D} (h:eI TT 27 ds):∃ l:List ev,aP ds [nI ev.cells l]∧(fun l=>∀ x,x∈l→ev.ok x) l:=by
 obtain ⟨n,f,rfl,g⟩:=h.eV rfl rfl
 obtain ⟨l,y,-,w⟩:=jI ev.cells ev.ok (fun ds h=>ev.of h) g
 exact ⟨l,aP.one y,w⟩
structure qT.ok (c:qT):Prop where
 from_:(fun n=>dP n) c.from_
 cM:(fun n=>dP n) c.cM
 num:(fun n=>dP n) c.num
 den:(fun n=>dP n) c.den
 since:(fun n=>dP n) c.since
theorem qT.of {ds:List D} (h:eI TT 133 ds):∃ c:qT,aP ds c.cells∧c.ok:=by
 have q0:=h.dE rfl rfl
 obtain ⟨p0,r0,rfl,h0,q1⟩:=q0.cons_inv
 obtain ⟨x0,y0,w0⟩:=bT h0
 obtain ⟨p1,r1,rfl,h1,q2⟩:=q1.cons_inv
 obtain ⟨x1,y1,w1⟩:=bT h1
 obtain ⟨p2,r2,rfl,h2,q3⟩:=q2.cons_inv
 obtain ⟨x2,y2,w2⟩:=bT h2
 obtain ⟨p3,r3,rfl,h3,q4⟩:=q3.cons_inv
 obtain ⟨x3,y3,w3⟩:=bT h3
 obtain ⟨p4,r4,rfl,h4,q5⟩:=q4.cons_inv
 obtain ⟨x4,y4,w4⟩:=bT h4
 cases q5.jH
 refine ⟨⟨x0,x1,x2,x3,x4⟩,?_,⟨w0,w1,w2,w3,w4⟩⟩
 have hh:=(aP.append y0 (aP.append y1 (aP.append y2 (aP.append y3 (aP.append y4 aP.nil)))))
 simpa only [qT.cells,bI,kh,rA,List.append_assoc,List.cons_append,List.nil_append,List.append_nil] using hh
theorem aeX {ds:List D} (h:eI TT 28 ds):∃ l:List qT,aP ds [nI qT.cells l]∧(fun l=>∀ x,x∈l→qT.ok x) l:=by
 obtain ⟨n,f,rfl,g⟩:=h.eV rfl rfl
 obtain ⟨l,y,-,w⟩:=jI qT.cells qT.ok (fun ds h=>qT.of h) g
 exact ⟨l,aP.one y,w⟩
structure Halt.ok (c:Halt):Prop where
 order:(fun n=>dP n) c.order
 from_:(fun n=>dP n) c.from_
 cM:(fun n=>dP n) c.cM
theorem Halt.of {ds:List D} (h:eI TT 135 ds):∃ c:Halt,aP ds c.cells∧c.ok:=by
 have q0:=h.dE rfl rfl
 obtain ⟨p0,r0,rfl,h0,q1⟩:=q0.cons_inv
 obtain ⟨x0,y0,w0⟩:=bT h0
 obtain ⟨p1,r1,rfl,h1,q2⟩:=q1.cons_inv
 obtain ⟨x1,y1,w1⟩:=bT h1
 obtain ⟨p2,r2,rfl,h2,q3⟩:=q2.cons_inv
 obtain ⟨x2,y2,w2⟩:=bT h2
 cases q3.jH
 refine ⟨⟨x0,x1,x2⟩,?_,⟨w0,w1,w2⟩⟩
 have hh:=(aP.append y0 (aP.append y1 (aP.append y2 aP.nil)))
 simpa only [Halt.cells,bI,kh,rA,List.append_assoc,List.cons_append,List.nil_append,List.append_nil] using hh
theorem aeY {ds:List D} (h:eI TT 29 ds):∃ l:List Halt,aP ds [nI Halt.cells l]∧(fun l=>∀ x,x∈l→Halt.ok x) l:=by
 obtain ⟨n,f,rfl,g⟩:=h.eV rfl rfl
 obtain ⟨l,y,-,w⟩:=jI Halt.cells Halt.ok (fun ds h=>Halt.of h) g
 exact ⟨l,aP.one y,w⟩
structure ah.ok (c:ah):Prop where
 cz:(fun l=>∀ x,x∈l→(fun s:ByteArray=>s.size≤maxLen) x) c.cz
 aN:(fun l=>∀ x,x∈l→kO.ok x) c.aN
 gh:(fun l=>∀ x,x∈l→pz.ok x) c.gh
 bu:(fun l=>∀ x,x∈l→Dx.ok x) c.bu
 aE:(fun l=>∀ x,x∈l→Order.ok x) c.aE
 bg:(fun l=>∀ x,x∈l→ev.ok x) c.bg
 bV:(fun l=>∀ x,x∈l→qT.ok x) c.bV
 eR:(fun l=>∀ x,x∈l→Halt.ok x) c.eR
theorem ah.of {ds:List D} (h:eI TT 31 ds):∃ c:ah,aP ds c.cells∧c.ok:=by
 have q0:=h.dE rfl rfl
 obtain ⟨p0,r0,rfl,h0,q1⟩:=q0.cons_inv
 obtain ⟨x0,y0,w0⟩:=aeR h0
 obtain ⟨p1,r1,rfl,h1,q2⟩:=q1.cons_inv
 obtain ⟨x1,y1,w1⟩:=aeS h1
 obtain ⟨p2,r2,rfl,h2,q3⟩:=q2.cons_inv
 obtain ⟨x2,y2,w2⟩:=aeT h2
 obtain ⟨p3,r3,rfl,h3,q4⟩:=q3.cons_inv
 obtain ⟨x3,y3,w3⟩:=aeU h3
 obtain ⟨p4,r4,rfl,h4,q5⟩:=q4.cons_inv
 obtain ⟨x4,y4,w4⟩:=aeV h4
 obtain ⟨p5,r5,rfl,h5,q6⟩:=q5.cons_inv
 obtain ⟨x5,y5,w5⟩:=aeW h5
 obtain ⟨p6,r6,rfl,h6,q7⟩:=q6.cons_inv
 obtain ⟨x6,y6,w6⟩:=aeX h6
 obtain ⟨p7,r7,rfl,h7,q8⟩:=q7.cons_inv
 obtain ⟨x7,y7,w7⟩:=aeY h7
 cases q8.jH
 refine ⟨⟨x0,x1,x2,x3,x4,x5,x6,x7⟩,?_,⟨w0,w1,w2,w3,w4,w5,w6,w7⟩⟩
 have hh:=(aP.append y0 (aP.append y1 (aP.append y2 (aP.append y3 (aP.append y4 (aP.append y5 (aP.append y6 (aP.append y7 aP.nil))))))))
 simpa only [ah.cells,bI,kh,rA,List.append_assoc,List.cons_append,List.nil_append,List.append_nil] using hh
structure sw.ok (c:sw):Prop where
 kind:(fun n=>dP n) c.kind
 n:(fun n=>dP n) c.n
 unit:(fun n=>dP n) c.unit
theorem sw.of {ds:List D} (h:eI TT 43 ds):∃ c:sw,aP ds c.cells∧c.ok:=by
 have q0:=h.dE rfl rfl
 obtain ⟨p0,r0,rfl,h0,q1⟩:=q0.cons_inv
 obtain ⟨x0,y0,w0⟩:=bT h0
 obtain ⟨p1,r1,rfl,h1,q2⟩:=q1.cons_inv
 obtain ⟨x1,y1,w1⟩:=bT h1
 obtain ⟨p2,r2,rfl,h2,q3⟩:=q2.cons_inv
 obtain ⟨x2,y2,w2⟩:=bT h2
 cases q3.jH
 refine ⟨⟨x0,x1,x2⟩,?_,⟨w0,w1,w2⟩⟩
 have hh:=(aP.append y0 (aP.append y1 (aP.append y2 aP.nil)))
 simpa only [sw.cells,bI,kh,rA,List.append_assoc,List.cons_append,List.nil_append,List.append_nil] using hh
structure rC.ok (c:rC):Prop where
 BS:(fun n=>dP n) c.BS
 mZ:(fun n=>dP n) c.mZ
 gj:(fun n=>dP n) c.gj
 sum:(fun n=>dP n) c.sum
 au:(fun n=>dP n) c.au
 df:sw.ok c.df
 day:(fun n=>dP n) c.day
 cH:(fun n=>dP n) c.cH
 AZ:(fun n=>dP n) c.AZ
 need:(fun n=>dP n) c.need
 mC:(fun n=>dP n) c.mC
 flags:(fun n=>dP n) c.flags
 parts:(fun n=>dP n) c.parts
theorem rC.of {ds:List D} (h:eI TT 45 ds):∃ c:rC,aP ds c.cells∧c.ok:=by
 have q0:=h.dE rfl rfl
 obtain ⟨p0,r0,rfl,h0,q1⟩:=q0.cons_inv
 obtain ⟨x0,y0,w0⟩:=bT h0
 obtain ⟨p1,r1,rfl,h1,q2⟩:=q1.cons_inv
 obtain ⟨x1,y1,w1⟩:=bT h1
 obtain ⟨p2,r2,rfl,h2,q3⟩:=q2.cons_inv
 obtain ⟨x2,y2,w2⟩:=bT h2
 obtain ⟨p3,r3,rfl,h3,q4⟩:=q3.cons_inv
 obtain ⟨x3,y3,w3⟩:=bT h3
 obtain ⟨p4,r4,rfl,h4,q5⟩:=q4.cons_inv
 obtain ⟨x4,y4,w4⟩:=bT h4
 obtain ⟨p5,r5,rfl,h5,q6⟩:=q5.cons_inv
 obtain ⟨x5,y5,w5⟩:=sw.of h5
 obtain ⟨p6,r6,rfl,h6,q7⟩:=q6.cons_inv
 obtain ⟨x6,y6,w6⟩:=bT h6
 obtain ⟨p7,r7,rfl,h7,q8⟩:=q7.cons_inv
 obtain ⟨x7,y7,w7⟩:=bT h7
 obtain ⟨p8,r8,rfl,h8,q9⟩:=q8.cons_inv
 obtain ⟨x8,y8,w8⟩:=bT h8
 obtain ⟨p9,r9,rfl,h9,q10⟩:=q9.cons_inv
 obtain ⟨x9,y9,w9⟩:=bT h9
 obtain ⟨NS,r10,rfl,h10,q11⟩:=q10.cons_inv
 obtain ⟨L7,WS,w10⟩:=bT h10
 obtain ⟨GI,r11,rfl,h11,q12⟩:=q11.cons_inv
 obtain ⟨x11,y11,w11⟩:=bT h11
 obtain ⟨Qa,r12,rfl,h12,q13⟩:=q12.cons_inv
 obtain ⟨x12,y12,w12⟩:=bT h12
 cases q13.jH
 refine ⟨⟨x0,x1,x2,x3,x4,x5,x6,x7,x8,x9,L7,x11,x12⟩,?_,⟨w0,w1,w2,w3,w4,w5,w6,w7,w8,w9,w10,w11,w12⟩⟩
 have hh:=(aP.append y0 (aP.append y1 (aP.append y2 (aP.append y3 (aP.append y4 (aP.append y5 (aP.append y6 (aP.append y7 (aP.append y8 (aP.append y9 (aP.append WS (aP.append y11 (aP.append y12 aP.nil)))))))))))))
 simpa only [rC.cells,bI,kh,rA,List.append_assoc,List.cons_append,List.nil_append,List.append_nil] using hh
structure Sign.ok (c:Sign):Prop where
 kind:(fun n=>dP n) c.kind
 part:(fun n=>dP n) c.part
 dQ:(fun n=>dP n) c.dQ
 for_:(fun n=>dP n) c.for_
 cM:(fun n=>dP n) c.cM
 sum:(fun n=>dP n) c.sum
 day:(fun n=>dP n) c.day
 cH:(fun n=>dP n) c.cH
 flags:(fun n=>dP n) c.flags
theorem Sign.of {ds:List D} (h:eI TT 140 ds):∃ c:Sign,aP ds c.cells∧c.ok:=by
 have q0:=h.dE rfl rfl
 obtain ⟨p0,r0,rfl,h0,q1⟩:=q0.cons_inv
 obtain ⟨x0,y0,w0⟩:=bT h0
 obtain ⟨p1,r1,rfl,h1,q2⟩:=q1.cons_inv
 obtain ⟨x1,y1,w1⟩:=bT h1
 obtain ⟨p2,r2,rfl,h2,q3⟩:=q2.cons_inv
 obtain ⟨x2,y2,w2⟩:=bT h2
 obtain ⟨p3,r3,rfl,h3,q4⟩:=q3.cons_inv
 obtain ⟨x3,y3,w3⟩:=bT h3
 obtain ⟨p4,r4,rfl,h4,q5⟩:=q4.cons_inv
 obtain ⟨x4,y4,w4⟩:=bT h4
 obtain ⟨p5,r5,rfl,h5,q6⟩:=q5.cons_inv
 obtain ⟨x5,y5,w5⟩:=bT h5
 obtain ⟨p6,r6,rfl,h6,q7⟩:=q6.cons_inv
 obtain ⟨x6,y6,w6⟩:=bT h6
 obtain ⟨p7,r7,rfl,h7,q8⟩:=q7.cons_inv
 obtain ⟨x7,y7,w7⟩:=bT h7
 obtain ⟨p8,r8,rfl,h8,q9⟩:=q8.cons_inv
 obtain ⟨x8,y8,w8⟩:=bT h8
 cases q9.jH
 refine ⟨⟨x0,x1,x2,x3,x4,x5,x6,x7,x8⟩,?_,⟨w0,w1,w2,w3,w4,w5,w6,w7,w8⟩⟩
 have hh:=(aP.append y0 (aP.append y1 (aP.append y2 (aP.append y3 (aP.append y4 (aP.append y5 (aP.append y6 (aP.append y7 (aP.append y8 aP.nil)))))))))
 simpa only [Sign.cells,bI,kh,rA,List.append_assoc,List.cons_append,List.nil_append,List.append_nil] using hh
theorem aeZ {ds:List D} (h:eI TT 46 ds):∃ l:List Sign,aP ds [nI Sign.cells l]∧(fun l=>∀ x,x∈l→Sign.ok x) l:=by
 obtain ⟨n,f,rfl,g⟩:=h.eV rfl rfl
 obtain ⟨l,y,-,w⟩:=jI Sign.cells Sign.ok (fun ds h=>Sign.of h) g
 exact ⟨l,aP.one y,w⟩
structure dU.ok (c:dU):Prop where
 at_:(fun n=>dP n) c.at_
 sum:(fun n=>dP n) c.sum
theorem dU.of {ds:List D} (h:eI TT 95 ds):∃ c:dU,aP ds c.cells∧c.ok:=by
 have q0:=h.dE rfl rfl
 obtain ⟨p0,r0,rfl,h0,q1⟩:=q0.cons_inv
 obtain ⟨x0,y0,w0⟩:=bT h0
 obtain ⟨p1,r1,rfl,h1,q2⟩:=q1.cons_inv
 obtain ⟨x1,y1,w1⟩:=bT h1
 cases q2.jH
 refine ⟨⟨x0,x1⟩,?_,⟨w0,w1⟩⟩
 have hh:=(aP.append y0 (aP.append y1 aP.nil))
 simpa only [dU.cells,bI,kh,rA,List.append_assoc,List.cons_append,List.nil_append,List.append_nil] using hh
theorem ae0 {ds:List D} (h:eI TT 47 ds):∃ l:List dU,aP ds [nI dU.cells l]∧(fun l=>∀ x,x∈l→dU.ok x) l:=by
 obtain ⟨n,f,rfl,g⟩:=h.eV rfl rfl
 obtain ⟨l,y,-,w⟩:=jI dU.cells dU.ok (fun ds h=>dU.of h) g
 exact ⟨l,aP.one y,w⟩
structure bD.ok (c:bD):Prop where
 kind:(fun n=>dP n) c.kind
 dQ:(fun n=>dP n) c.dQ
 cM:(fun n=>dP n) c.cM
 part:(fun n=>dP n) c.part
 at_:(fun n=>dP n) c.at_
 sum:(fun n=>dP n) c.sum
 day:(fun n=>dP n) c.day
 cH:(fun n=>dP n) c.cH
 form:(fun n=>dP n) c.form
theorem bD.of {ds:List D} (h:eI TT 104 ds):∃ c:bD,aP ds c.cells∧c.ok:=by
 have q0:=h.dE rfl rfl
 obtain ⟨p0,r0,rfl,h0,q1⟩:=q0.cons_inv
 obtain ⟨x0,y0,w0⟩:=bT h0
 obtain ⟨p1,r1,rfl,h1,q2⟩:=q1.cons_inv
 obtain ⟨x1,y1,w1⟩:=bT h1
 obtain ⟨p2,r2,rfl,h2,q3⟩:=q2.cons_inv
 obtain ⟨x2,y2,w2⟩:=bT h2
 obtain ⟨p3,r3,rfl,h3,q4⟩:=q3.cons_inv
 obtain ⟨x3,y3,w3⟩:=bT h3
 obtain ⟨p4,r4,rfl,h4,q5⟩:=q4.cons_inv
 obtain ⟨x4,y4,w4⟩:=bT h4
 obtain ⟨p5,r5,rfl,h5,q6⟩:=q5.cons_inv
 obtain ⟨x5,y5,w5⟩:=bT h5
 obtain ⟨p6,r6,rfl,h6,q7⟩:=q6.cons_inv
 obtain ⟨x6,y6,w6⟩:=bT h6
 obtain ⟨p7,r7,rfl,h7,q8⟩:=q7.cons_inv
 obtain ⟨x7,y7,w7⟩:=bT h7
 obtain ⟨p8,r8,rfl,h8,q9⟩:=q8.cons_inv
 obtain ⟨x8,y8,w8⟩:=bT h8
 cases q9.jH
 refine ⟨⟨x0,x1,x2,x3,x4,x5,x6,x7,x8⟩,?_,⟨w0,w1,w2,w3,w4,w5,w6,w7,w8⟩⟩
 have hh:=(aP.append y0 (aP.append y1 (aP.append y2 (aP.append y3 (aP.append y4 (aP.append y5 (aP.append y6 (aP.append y7 (aP.append y8 aP.nil)))))))))
 simpa only [bD.cells,bI,kh,rA,List.append_assoc,List.cons_append,List.nil_append,List.append_nil] using hh
theorem ae1 {ds:List D} (h:eI TT 48 ds):∃ l:List bD,aP ds [nI bD.cells l]∧(fun l=>∀ x,x∈l→bD.ok x) l:=by
 obtain ⟨n,f,rfl,g⟩:=h.eV rfl rfl
 obtain ⟨l,y,-,w⟩:=jI bD.cells bD.ok (fun ds h=>bD.of h) g
 exact ⟨l,aP.one y,w⟩
structure Fact.ok (c:Fact):Prop where
 kind:(fun n=>dP n) c.kind
 at_:(fun n=>dP n) c.at_
 n:(fun n=>dP n) c.n
theorem Fact.of {ds:List D} (h:eI TT 53 ds):∃ c:Fact,aP ds c.cells∧c.ok:=by
 have q0:=h.dE rfl rfl
 obtain ⟨p0,r0,rfl,h0,q1⟩:=q0.cons_inv
 obtain ⟨x0,y0,w0⟩:=bT h0
 obtain ⟨p1,r1,rfl,h1,q2⟩:=q1.cons_inv
 obtain ⟨x1,y1,w1⟩:=bT h1
 obtain ⟨p2,r2,rfl,h2,q3⟩:=q2.cons_inv
 obtain ⟨x2,y2,w2⟩:=bT h2
 cases q3.jH
 refine ⟨⟨x0,x1,x2⟩,?_,⟨w0,w1,w2⟩⟩
 have hh:=(aP.append y0 (aP.append y1 (aP.append y2 aP.nil)))
 simpa only [Fact.cells,bI,kh,rA,List.append_assoc,List.cons_append,List.nil_append,List.append_nil] using hh
theorem ae2 {ds:List D} (h:eI TT 36 ds):∃ l:List Fact,aP ds [nI Fact.cells l]∧(fun l=>∀ x,x∈l→Fact.ok x) l:=by
 obtain ⟨n,f,rfl,g⟩:=h.eV rfl rfl
 obtain ⟨l,y,-,w⟩:=jI Fact.cells Fact.ok (fun ds h=>Fact.of h) g
 exact ⟨l,aP.one y,w⟩
structure ak.ok (c:ak):Prop where
 aU:rC.ok c.aU
 af:(fun l=>∀ x,x∈l→Sign.ok x) c.af
 bn:(fun l=>∀ x,x∈l→dU.ok x) c.bn
 aw:(fun l=>∀ x,x∈l→bD.ok x) c.aw
 facts:(fun l=>∀ x,x∈l→Fact.ok x) c.facts
theorem ak.of {ds:List D} (h:eI TT 50 ds):∃ c:ak,aP ds c.cells∧c.ok:=by
 have q0:=h.dE rfl rfl
 obtain ⟨p0,r0,rfl,h0,q1⟩:=q0.cons_inv
 obtain ⟨x0,y0,w0⟩:=rC.of h0
 obtain ⟨p1,r1,rfl,h1,q2⟩:=q1.cons_inv
 obtain ⟨x1,y1,w1⟩:=aeZ h1
 obtain ⟨p2,r2,rfl,h2,q3⟩:=q2.cons_inv
 obtain ⟨x2,y2,w2⟩:=ae0 h2
 obtain ⟨p3,r3,rfl,h3,q4⟩:=q3.cons_inv
 obtain ⟨x3,y3,w3⟩:=ae1 h3
 obtain ⟨p4,r4,rfl,h4,q5⟩:=q4.cons_inv
 obtain ⟨x4,y4,w4⟩:=ae2 h4
 cases q5.jH
 refine ⟨⟨x0,x1,x2,x3,x4⟩,?_,⟨w0,w1,w2,w3,w4⟩⟩
 have hh:=(aP.append y0 (aP.append y1 (aP.append y2 (aP.append y3 (aP.append y4 aP.nil)))))
 simpa only [ak.cells,bI,kh,rA,List.append_assoc,List.cons_append,List.nil_append,List.append_nil] using hh
structure cS.ok (c:cS):Prop where
 forum:(fun n=>dP n) c.forum
 cV:(fun n=>dP n) c.cV
 cW:(fun n=>dP n) c.cW
 file:(fun n=>dP n) c.file
 sign:(fun n=>dP n) c.sign
 day:(fun n=>dP n) c.day
 kind:(fun n=>dP n) c.kind
theorem cS.of {ds:List D} (h:eI TT 34 ds):∃ c:cS,aP ds c.cells∧c.ok:=by
 have q0:=h.dE rfl rfl
 obtain ⟨p0,r0,rfl,h0,q1⟩:=q0.cons_inv
 obtain ⟨x0,y0,w0⟩:=bT h0
 obtain ⟨p1,r1,rfl,h1,q2⟩:=q1.cons_inv
 obtain ⟨x1,y1,w1⟩:=bT h1
 obtain ⟨p2,r2,rfl,h2,q3⟩:=q2.cons_inv
 obtain ⟨x2,y2,w2⟩:=bT h2
 obtain ⟨p3,r3,rfl,h3,q4⟩:=q3.cons_inv
 obtain ⟨x3,y3,w3⟩:=bT h3
 obtain ⟨p4,r4,rfl,h4,q5⟩:=q4.cons_inv
 obtain ⟨x4,y4,w4⟩:=bT h4
 obtain ⟨p5,r5,rfl,h5,q6⟩:=q5.cons_inv
 obtain ⟨x5,y5,w5⟩:=bT h5
 obtain ⟨p6,r6,rfl,h6,q7⟩:=q6.cons_inv
 obtain ⟨x6,y6,w6⟩:=bT h6
 cases q7.jH
 refine ⟨⟨x0,x1,x2,x3,x4,x5,x6⟩,?_,⟨w0,w1,w2,w3,w4,w5,w6⟩⟩
 have hh:=(aP.append y0 (aP.append y1 (aP.append y2 (aP.append y3 (aP.append y4 (aP.append y5 (aP.append y6 aP.nil)))))))
 simpa only [cS.cells,bI,kh,rA,List.append_assoc,List.cons_append,List.nil_append,List.append_nil] using hh
theorem BQ (aeg:∀ (a0:ah) (a1:List ak) (a2:cS) (a3:List Int) (a4:Int) (a5:List Fact),pU a0 a1 a2 a3 a4 a5=true) (VI:List (List D)) (h:Q8 TT [31,32,34,35,3,36] VI):gQ Tryz.prog 3 (zX TT [31,32,34,35,3,36] VI) [] (.d (.v (.bool true))) []:=by
 obtain ⟨d0,d1,d2,d3,d4,d5,rfl⟩:∃ d0 d1 d2 d3 d4 d5,VI=[d0,d1,d2,d3,d4,d5]:=by
  match VI,h with
  | [d0,d1,d2,d3,d4,d5],_=>exact ⟨d0,d1,d2,d3,d4,d5,rfl⟩
 obtain ⟨h0,h1,h2,h3,h4,h5,-⟩:=h
 obtain ⟨x0,y0,w0⟩:=ah.of h0
 obtain ⟨n1,f1,rfl,g1⟩:=h1.eV rfl rfl
 obtain ⟨x1,y1,-,w1⟩:=jI ak.cells ak.ok (fun ds h=>ak.of h) g1
 obtain ⟨x2,y2,w2⟩:=cS.of h2
 obtain ⟨n3,f3,rfl,g3⟩:=h3.eV rfl rfl
 obtain ⟨x3,y3,-,w3⟩:=jI bI (fun n=>dP n) (fun ds h=>bT h) g3
 obtain ⟨x4,rfl,w4⟩:=h4.KB rfl rfl
 obtain ⟨n5,f5,rfl,g5⟩:=h5.eV rfl rfl
 obtain ⟨x5,y5,-,w5⟩:=jI Fact.cells Fact.ok (fun ds h=>Fact.of h) g5
 have hf:=Im x0 x1 x2 x3 x4 x5
 rw [aeg] at hf
 exact gQ.XL hf ⟨uV.d y0.agg,uV.d y1,uV.d y2.agg,uV.d y3,uV.rfl',uV.d y5,trivial⟩
theorem Fy (a0:ah) (a1:List ak) (a2:cS) (a3:List Int) (a4:Int) (a5:List Fact):pU a0 a1 a2 a3 a4 a5=true :=
 EZ a0 a1 a2 a3 a4 a5
end
end Go.Proofs.YtonkchddcgcopaaGreatDoor
