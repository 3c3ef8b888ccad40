/- Functions, as sketches. -/
import Derived.Test.YtonkchddcgcopaaGreatDoorSh
import Derived.Test.YtonkchddcgcopaaGreatDoorLd
set_option linter.unusedSimpArgs false
set_option linter.unusedVariables false
set_option maxHeartbeats 1000000
set_option maxRecDepth 100000
namespace Go.Proofs.YtonkchddcgcopaaGreatDoor
noncomputable section
open Go Go.Av
theorem NB (a b:Int):dN a b=jn [a,b] 1:=Co [a,b]
theorem Ik (a b:Int):dN a b=0∨dN a b=1∨dN a b=2:=by
 rw [NB]
 simp only [jn]
 repeat' split
 all_goals simp
theorem acY {a b:Int} (ha:a=0∨a=1∨a=2):dN a b=1↔a=1∧b≠0∧b≠2:=by
 rw [NB]
 simp only [jn]
 rcases ha with rfl | rfl | rfl <;> (repeat' split) <;> simp_all
def Idle (x:cx) (c:Claim) (d:Int):Prop:=kL (dN (cN x c d) (kL (fj x 5 c d)))≠0∧kL (dN (cN x c d) (kL (fj x 5 c d)))≠2
theorem Qu (x:cx) (c:Claim):∀ (D:List Int) (st:Int),(st=0∨st=1∨st=2)→(D.foldl (awf x c) st=1↔st=1∧∀ d,d∈D→Idle x c d)
 | [],st,_=>by simp
 | d :: r,st,h=>by
  rw [List.foldl_cons,Qu x c r (awf x c st d) (Ik _ _)]
  unfold awf
  rw [acY h]
  simp only [List.mem_cons,forall_eq_or_imp,Idle,ne_eq]
  exact ⟨fun ⟨⟨a,b⟩,e⟩=>⟨a,b,e⟩,fun ⟨a,b,e⟩=>⟨⟨a,b⟩,e⟩⟩
theorem Vf {x:cx} {c:Claim} (h:c.state=1∨c.state=2) (D:List Int):zL x c D=1↔c.state=1∧∀ d,d∈D→Idle x c d:=Qu x c D _ (.inr h)
theorem Qv (k k' v:Int) (m:List (Int × Int)):cT (nC m k v) k' 0=if k'=k then v else cT m k' 0:=by
 unfold cT
 rw [Ia]
 split <;> rfl
def wS (s:cS) (c:Claim):Prop:=c.bL=s.cW∧c.aH=s.cV∧c.sign=s.sign
structure Top (x:cx) (D:List Int) (l:List Claim) (n:Nat) (k:Int):Prop where
 has:cT (dx x D l n).2 k false=true↔∃ i,i < n∧wS x.s (l.getD i default)∧zL x (l.getD i default) D=k
 le:∀ i,i < n→wS x.s (l.getD i default)→zL x (l.getD i default) D=k→(l.getD i default).sum≤cT (dx x D l n).1 k 0
 ge:0≤cT (dx x D l n).1 k 0
 eq:cT (dx x D l n).1 k 0=0∨∃ i,i < n∧wS x.s (l.getD i default)∧zL x (l.getD i default) D=k∧(l.getD i default).sum=cT (dx x D l n).1 k 0
theorem Vg (x:cx) (D:List Int) (l:List Claim) (k:Int):∀ n,Top x D l n k
 | 0=>⟨⟨fun h=>(by simp [dx,cT,nK] at h),fun ⟨i,h,_⟩=>absurd h (by omega)⟩,fun i h=>absurd h (by omega),by simp [dx,cT,nK],.inl rfl⟩
 | n+1=>by
  obtain ⟨h1,h2,h3,h4⟩:=Vg x D l k n
  have sp:∀ {i:Nat},i < n+1→i < n∨i=n:=fun h=>Nat.lt_succ_iff_lt_or_eq.1 h
  by_cases hm:wS x.s (l.getD n default)
  ·have e:dx x D l (n+1)=(nC (dx x D l n).1 (zL x (l.getD n default) D) (bX (cT (dx x D l n).1 (zL x (l.getD n default) D) 0) (l.getD n default).sum),nC (dx x D l n).2 (zL x (l.getD n default) D) true):=by
    simp only [dx]; unfold I3; exact if_pos hm
   by_cases hk:k=zL x (l.getD n default) D
   ·have eb:cT (dx x D l (n+1)).2 k false=true:=by rw [e,U2,if_pos hk]
    have ea:cT (dx x D l (n+1)).1 k 0=bX (cT (dx x D l n).1 k 0) (l.getD n default).sum:=by rw [e,Qv,if_pos hk,← hk]
    have hmx:∀ a b:Int,a≤bX a b∧b≤bX a b∧(bX a b=a∨bX a b=b):=fun a b=>by unfold bX; split <;> omega
    obtain ⟨m1,m2,m3⟩:=hmx (cT (dx x D l n).1 k 0) (l.getD n default).sum
    refine ⟨⟨fun _=>⟨n,by omega,hm,hk.symm⟩,fun _=>eb⟩,fun i hi hI hS=>?_,by rw [ea]; omega,?_⟩
    ·rw [ea]
     rcases sp hi with h | rfl
     ·have:=h2 i h hI hS; omega
     ·exact m2
    ·rw [ea]
     rcases m3 with h | h
     ·rw [h]
      rcases h4 with h4 | ⟨i,a,b,c,d⟩
      ·exact .inl h4
      ·exact .inr ⟨i,by omega,b,c,d⟩
     ·exact .inr ⟨n,by omega,hm,hk.symm,h.symm⟩
   ·have eb:cT (dx x D l (n+1)).2 k false=cT (dx x D l n).2 k false:=by rw [e,U2,if_neg hk]
    have ea:cT (dx x D l (n+1)).1 k 0=cT (dx x D l n).1 k 0:=by rw [e,Qv,if_neg hk]
    refine ⟨?_,fun i hi hI hS=>?_,by rw [ea]; exact h3,?_⟩
    ·rw [eb,h1]
     exact ⟨fun ⟨i,a,b⟩=>⟨i,by omega,b⟩,fun ⟨i,a,b,c⟩=>by
      rcases sp a with h | rfl
      ·exact ⟨i,h,b,c⟩
      ·exact absurd c.symm hk⟩
    ·rw [ea]
     rcases sp hi with h | rfl
     ·exact h2 i h hI hS
     ·exact absurd hS.symm hk
    ·rw [ea]
     rcases h4 with h4 | ⟨i,a,b⟩
     ·exact .inl h4
     ·exact .inr ⟨i,by omega,b⟩
  ·have e:dx x D l (n+1)=dx x D l n:=by simp only [dx]; unfold I3; exact if_neg hm
   refine ⟨?_,fun i hi hI hS=>?_,by rw [e]; exact h3,?_⟩
   ·rw [e,h1]
    exact ⟨fun ⟨i,a,b⟩=>⟨i,by omega,b⟩,fun ⟨i,a,b,c⟩=>by
     rcases sp a with h | rfl
     ·exact ⟨i,h,b,c⟩
     ·exact absurd b hm⟩
   ·rw [e]
    rcases sp hi with h | rfl
    ·exact h2 i h hI hS
    ·exact absurd hI hm
   ·rw [e]
    rcases h4 with h4 | ⟨i,a,b⟩
    ·exact .inl h4
    ·exact .inr ⟨i,by omega,b⟩
def PF (s:cS) (D:List Int) (day:Int):List Move:=({ kind:=0,aL:=0,day:=s.day,no:=0 }:Move) :: (D.map fun d=>({ kind:=1,aL:=0,day:=s.day,no:=d }:Move))++[({ kind:=4,aL:=0,day:=day,no:=0 }:Move)]
theorem Yl (s:cS) (h0:0≤s.day∧s.day≤100000):∀ (D:List Int),(∀ d,d∈D→0≤d∧d < 7)→ly [s] (D.map fun d=>({ kind:=1,aL:=0,day:=s.day,no:=d }:Move)) (s.day,[1],[])=(List.replicate D.length 0,s.day,[1],[])
 | [],_=>rfl
 | d :: r,h=>by
  have hd:=h d (by simp)
  have e:Jt [s] (s.day,[1],[]) ({ kind:=1,aL:=0,day:=s.day,no:=d }:Move)=(0,s.day,[1],[]):=by
   unfold Jt uM
   rw [if_neg (by simp; omega),if_neg (by simp),if_neg (by simp),if_neg (by simp [BW])]
   simp [BW]
  rw [List.map_cons]
  simp only [ly,e]
  rw [Yl s h0 r (fun x hx=>h x (by simp [hx]))]
  rfl
theorem Ym {s:cS} {D:List Int} {day:Int} (h0:0≤s.day) (h1:s.day≤day) (h2:day≤100000) (hD:∀ d,d∈D→0≤d∧d < 7):ly [s] (PF s D day) (u1 [s])=(List.replicate (D.length+2) 0,day,[3],[]):=by
 have e1:Jt [s] (u1 [s]) ({ kind:=0,aL:=0,day:=s.day,no:=0 }:Move)=(0,s.day,[1],[]):=by
  unfold Jt uM u1
  rw [if_neg (by simp; omega),if_neg (by simp),if_neg (by simp [List.getD]; omega),if_neg (by simp [BW])]
  simp [BW]
 have e2:Jt [s] (s.day,[1],[]) ({ kind:=4,aL:=0,day:=day,no:=0 }:Move)=(0,day,[3],[]):=by
  unfold Jt uM
  rw [if_neg (by simp; omega),if_neg (by simp),if_neg (by simp; omega),if_neg (by simp [BW])]
  simp [BW]
 unfold PF
 rw [List.cons_append]
 simp only [ly,e1]
 rw [BZ,Yl s ⟨h0,by omega⟩ D hD]
 simp only [ly,e2]
 rw [List.replicate_succ,← List.replicate_append_replicate (n:=D.length) (m:=1)]
 rfl
theorem Qw (aL:Int) (w:Bool) (az:List Move) (errors:List Int) (he:∀ i,i < az.length→errors.getD i default=0):∀ n,n≤az.length→Ad aL w az errors n=(az.take n).foldl (fun s m=>nh aL s m 0) (0,[],[],w)
 | 0,_=>rfl
 | n+1,h=>by
  rw [qV (by omega),List.foldl_append,← Qw aL w az errors he n (by omega)]
  simp only [Ad,List.foldl_cons,List.foldl_nil]
  rw [he n (by omega)]
theorem Vh (s:cS) (w:Bool):∀ (D R:List Int),(D.map fun d=>({ kind:=1,aL:=0,day:=s.day,no:=d }:Move)).foldl (fun s m=>nh 0 s m 0) (0,[],R,w)=(0,[],R++D,w)
 | [],R=>by simp
 | d :: r,R=>by
  rw [List.map_cons,List.foldl_cons]
  have e:nh 0 (0,[],R,w) ({ kind:=1,aL:=0,day:=s.day,no:=d }:Move) 0=(0,[],R++[d],w):=by
   unfold nh; rw [if_neg (by simp),if_pos rfl]
  rw [e,Vh s w r]
  simp
def counts (w:Bool) (D:List Int):List Int:=D.filter fun d=>w||d == 0||d == 1||d == 2
theorem abK {s:cS} {D:List Int} {day:Int} (h0:0≤s.day) (h1:s.day≤day) (h2:day≤100000) (hD:∀ d,d∈D→0≤d∧d < 7):xK [s] (PF s D day) 0=(day,counts (s.kind == 1) D,D,s.kind == 1):=by
 have hl:(PF s D day).length=D.length+2:=by simp [PF]
 unfold xK
 rw [Ym h0 h1 h2 hD,Qw _ _ _ _ (fun i hi=>by simp only [List.getD,List.getElem?_replicate]; split <;> rfl) _ (Nat.le_refl _),List.take_length]
 unfold PF
 rw [List.cons_append,List.foldl_cons]
 have e:nh 0 (0,[],[],(([s].getD (0:Int).toNat default).kind == 1)) ({ kind:=0,aL:=0,day:=s.day,no:=0 }:Move) 0=(0,[],[],s.kind == 1):=by
  unfold nh; rw [if_neg (by simp),if_neg (by simp),if_neg (by simp),if_neg (by simp)]; rfl
 rw [e,List.foldl_append,Vh]
 simp only [List.foldl_cons,List.foldl_nil,List.nil_append]
 unfold nh; rw [if_neg (by simp),if_neg (by simp),if_neg (by simp),if_pos rfl]
 rfl
theorem ZG {r:ah} {files:List ak} {s:cS} {az:List Move} (hc:nP r files [s] []=0) (hl:az.length≤100) (hs:(ly [s] az (u1 [s])).2.2.1.getD 0 default=3):AJ r files [s] az 0=(awT r files s 0 (xK [s] az 0).1 (xK [s] az 0).2.1,0):=by
 refine Ko r files [s] az 0 ?_ ⟨by omega,by simp⟩ hs
 have:=(uv r files [s] []).1 hc
 exact (uv r files [s] az).2 ⟨⟨this.1.1,this.1.2.1,hl⟩,this.2⟩
theorem Qx {r:ah} {files:List ak} {s:cS} {D:List Int} {day:Int} (hc:nP r files [s] []=0) (hl:D.length≤8) (h1:s.day≤day) (h2:day≤100000) (hD:∀ d,d∈D→0≤d∧d < 7):AJ r files [s] (PF s D day) 0=(awT r files s 0 day (counts (s.kind == 1) D),0):=by
 have h0:0≤s.day:=(((uv r files [s] []).1 hc).2.2 0 (by simp)).2.2.2.2.2.2.1.1
 rw [ZG hc (by simp [PF]; omega) (by rw [Ym h0 h1 h2 hD]; rfl),abK h0 h1 h2 hD]
theorem abL {r:ah} {forum:Int} {f:ak} {day:Int} (hF:cb r f) (hR:r.dg) {c:Claim} (h:c∈cG r forum f day):Gs c:=by
 rw [nA r forum f day hF] at h
 obtain ⟨c0,h0,rfl⟩:=List.mem_map.1 h
 have h1:=(List.mem_filter.1 h0).1
 have s:=(A9 r forum f day).Rs (fun x hx=>⟨(CB hF hR hx).2.2.2.2.2.2.1,(CB hF hR hx).2.2.2.2.2.1⟩) c0 h1
 unfold yA
 cases dr r forum f c0 day == 2 with
 | false=>exact s
 | true=>exact ⟨s.1,.inr rfl⟩
structure Mx (P:Claim→Prop) (l:List Claim) (n:Nat) (v:Int):Prop where
 ex:v = -1∨∃ i,i < n∧P (l.getD i default)∧v=(l.getD i default).sum
 le:∀ i,i < n→P (l.getD i default)→(l.getD i default).sum≤v
theorem Sr {k cur:Int} {bm:List (Int × Int) × List (Int × Bool)} (h:cT bm.2 1 false=true):sD k cur bm = { aL:=k,sum:=cT bm.1 1 0,au:=cur,state:=1 }:=if_pos h
theorem Yn {k cur:Int} {bm:List (Int × Int) × List (Int × Bool)} (h:¬ cT bm.2 1 false=true) (h2:cT bm.2 2 false=true):sD k cur bm = { aL:=k,sum:=cT bm.1 2 0,au:=cur,state:=2 }:=(if_neg h).trans (if_pos h2)
theorem Ss {k cur:Int} {bm:List (Int × Int) × List (Int × Bool)} (h:¬ cT bm.2 1 false=true) (h2:¬ cT bm.2 2 false=true):sD k cur bm = { aL:=k,sum:=0,au:=cur,state:=0 }:=(if_neg h).trans (if_neg h2)
def bQ (a b:aJ):Prop:=a.known=true→b=a
theorem bQ.rfl' (a:aJ):bQ a a:=fun _=>rfl
theorem bQ.unknown {a b:aJ} (h:a.known=false):bQ a b:=fun h2=>by rw [h] at h2; exact absurd h2 (by decide)
theorem EX {op:Int} {cs C6:List aJ} {ns ns':List (List Int)} (h:bQ (ct op cs) (ct op C6)):bQ (ra op cs ns).1 (ra op C6 ns').1:=by
 unfold ra
 cases hk:(ct op cs).known with
 | false=>exact bQ.unknown rfl
 | true=>rw [h hk,hk]; exact bQ.rfl' _
theorem abM {a a':aJ} (h:bQ a a'):bQ (ct 3 [a]) (ct 3 [a']):=by
 rw [ME,ME]
 cases hk:a.known with
 | false=>exact bQ.unknown rfl
 | true=>rw [h hk,hk]; exact bQ.rfl' _
theorem ZH {op:Int} (zP:op=4∨op=5) {a a' b b':aJ} (ha:bQ a a') (hb:bQ b b'):bQ (ct op [a,b]) (ct op [a',b']):=by
 rw [HD op zP,HD op zP]
 dsimp only
 generalize (if op=5 then (1:Int) else 0)=z
 cases hka:a.known with
 | true =>
  have ea:=ha hka
  subst ea
  cases hkb:b.known with
  | true=>have eb:=hb hkb; subst eb; rw [hka,hkb]; exact bQ.rfl' _
  | false =>
   rw [hka]
   cases a'.n == z with
   | true=>simp only [Bool.true_and,Bool.true_or,cond_true]; exact bQ.rfl' _
   | false=>exact bQ.unknown rfl
 | false =>
  cases hkb:b.known with
  | false=>exact bQ.unknown rfl
  | true =>
   have eb:=hb hkb
   subst eb
   rw [hkb]
   cases b'.n == z with
   | true=>simp only [Bool.true_and,Bool.or_true,cond_true]; exact bQ.rfl' _
   | false=>exact bQ.unknown rfl
theorem Xh {op:Int} (zP:7≤op) {a a' b b':aJ} (ha:bQ a a') (hb:bQ b b'):bQ (ct op [a,b]) (ct op [a',b']):=by
 rw [Ak op zP,Ak op zP]
 cases hka:a.known with
 | true =>
  have ea:=ha hka
  subst ea
  cases hkb:b.known with
  | true=>have eb:=hb hkb; subst eb; rw [hka,hkb]; exact bQ.rfl' _
  | false=>exact bQ.unknown rfl
 | false=>exact bQ.unknown rfl
theorem Xi {a b:aJ} (h:bQ a b) (n:Int):bQ (O5 a n) (O5 b n):=by
 unfold O5
 cases hk:a.known with
 | false=>exact bQ.unknown rfl
 | true=>rw [h hk,hk]; exact bQ.rfl' _
theorem acZ {a b:aJ} (ha:a.known=true) (hb:b.known=true) (h:(a.n == b.n)=true):a=b:=by
 obtain ⟨k,n⟩:=a
 obtain ⟨k',n'⟩:=b
 simp only at ha hb h
 rw [ha,hb,beq_iff_eq.1 h]
theorem abN {t:Term} {k:Int} (h:yF t k):∀ (fu:Nat) (m m':Machine),(∀ q:Nat,bQ (m.fW.getD q default) (m'.fW.getD q default))→t.depth≤fu→t.depth≤8→bQ (ae fu m t).1 (ae fu m' t).1:=by
 induction h with
 | int hn =>
  intro fu m m' _ hd _
  cases fu with
  | zero=>exact absurd hd (by simp [Term.depth,Term.fV])
  | succ fu=>rw [RP,RP]; exact bQ.rfl' _
 | @bool n hn =>
  intro fu m m' _ hd _
  cases fu with
  | zero=>exact absurd hd (by simp [Term.depth,Term.fV])
  | succ fu=>rw [MD,MD]; exact bQ.rfl' _
 | @var n hn =>
  intro fu m m' hm hd _
  cases fu with
  | zero=>exact absurd hd (by simp [Term.depth,Term.fV])
  | succ fu =>
   rw [RQ,RQ,MF m n hn,MF m' n hn]
   have h:=Xi (hm n.toNat) n
   cases hk:(O5 (m.fW.getD n.toNat default) n).known with
   | false=>exact bQ.unknown rfl
   | true=>rw [h hk,hk]; exact bQ.rfl' _
 | @not a _ ih =>
  intro fu m m' hm hd h8
  cases fu with
  | zero=>exact absurd hd (by simp [Term.depth,Term.fV])
  | succ fu =>
   rw [abk] at hd h8
   rw [RR,RR]
   exact EX (abM (ih fu m m' hm (by omega) (by omega)))
 | @abc op a b zP _ _ IL GM =>
  intro fu m m' hm hd h8
  cases fu with
  | zero=>exact absurd hd (by simp [Term.depth,Term.fV])
  | succ fu =>
   rw [HE] at hd h8
   rw [xu _ _ _ _ (by omega),xu _ _ _ _ (by omega)]
   exact EX (ZH zP (IL fu m m' hm (by omega) (by omega)) (GM fu m m' hm (by omega) (by omega)))
 | @ite a b c k ha _ _ IL GM ihc =>
  intro fu m m' hm hd h8
  cases fu with
  | zero=>exact absurd hd (by simp [Term.depth,Term.fV])
  | succ fu =>
   rw [abl] at hd h8
   have ia:=IL fu m m' hm (by omega) (by omega)
   have ib:=GM fu m m' hm (by omega) (by omega)
   have ic:=ihc fu m m' hm (by omega) (by omega)
   have t1:=(Db ha fu m (by omega) (by omega)).1 rfl
   have t2:=(Db ha fu m' (by omega) (by omega)).1 rfl
   rw [run_ite,run_ite]
   dsimp only
   cases hk:(ae fu m a).1.known with
   | true =>
    rw [ia hk,hk]
    simp only [cond_true]
    rcases t1 hk with e | e
    ·rw [e]; exact ic
    ·rw [e]; exact ib
   | false =>
    simp only [cond_false]
    unfold ra
    rw [RT]
    cases hb:(ae fu m b).1.known with
    | false=>exact bQ.unknown rfl
    | true =>
     cases hc:(ae fu m c).1.known with
     | false=>exact bQ.unknown rfl
     | true =>
      cases he:((ae fu m b).1.n == (ae fu m c).1.n) with
      | false=>exact bQ.unknown rfl
      | true =>
       have eb:=ib hb
       have ec:=ic hc
       have ebc:=acZ hb hc he
       simp only [Bool.and_self,cond_true,hb]
       cases hk2:(ae fu m' a).1.known with
       | true =>
        simp only [cond_true]
        rcases t2 hk2 with e | e
        ·rw [e]
         show bQ _ (ae fu m' c).1
         rw [ec,← ebc]; exact bQ.rfl' _
        ·rw [e]
         show bQ _ (ae fu m' b).1
         rw [eb]; exact bQ.rfl' _
       | false =>
        simp only [cond_false]
        rw [RT,eb,ec,hb,hc,he]
        simp only [Bool.and_self,cond_true,hb]
        exact bQ.rfl' _
 | _ =>
  intro fu m m' hm hd h8
  cases fu with
  | zero=>exact absurd hd (by simp [Term.depth,Term.fV])
  | succ fu =>
   rename_i a b _ _ IL GM
   rw [HE] at hd h8
   rw [xu _ _ _ _ (by omega),xu _ _ _ _ (by omega)]
   exact EX (Xh (by omega) (IL fu m m' hm (by omega) (by omega)) (GM fu m m' hm (by omega) (by omega)))
def SQ (l l':List aJ):Prop:=l'.length=l.length∧∀ q:Nat,bQ (l.getD q default) (l'.getD q default)
theorem SQ.rfl' (l:List aJ):SQ l l:=⟨rfl,fun _=>bQ.rfl' _⟩
theorem SQ.set {l l':List aJ} (h:SQ l l') {x x':aJ} (hx:bQ x x') (i:Nat):SQ (l.set i x) (l'.set i x'):=by
 refine ⟨by simp [h.1],fun q=>?_⟩
 by_cases hi:i < l.length
 ·by_cases e:q=i
  ·subst e
   rw [qR l hi,qR l' (by rw [h.1]; exact hi)]
   exact hx
  ·rw [qS l e,qS l' e]
   exact h.2 q
 ·rw [List.set_eq_of_length_le (by omega),List.set_eq_of_length_le (by rw [h.1]; omega)]
  exact h.2 q
theorem Vi {α:Type} {R:α→α→Prop} (c:Bool) {x y x' y':α} (h1:R x x') (h2:R y y'):R (bif c then x else y) (bif c then x' else y'):=by cases c <;> assumption
theorem NC {α β:Type} {R:α→α→Prop} (hR:∀ a,R a a) (x:α ⊕ β) {k k':β→α} (h:∀ b,R (k b) (k' b)):R (iY x k) (iY x k'):=by
 cases x with
 | inl a=>exact hR a
 | inr b=>exact h b
theorem ZI (s:List dU) (v:fF):lH s v=s.any (fun a=>decide (a.at_≤v.sign)):=by
 refine Bool.eq_iff_iff.2 (Iff.trans (ux s v) ?_)
 simp only [rK,List.any_eq_true]
 constructor
 ·rintro ⟨q,hq,e⟩; exact ⟨_,vT hq _,e⟩
 ·rintro ⟨x,hx,e⟩
  obtain ⟨i,hi,rfl⟩:=List.getElem_of_mem hx
  exact ⟨i,hi,by simpa [List.getD,hi] using e⟩
theorem ZJ (r:ah) (f:ak) (F:List Fact) (s h e due y y':Int) (hF:∀ k a,bQ (bB f k a) (bB { f with facts:=F } k a)) :
  SQ (nR r ⟨f,s,h,e,due,y⟩) (nR r ⟨{ f with facts:=F },s,h,e,due,y'⟩):=by
 unfold nR lJ
 simp only [Sk.jt,Sk.fB,Sk.dK,Sk.dn,Sk.X1,Sk.X2,Sk.Rg,bH.IE,bH.Zg,bH.aa0,bH.rD,il.A1,kk,kp,gF,ZI,cI]
 refine Vi _ (SQ.rfl' _) (Vi _ (SQ.rfl' _) (NC SQ.rfl' _ fun b=>NC SQ.rfl' _ fun b2=>NC SQ.rfl' _ fun b3=>?_))
 exact ((((SQ.set (SQ.rfl' _) (hF _ _) _).set (hF _ _) _).set (hF _ _) _).set (hF _ _) _).set (hF _ _) _
theorem ZK (t:Term) {l l':List aJ} (h:∀ q:Nat,bQ (l.getD q default) (l'.getD q default)):bQ (mP t l) (mP t l'):=by
 have e:∀ l,mP t l=bif (Aj t).2 != 0 then ⟨false,0⟩ else (oQ ⟨l⟩ t).1:=fun l=>by kernel_rfl
 rw [e,e]
 cases hc:(Aj t).2 != 0 with
 | true=>exact bQ.rfl' _
 | false =>
  simp only [LN] at hc
  have hp:=JR t hc
  exact abN hp.1 _ _ _ h (Nat.le_refl _) hp.2
def findF (r:ah) (fo q:Int) (p:List Int) (l:List aJ):mb × List aJ :=
 bif (l.length:Int) == 0 then ((⟨⟨false,0⟩,-1,[],1⟩:mb),[]) else bif !(Ae q).2 then (⟨⟨false,0⟩,-1,[],1⟩,[]) else
   bif p.isEmpty then ((⟨⟨false,0⟩,-1,[],1⟩:mb),[]) else (fun w:List Int × Int=>bif w.2 == 0 then ((⟨⟨false,0⟩,w.1.getD (ar ((w.1.length:Int) - 1)).toNat default,w.1,w.2⟩:mb),l) else (⟨⟨false,0⟩,-1,w.1,w.2⟩,l)) (Ag r fo q p)
theorem find_eq (r:ah) (fo q:Int) (c:fF):pJ r fo q c=findF r fo q (sO r fo { c with file:=ai c.file c.day }) (nR r { c with file:=ai c.file c.day }):=by kernel_rfl
theorem Xj (r:ah) (fo q:Int) (p:List Int) {l l':List aJ} (h:SQ l l'):(findF r fo q p l').1=(findF r fo q p l).1∧SQ (findF r fo q p l).2 (findF r fo q p l').2:=by
 unfold findF
 rw [h.1]
 cases (l.length:Int) == 0 with
 | true=>exact ⟨rfl,SQ.rfl' _⟩
 | false =>
  cases !(Ae q).2 with
  | true=>exact ⟨rfl,SQ.rfl' _⟩
  | false =>
   cases p.isEmpty with
   | true=>exact ⟨rfl,SQ.rfl' _⟩
   | false =>
    simp only [cond_false]
    cases (Ag r fo q p).2 == 0 with
    | true=>exact ⟨rfl,h⟩
    | false=>exact ⟨rfl,h⟩
theorem Su (r:ah) (fo:Int) (f:ak) (F:List Fact) (s h d u y:Int):sO r fo ⟨{ f with facts:=F },s,h,d,u,y⟩=sO r fo ⟨f,s,h,d,u,y⟩:=by kernel_rfl
theorem Dq (f:ak) (F:List Fact) (d:Int):ai { f with facts:=F } d = { ai f d with facts:=F.filter (fun x=>decide (x.at_≥0)&&decide (x.at_ < ((ai f d).af.length:Int))) }:=by
 rw [iR,iR]
def KL (kind at_:Int) (x:Fact) (s:Unit):aJ ⊕ Unit:=bif (x.kind == kind)&&(x.at_ == at_) then .inl (bif x.n == 0 then ⟨true,0⟩ else ⟨true,1⟩) else .inr ()
theorem Xk (f:ak) (kind at_:Int):GD f kind at_=walk (KL kind at_) (fun _=>⟨false,0⟩) f.facts ():=by
 simp only [GD,uc,Sk.dK,Sk.gd,Sk.iP,Sk.fB,Sk.jt,Sk.l7,Sk.dn,il.A1,kk,kp]
 refine (dT f.facts (fun s i=>i) (KL kind at_) id _ (fun s i hi=>?_) (fun s=>?_) (by simp) ()).trans rfl
 ·rw [decide_eq_true (by omega),cond_true]
  unfold KL
  cases (((f.facts.getD i default).kind == kind)&&((f.facts.getD i default).at_ == at_)) with
  | false=>rfl
  | true=>cases (f.facts.getD i default).n == 0 <;> rfl
 ·rw [decide_eq_false (by omega),cond_false]
theorem Vj (b:Bool):u9 b=bif b then ⟨true,1⟩ else ⟨true,0⟩:=by cases b <;> kernel_rfl
theorem Sv (f:ak) (kind at_:Int):GD f kind at_=bB f kind at_:=by
 rw [Xk,xp]
 congr 1
 funext x s
 unfold KL fb
 rw [Vj]
 cases hn:x.n == 0 with
 | true =>
  have:(x.n != 0)=false:=by simpa [bne] using hn
  rw [this]; rfl
 | false =>
  have:(x.n != 0)=true:=by simp [bne,hn]
  rw [this]; rfl
def yC (x y:Fact):Bool:=decide (y.at_ < x.at_)||((y.at_ == x.at_)&&decide (y.kind < x.kind))
def wT (x y:Fact):Bool:=decide (y.at_ > x.at_)||((y.at_ == x.at_)&&decide (y.kind > x.kind))
theorem Sw (f:ak) (x:Fact):pT f x=bif (bB f x.kind x.at_).known then f else { f with facts:=f.facts.filter (yC x)++[x]++f.facts.filter (wT x) }:=by
 rw [← Sv]
 simp only [pT,ud,Sk.dK,Sk.gd,Sk.iP,Sk.fB,Sk.jt,Sk.l7,Sk.dn,il.A1,kk,kp,EV]
 congr 1
 refine (dT f.facts (fun s i=>(s,i)) (fun y s=>.inr (bif yC x y then s++[y] else s)) id _ (fun s i hi=>?_) (fun s=>?_) (by simp) []).trans ?_
 ·have e:decide ((i:Int) < (f.facts.length:Int))=true:=decide_eq_true (by omega)
  simp only [e,cond_true]
  unfold yC
  cases (decide ((f.facts.getD i default).at_ < x.at_)||(((f.facts.getD i default).at_ == x.at_)&&decide ((f.facts.getD i default).kind < x.kind))) <;> rfl
 ·have e:decide ((f.facts.length:Int) < (f.facts.length:Int))=false:=decide_eq_false (by omega)
  simp only [e,cond_false]; rfl
 ·rw [j5,qX]
  simp only [id,List.nil_append]
  refine (dT f.facts (fun s i=>(s,i)) (fun y s=>.inr (bif wT x y then s++[y] else s)) id _ (fun s i hi=>?_) (fun s=>?_) (by simp) _).trans ?_
  ·have e:decide ((i:Int) < (f.facts.length:Int))=true:=decide_eq_true (by omega)
   simp only [e,cond_true]
   unfold wT
   cases (decide ((f.facts.getD i default).at_ > x.at_)||(((f.facts.getD i default).at_ == x.at_)&&decide ((f.facts.getD i default).kind > x.kind))) <;> rfl
  ·have e:decide ((f.facts.length:Int) < (f.facts.length:Int))=false:=decide_eq_false (by omega)
   simp only [e,cond_false]; rfl
  ·rw [j5,qX]; rfl
theorem rk {α σ β:Type} (step:α→σ→β ⊕ σ) (fin:σ→β):∀ {l:List α},(∀ y,y∈l→∀ s,step y s=.inr s)→∀ s,walk step fin l s=fin s
 | [],_,_=>rfl
 | y :: r,h,s=>by
  unfold walk
  rw [h y (by simp)]
  exact rk step fin (fun z hz=>h z (by simp [hz])) s
theorem ZL {p q:Fact→Bool} {k a:Int} (x:Fact) (f:List Fact) (hx:(walk (fb x.kind x.at_) (fun _=>(⟨false,0⟩:aJ)) f ()).known=false)
  (hp:p=yC x) (hq:q=wT x):bQ (walk (fb k a) (fun _=>⟨false,0⟩) f ()) (walk (fb k a) (fun _=>⟨false,0⟩) (f.filter p++[x]++f.filter q) ()):=by
 subst hp; subst hq
 by_cases h:x.kind=k∧x.at_=a
 ·rw [h.1,h.2] at hx
  intro hk
  rw [hx] at hk
  exact absurd hk (by decide)
 ·have hsx:∀ s,fb k a x s=.inr s:=fun s=>by
   unfold fb
   have:((x.kind == k)&&(x.at_ == a))=false:=by
    simp only [LN]
    by_cases c:x.kind=k
    ·exact .inr (fun e=>h ⟨c,e⟩)
    ·exact .inl c
   rw [this]; rfl
  have Yo:∀ (y:Fact) (s:Unit),(y.kind=k→y.at_=a→False)→fb k a y s=.inr s:=fun y s hy=>by
   unfold fb
   have:((y.kind == k)&&(y.at_ == a))=false:=by
    simp only [LN]
    by_cases c:y.kind=k
    ·exact .inr (fun e=>hy c e)
    ·exact .inl c
   rw [this]; rfl
  have e:walk (fb k a) (fun _=>(⟨false,0⟩:aJ)) (f.filter (yC x)++[x]++f.filter (wT x)) ()=walk (fb k a) (fun _=>⟨false,0⟩) f ():=by
   rw [List.append_assoc,BT]
   by_cases c:a < x.at_∨(a=x.at_∧k < x.kind)
   ·rw [show (fun s=>walk (fb k a) (fun _=>(⟨false,0⟩:aJ)) ([x]++f.filter (wT x)) s)=fun _=>⟨false,0⟩ from funext fun s=>by
     refine rk _ _ (fun y hy s=>?_) s
     rcases List.mem_append.1 hy with hy | hy
     ·simp only [List.mem_singleton] at hy
      subst hy
      exact hsx s
     ·have:=(List.mem_filter.1 hy).2
      unfold wT at this
      simp only [LN] at this
      exact Yo y s (fun e1 e2=>by omega)]
    refine tQ _ _ _ _ (fun y s hy=>Yo y s (fun e1 e2=>?_)) ()
    unfold yC at hy
    simp only [LN] at hy
    omega
   ·rw [rk _ _ (fun y hy s=>?_)]
    ·show walk _ _ ([x]++_) ()=_
     rw [BT,rk _ _ (fun y hy s=>?_)]
     ·refine tQ _ _ _ _ (fun y s hy=>Yo y s (fun e1 e2=>?_)) ()
      unfold wT at hy
      simp only [LN] at hy
      omega
     ·simp only [List.mem_singleton] at hy
      subst hy
      exact hsx s
    ·have:=(List.mem_filter.1 hy).2
     unfold yC at this
     simp only [LN] at this
     exact Yo y s (fun e1 e2=>by omega)
  rw [e]
  exact bQ.rfl' _
theorem Xl (f:ak) (x:Fact) (k a:Int):bQ (bB f k a) (bB (pT f x) k a):=by
 rw [Sw]
 cases h:(bB f x.kind x.at_).known with
 | true=>exact bQ.rfl' _
 | false =>
  rw [cond_false,xp,xp]
  rw [xp] at h
  exact ZL x f.facts h rfl rfl
theorem EY (r:ah) (fo q:Int) (f:ak) (F:List Fact) (y:Int):tU r fo q { f with facts:=F } y=tU r fo q f y:=rfl
theorem ND (f:ak) (F:List Fact):nT { f with facts:=F }=nT f:=by kernel_rfl
theorem iw (r:ah) (fo:Int) (f:ak) (F:List Fact) (d:Int):bJ r fo { f with facts:=F } d=bJ r fo f d:=by
 rw [IV,IV,Dq f F d,EY,ND]
theorem Vk {f:ak} {F:List Fact} (y:Int) (h:∀ k a,bQ (bB f k a) (bB { f with facts:=F } k a)):∀ k a,bQ (bB (ai f y) k a) (bB (ai { f with facts:=F } y) k a):=by
 intro k a
 by_cases c:0≤a∧a < (ai f y).af.length
 ·rw [X8 f y k a c,X8 { f with facts:=F } y k a (by rw [Dq f F]; exact c)]
  exact h k a
 ·refine bQ.unknown ?_
  rw [xp]
  rw [rk _ _ (fun x hx s=>?_)]
  rw [iR] at hx c
  dsimp only at hx c
  have:=(List.mem_filter.1 hx).2
  simp only [LN] at this
  unfold fb
  have e:(x.at_ == a)=false:=by
   simp only [LN]
   intro e
   subst e
   exact c ⟨this.1,this.2⟩
  rw [e,Bool.and_false,cond_false]
def Xm (f g:ak):Prop:=∃ F,g = { f with facts:=F }∧∀ k a,bQ (bB f k a) (bB { f with facts:=F } k a)
theorem Xm.refl (f:ak):Xm f f:=⟨f.facts,rfl,fun _ _=>bQ.rfl' _⟩
theorem bQ.trans' {a b c:aJ} (h:bQ a b) (h2:bQ b c):bQ a c:=fun hk=>by
 have e:=h hk
 rw [h2 (by rw [e]; exact hk),e]
theorem Xn (f:ak) (x:Fact):∃ F,pT f x = { f with facts:=F }:=by
 rw [Sw]
 cases (bB f x.kind x.at_).known with
 | true=>exact ⟨f.facts,rfl⟩
 | false=>exact ⟨_,rfl⟩
theorem NF {x:Fact}:∀ (l:List Fact),(l.filter (yC x)).length+(l.filter (wT x)).length≤l.length
 | []=>by simp
 | y :: l=>by
  have ih:=NF (x:=x) l
  have hd:yC x y=true→wT x y=true→False:=by
   unfold yC wT
   simp only [LN]
   omega
  simp only [List.filter_cons]
  split <;> split <;> simp only [List.length_cons] <;> first | omega | (exfalso; apply hd <;> assumption)
theorem abO (f:ak) (x:Fact):(pT f x).facts.length≤f.facts.length+1:=by
 rw [Sw]
 cases (bB f x.kind x.at_).known with
 | true=>exact Nat.le_succ _
 | false =>
  have:=NF (x:=x) f.facts
  simp only [cond_false,List.length_append,List.length_cons,List.length_nil]
  omega
theorem Xm.step {f g:ak} (h:Xm f g) (x:Fact):Xm f (pT g x):=by
 obtain ⟨F,rfl,hF⟩:=h
 obtain ⟨G,hG⟩:=Xn { f with facts:=F } x
 refine ⟨G,hG,fun k a=>(hF k a).trans' ?_⟩
 have:=Xl { f with facts:=F } x k a
 rw [hG] at this
 exact this
def lh (a b:Int):Prop:=a≠2→b=a
theorem lh.rfl' (a:Int):lh a a:=fun _=>rfl
theorem lh.op {a b:Int} (h:a=2):lh a b:=fun k=>absurd h k
def SLe (a b:mb):Prop:=b=a∨(a.err=0∧a.cell.known=false)
theorem Vl (o:Order) (q:Int) {l l':List aJ} (h:∀ q:Nat,bQ (l.getD q default) (l'.getD q default)):ku o q l'=ku o q l∨((ku o q l).2=0∧(ku o q l).1.known=false):=by
 have e:∀ l,ku o q l=bif (jz o q).2 != 0 then (⟨false,0⟩,(jz o q).2) else
  bif (Ae q).1 == 0&&(mP (jz o q).1 l).known then (⟨(mP (jz o q).1 l).known,cq (bX (mP (jz o q).1 l).n 0) 20000⟩,0) else (mP (jz o q).1 l,0):=fun l=>by kernel_rfl
 rw [e,e]
 have hm:=ZK (jz o q).1 h
 cases (jz o q).2 != 0 with
 | true=>exact .inl rfl
 | false =>
  simp only [cond_false]
  generalize mP (jz o q).1 l=x at hm ⊢
  generalize mP (jz o q).1 l'=x' at hm ⊢
  cases hk:x.known with
  | true=>rw [hm hk]; exact .inl (by rw [hk])
  | false=>rw [Bool.and_false,cond_false]; exact .inr ⟨rfl,hk⟩
def sq (f:ak) (F:List Fact):Prop:=∀ k a,bQ (bB f k a) (bB { f with facts:=F } k a)
theorem wU (r:ah) (fo q:Int) {f:ak} {F:List Fact} (s h e due y:Int) (hm:sq f F) :
  SLe (nm r fo q ⟨f,s,h,e,due,y⟩) (nm r fo q ⟨{ f with facts:=F },s,h,e,due,y⟩):=by
 have hF:=Vk y hm
 unfold SLe
 rw [abn,abn,find_eq,find_eq]
 dsimp only
 rw [Dq f F y] at hF ⊢
 rw [Su r fo (ai f y)]
 have hv:=ZJ r (ai f y) _ s h e due y y hF
 obtain ⟨h1,h2⟩:=Xj r fo q (sO r fo ⟨ai f y,s,h,e,due,y⟩) hv
 rw [h1]
 generalize (findF r fo q (sO r fo ⟨ai f y,s,h,e,due,y⟩) (nR r ⟨ai f y,s,h,e,due,y⟩))=w at h2 ⊢
 cases w.1.order != -1 with
 | true =>
  rw [cond_true,cond_true]
  rcases Vl (r.aE.getD w.1.order.toNat default) q h2.2 with k | k
  ·rw [k]; exact .inl (Eq.refl _)
  ·exact .inr k
 | false =>
  rw [cond_false,cond_false]
  exact .inl (Eq.refl _)
theorem Vm {a:mb} (h:a.err=0∧a.cell.known=false):fS a=2:=by
 have e:fS a=bif a.err != 0 then 0 else bif !a.cell.known then 2 else bif a.cell.n != 0 then 1 else 0:=by kernel_rfl
 rw [e,h.1,h.2]; rfl
theorem SLe.tri {a b:mb} (h:SLe a b):lh (fS a) (fS b):=by
 rcases h with h | h
 ·rw [h]; exact lh.rfl' _
 ·exact .op (Vm h)
def uT (f:ak) (F:List Fact) (d:Int):List Fact:=F.filter (fun x=>decide (x.at_≥0)&&decide (x.at_ < ((ai f d).af.length:Int)))
theorem EZ (f:ak) (F:List Fact) (d:Int):ai { f with facts:=F } d = { ai f d with facts:=uT f F d }:=Dq f F d
theorem sq.at {f:ak} {F:List Fact} (h:sq f F) (d:Int):sq (ai f d) (uT f F d):=by
 have:=Vk d h
 rw [EZ f F d] at this
 exact this
def vF (v:cP) (F:List Fact):cP:={ v with f:={ v.f with facts:=F } }
theorem zM {v:cP} {F:List Fact} (h:sq v.f F) (q:Int):SLe (bS v q) (bS (vF v F) q):=by
 have e:∀ v,bS v q=nm v.r v.forum q ⟨v.f,v.sign,v.sign,-1,v.due,v.day⟩:=fun v=>by kernel_rfl
 rw [e,e]
 exact wU v.r v.forum q v.sign v.sign (-1) v.due v.day h
theorem Sx (v:cP) (a:mb) (fr:Int):cJ v a fr=bif a.err != 0 then ⟨true,9223372036854775807⟩ else bif !a.cell.known then ⟨false,0⟩ else bif (yk (v.r.aN.getD v.f.aU.A2.toNat default) fr a.cell.n).2 != 0 then ⟨true,9223372036854775807⟩ else ⟨true,(yk (v.r.aN.getD v.f.aU.A2.toNat default) fr a.cell.n).1⟩:=by kernel_rfl
theorem Sy (v:cP) (F:List Fact) (a:mb) (fr:Int):cJ (vF v F) a fr=cJ v a fr:=by rw [Sx,Sx]; rfl
theorem Il (v:cP) {a:mb} (h:a.err=0∧a.cell.known=false) (fr:Int):cJ v a fr=⟨false,0⟩:=by rw [Sx,h.1,h.2]; rfl
theorem Im (v:cP) (on:Int) (t:sC):cQ v on t=bif !t.known then 2 else bif (on != (-1))&&(decide (on≤t.last)) then 1 else bif (on != (-1))||(decide (v.day > t.last)) then 0 else 2:=by kernel_rfl
theorem Io (v:cP) (F:List Fact) (on:Int) (t:sC):cQ (vF v F) on t=cQ v on t:=by rw [Im,Im]; rfl
theorem Vn (v:cP) (F:List Fact) (k fr:Int):ed (vF v F) k fr=ed v k fr:=by kernel_rfl
theorem Xo (v:cP) (F:List Fact):dp (vF v F)=dp v:=by kernel_rfl
theorem AQ (v:cP) (F:List Fact):bM (vF v F)=bM v:=by kernel_rfl
theorem ac0 (v:cP) (F:List Fact):gA (vF v F)=gA v:=by
 have e:∀ v,gA v=(fun x1:mb=>bif x1.err != 0 then (⟨true,9223372036854775807⟩:sC) else bif !x1.cell.known then ⟨false,0⟩ else bif decide ((ar (v.f.aU.day+x1.cell.n)) > 100000) then ⟨true,9223372036854775807⟩ else ⟨true,ar (v.f.aU.day+x1.cell.n)⟩) (tU v.r v.forum 7 v.f v.day):=fun v=>by kernel_rfl
 rw [e,e]
 rw [show tU (vF v F).r (vF v F).forum 7 (vF v F).f (vF v F).day=tU v.r v.forum 7 v.f v.day from EY v.r v.forum 7 v.f F v.day]
 rfl
theorem NG (l:List Int):dz l=if (0:Int)∈l then 0 else if (2:Int)∈l then 2 else 1:=by
 have e:dz l=bif bZ l 0 then 0 else bif bZ l 2 then 2 else 1:=by kernel_rfl
 rw [e]
 have h0:=contains_iff l 0
 have h2:=contains_iff l 2
 by_cases a:(0:Int)∈l
 ·rw [if_pos a,h0.2 a]; rfl
 ·rw [if_neg a,Bool.eq_false_iff.2 (fun x=>a (h0.1 x))]
  by_cases b:(2:Int)∈l
  ·rw [if_pos b,h2.2 b]; rfl
  ·rw [if_neg b,Bool.eq_false_iff.2 (fun x=>b (h2.1 x))]; rfl
theorem KM {a a' b b' c c':Int} (ha:lh a a') (hb:lh b b') (hc:lh c c'):lh (dz [a,b,c]) (dz [a',b',c']):=by
 unfold lh at *
 rw [NG,NG]
 simp only [List.mem_cons,List.not_mem_nil,or_false]
 intro k
 by_cases z:0=a∨0=b∨0=c
 ·have z':0=a'∨0=b'∨0=c':=by
   rcases z with z | z | z
   ·exact .inl (by rw [ha (by omega)]; exact z)
   ·exact .inr (.inl (by rw [hb (by omega)]; exact z))
   ·exact .inr (.inr (by rw [hc (by omega)]; exact z))
  rw [if_pos z,if_pos z']
 ·rw [if_neg z] at k ⊢
  by_cases t:2=a∨2=b∨2=c
  ·rw [if_pos t] at k; exact absurd rfl k
  ·rw [ha (by omega),hb (by omega),hc (by omega),if_neg z]
theorem ac1 {a b b':Int} (hb:lh b b'):lh (dz [a,b]) (dz [a,b']):=by
 have e:∀ b,dz [a,b]=dz [a,a,b]:=fun b=>by rw [NG,NG]; simp
 rw [e,e]
 exact KM (lh.rfl' _) (lh.rfl' _) hb
def Vo (k0 rf du:Bool) (t1 b5 t2:Int):Int:=bif k0 then t1 else bif rf then b5 else bif du then dz [b5,2] else dz [b5,t2]
theorem GF (v:cP):dA v=Vo (v.f.aU.df.kind == 0) (dp v != (-1)) (v.due == (-1)) (cQ v (ed v 2 0) (gA v)) (bif v.f.aU.df.kind == 1 then cQ v (nT v.f) (gA v) else 1) (cQ v (ed v 2 v.due) (cJ v (bS v 10) v.due)):=by
 unfold dA dL Vo
 dsimp +instances only [Sk.dK,Sk.fB,Sk.jt,Sk.dn,il.A1,kk,kp,bH.IE,bH.rD,eC,jN,fQ,pL,fh,iE,bo,cp]
 cases v.f.aU.df.kind == 0 <;> cases v.f.aU.df.kind == 1 <;> rfl
theorem GG {v:cP} {F:List Fact} (h:sq v.f F):lh (dA v) (dA (vF v F)):=by
 rw [GF,GF,Xo,ac0,Vn,Vn,Io,Io,Io,show nT (vF v F).f=nT v.f from ND v.f F]
 have ht:lh (cQ v (ed v 2 v.due) (cJ v (bS v 10) v.due)) (cQ v (ed v 2 v.due) (cJ (vF v F) (bS (vF v F) 10) v.due)):=by
  rcases zM h 10 with e | e
  ·rw [e,Sy]; exact lh.rfl' _
  ·rw [Il v e]; exact .op (by rw [Im]; rfl)
 show lh (Vo (v.f.aU.df.kind == 0) (dp v != (-1)) (v.due == (-1)) _ _ _) (Vo (v.f.aU.df.kind == 0) (dp v != (-1)) (v.due == (-1)) _ _ _)
 unfold Vo
 cases v.f.aU.df.kind == 0 with
 | true=>rw [cond_true,cond_true]; exact lh.rfl' _
 | false =>
  rw [cond_false,cond_false]
  cases dp v != (-1) with
  | true=>rw [cond_true,cond_true]; exact lh.rfl' _
  | false =>
   rw [cond_false,cond_false]
   cases v.due == (-1) with
   | true=>rw [cond_true,cond_true]; exact lh.rfl' _
   | false=>rw [cond_false,cond_false]; exact ac1 ht
def GH (P:bD→Bool) (t:Int) (a:bD) (s:Int):Int ⊕ Int:=bif P a then .inr s else bif a.form == 1 then (bif t == 1 then .inl 1 else bif t == 2 then .inr 2 else .inr s) else .inl 1
def uU (P:bD→Bool) (t:Int) (l:List bD) (s:Int):Int:=walk (GH P t) (fun s=>s) l s
theorem AR (P:bD→Bool) (t:Int) (a:bD) (l:List bD) (s:Int):uU P t (a :: l) s=bif P a then uU P t l s else bif a.form == 1 then (bif t == 1 then 1 else bif t == 2 then uU P t l 2 else uU P t l s) else 1:=by
 unfold uU
 simp only [walk]
 unfold GH
 cases P a <;> cases a.form == 1 <;> cases t == 1 <;> cases t == 2 <;> rfl
theorem CQ (P:bD→Bool) (t:Int):∀ (l:List bD) (s:Int),uU P 2 l 2=1→uU P t l s=1
 | [],s,h=>absurd (show (2:Int)=1 from h) (by decide)
 | a :: l,s,h=>by
  rw [AR] at h ⊢
  cases hp:P a with
  | true=>rw [hp] at h; exact CQ P t l s h
  | false =>
   rw [hp] at h
   cases hq:a.form == 1 with
   | false=>rfl
   | true =>
    rw [hq] at h
    have h:=show uU P 2 l 2=1 from h
    cases t == 1 with
    | true=>rfl
    | false =>
     cases t == 2 with
     | true=>exact CQ P t l 2 h
     | false=>exact CQ P t l s h
theorem NH (P:bD→Bool):∀ (l:List bD),uU P 2 l 2≠2→uU P 2 l 2=1
 | [],h=>absurd rfl h
 | a :: l,h=>by
  rw [AR] at h ⊢
  cases hp:P a with
  | true=>rw [hp] at h; exact NH P l h
  | false =>
   rw [hp] at h
   cases hq:a.form == 1 with
   | false=>rfl
   | true=>rw [hq] at h; exact NH P l h
theorem Yp (P:bD→Bool) (t:Int):∀ (l:List bD) (s:Int),lh (uU P 2 l s) (uU P t l s)
 | [],s=>lh.rfl' _
 | a :: l,s=>by
  rw [AR,AR]
  cases P a with
  | true=>exact Yp P t l s
  | false =>
   cases a.form == 1 with
   | false=>exact lh.rfl' _
   | true =>
    intro h
    have h:=show uU P 2 l 2≠2 from h
    have h1:=NH P l h
    refine Eq.trans ?_ (show (1:Int)=uU P 2 l 2 from h1.symm)
    cases t == 1 with
    | true=>rfl
    | false =>
     cases t == 2 with
     | true=>exact CQ P t l 2 h1
     | false=>exact CQ P t l s h1
theorem GI (v:cP):dC v=(fun p:sC=>bif !p.known then 2 else uU (fun a=>(((a.kind != 4)||(a.cM != v.f.aU.m4))||(decide (a.day < bM v)))||(decide (a.day > p.last))) (fS (bS v 9)) v.f.aw (bif decide (v.day≤p.last) then 2 else 0)) (cJ v (bS v 10) (bM v)):=by
 unfold dC dM
 dsimp +instances only [Sk.dK,Sk.gd,Sk.iP,Sk.fB,Sk.jt,Sk.l7,Sk.dn,il.A1,kk,kp,bH.IE,cu,cp,bo,eZ]
 generalize cJ v (bS v 10) (bM v)=p
 generalize fS (bS v 9)=t
 cases p.known with
 | false=>rfl
 | true =>
  have key:∀ (s0:Int) (d:Int ⊕ Int),iY (iter (fun i6:Int × Nat=>bif decide ((i6.2:Int) < ((v.f.aw.length:Nat):Int)) then
    bif ((((((v.f.aw.getD i6.2 default).kind) != 4)||(((v.f.aw.getD i6.2 default).cM) != v.f.aU.m4))||(decide (((v.f.aw.getD i6.2 default).day) < bM v)))||(decide (((v.f.aw.getD i6.2 default).day) > p.last))) then Sum.inr (i6.1,i6.2+1) else
    iY (bif ((v.f.aw.getD i6.2 default).form) == 1 then (Sum.inr t:((Int ⊕ Int) ⊕ (Int × Nat)) ⊕ Int) else Sum.inr 1) fun b7=>bif b7 == 1 then Sum.inl (Sum.inl 1) else bif b7 == 2 then Sum.inr (2,i6.2+1) else Sum.inr (i6.1,i6.2+1)
    else Sum.inl (Sum.inr i6.1)) d (v.f.aw.length - 0+1) (s0,0)) (fun b=>b)=uU (fun a=>(((a.kind != 4)||(a.cM != v.f.aU.m4))||(decide (a.day < bM v)))||(decide (a.day > p.last))) t v.f.aw s0:=by
   intro s0 d
   refine dT v.f.aw (fun s i=>(s,i)) (GH (fun a=>(((a.kind != 4)||(a.cM != v.f.aU.m4))||(decide (a.day < bM v)))||(decide (a.day > p.last))) t) (fun s=>s) (fun b=>b) (fun s i hi=>?_) (fun s=>?_) (by omega) s0
   ·dsimp only
    rw [decide_eq_true (by omega),cond_true]
    unfold GH
    dsimp only
    cases ((((((v.f.aw.getD i default).kind) != 4)||(((v.f.aw.getD i default).cM) != v.f.aU.m4))||(decide (((v.f.aw.getD i default).day) < bM v)))||(decide (((v.f.aw.getD i default).day) > p.last))) with
    | true=>rfl
    | false =>
     cases ((v.f.aw.getD i default).form) == 1 with
     | false=>rfl
     | true=>simp only [cond_true,cond_false,iY]; cases t == 1 <;> cases t == 2 <;> rfl
   ·dsimp only
    rw [decide_eq_false (by omega),cond_false]
  cases decide (v.day≤p.last) with
  | true=>exact key 2 _
  | false=>exact key 0 _
theorem Sz {v:cP} {F:List Fact} (h:sq v.f F):lh (dC v) (dC (vF v F)):=by
 rw [GI,GI,AQ]
 rcases zM h 10 with e | e
 ·rw [e,Sy]
  generalize cJ v (bS v 10) (bM v)=p
  cases hp:p.known with
  | false=>exact .op (by dsimp only; rw [hp]; rfl)
  | true =>
   dsimp only
   rw [hp,Bool.not_true,cond_false,cond_false]
   rcases zM h 9 with e9 | e9
   ·rw [e9]; exact lh.rfl' _
   ·rw [Vm e9]; exact Yp _ _ _ _
 ·exact .op (by rw [Il v e]; rfl)
theorem Qy {s s':mb} {a a':Int} (h:lh (fS s) (fS s')) (ha:lh a a'):lh (jo s a) (jo s' a'):=by
 have e:∀ s a,jo s a=bif (fS s == 0)||(a == 1) then 1 else bif fS s == 2 then 2 else a:=fun s a=>by kernel_rfl
 rw [e,e]
 generalize fS s=t at h
 generalize fS s'=t' at h
 intro k
 by_cases c:t=0∨a=1
 ·have c':t'=0∨a'=1:=by
   rcases c with c | c
   ·exact .inl (by rw [h (by omega)]; exact c)
   ·exact .inr (by rw [ha (by omega)]; exact c)
  rw [show ((t == 0)||(a == 1))=true by simpa using c,show ((t' == 0)||(a' == 1))=true by simpa using c']; rfl
 ·have cf:((t == 0)||(a == 1))=false:=by simpa using c
  rw [cf,cond_false] at k
  by_cases t2:t=2
  ·rw [t2] at k; exact absurd rfl k
  ·rw [show (t == 2)=false by simpa using t2,cond_false] at k
   rw [h t2,ha k]
theorem Vp {v:cP} {F:List Fact} (h:sq v.f F):lh (dR v) (dR (vF v F)):=by
 rcases zM h 12 with e | e
 ·intro _
  unfold dR di
  dsimp +instances only [Sk.dK,Sk.gd,Sk.iP,Sk.fB,Sk.jt,Sk.l7,Sk.dn,il.A1,kk,kp,bH.Zg,cu,cp,bo]
  rw [e,AQ]
  simp only [Sy]
  rfl
 ·refine .op ?_
  unfold dR di
  dsimp +instances only [Sk.dK,Sk.gd,Sk.iP,Sk.fB,Sk.jt,Sk.l7,Sk.dn,il.A1,kk,kp,bH.Zg,cu,cp,bo]
  rw [Il v e]
  rfl
theorem Vq (r:ah) (fo:Int) (f:ak) (s d:Int):(jD r fo f s d).all=(fun v:cP=>bif (decide (s < 0))||(decide (s≥((v.f.af.length:Nat):Int))) then 0 else dz [dA v,bif v.due != (-1) then jo (bS v 8) (dC v) else 2,bif v.due != (-1) then jo (bS v 11) (dR v) else 2]) (gv r fo f s d):=by
 unfold jD kG
 dsimp +instances only [Sk.dK,Sk.fB,Sk.jt,Sk.dn,il.A1,kk,kp,bH.IE,bH.rD,lQ,jB,bo,jC,mq,j2,iE]
 generalize gv r fo f s d=v
 cases (decide (s < 0))||(decide (s≥((v.f.af.length:Nat):Int))) <;> cases v.due != (-1) <;> rfl
theorem aeM (r:ah) (fo:Int) (f:ak) (F:List Fact) (s d:Int):gv r fo { f with facts:=F } s d=vF (gv r fo f s d) (uT f F d):=by
 have e:∀ f,gv r fo f s d=⟨r,fo,ai f d,s,d,bJ r fo f d⟩:=fun f=>by kernel_rfl
 rw [e,e,EZ,iw]; rfl
theorem ac2 (r:ah) (fo:Int) {f:ak} {F:List Fact} (s d:Int) (h:sq f F):lh (jD r fo f s d).all (jD r fo { f with facts:=F } s d).all:=by
 rw [Vq,Vq,aeM r fo f F s d]
 have hv:sq (gv r fo f s d).f (uT f F d):=by
  rw [show (gv r fo f s d).f=ai f d from by kernel_rfl]
  exact h.at d
 generalize gv r fo f s d=v at hv ⊢
 dsimp only
 rw [show (vF v (uT f F d)).f.af.length=v.f.af.length from rfl,show (vF v (uT f F d)).due=v.due from rfl]
 cases (decide (s < 0))||(decide (s≥((v.f.af.length:Nat):Int))) with
 | true=>rw [cond_true,cond_true]; exact lh.rfl' _
 | false =>
  rw [cond_false,cond_false]
  cases v.due != (-1) with
  | true=>simp only [cond_true]; exact KM (GG hv) (Qy (zM hv 8).tri (Sz hv)) (Qy (zM hv 11).tri (Vp hv))
  | false=>simp only [cond_false]; exact KM (GG hv) (lh.rfl' _) (lh.rfl' _)
def bF (v:mH) (F:List Fact):mH:={ v with f:={ v.f with facts:=F } }
theorem NI {v:mH} {F:List Fact} (h:sq v.f F) (q s:Int):lh (fg v q s) (fg (bF v F) q s):=by
 have e:∀ v,fg v q s=fS (nm v.r v.forum q ⟨v.f,s,s,-1,v.due,v.day⟩):=fun v=>by kernel_rfl
 rw [e,e]
 exact (wU v.r v.forum q s s (-1) v.due v.day h).tri
theorem ac3 (v:mH) (s:Int):dX v s=bif !(v.f.bn.foldl (fun b a=>b||decide (a.at_ > s)) false) then (0,l4 v.f s) else
  (fun x4:Int=>bif x4 == 1 then (x4,(v.f.bn.getD ((ar (((v.f.bn.length:Nat):Int) - 1)).toNat) default).sum) else bif x4 == 2 then (x4,cq (l4 v.f s) ((v.f.bn.getD ((ar (((v.f.bn.length:Nat):Int) - 1)).toNat) default).sum)) else (x4,l4 v.f s)) (fg v 4 s):=by
 unfold dX gu
 dsimp +instances only [Sk.dK,Sk.gd,Sk.iP,Sk.fB,Sk.jt,Sk.l7,Sk.dn,il.A1,kk,kp,tu,eA]
 refine (dT v.f.bn (fun s i=>(s,i)) (fun a b=>.inr (b||decide (a.at_ > s))) (fun b=>b) _ (fun b i hi=>?_) (fun b=>?_) (by omega) false).trans ?_
 ·dsimp only
  rw [decide_eq_true (by omega),cond_true]
 ·dsimp only
  rw [decide_eq_false (by omega),cond_false]
 ·rw [j5]
def Yq (b:Bool) (x y a:Int):Int × Int:=bif !b then (0,x) else bif a == 1 then (a,y) else bif a == 2 then (a,cq x y) else (a,x)
theorem abP (c:Bool) (x y:Int) {a b:Int} (hs:lh a b):(Yq c x y a).2≤(Yq c x y b).2:=by
 unfold Yq
 cases !c with
 | true=>exact Int.le_refl _
 | false =>
  rw [cond_false,cond_false]
  by_cases k:a=2
  ·subst k
   show cq x y≤_
   have h1:cq x y≤x:=by unfold cq; split <;> omega
   have h2:cq x y≤y:=by unfold cq; split <;> omega
   cases h1':b == 1 with
   | true=>exact h2
   | false =>
    rw [cond_false]
    cases b == 2 with
    | true=>exact Int.le_refl _
    | false=>exact h1
  ·rw [hs k]; exact Int.le_refl _
theorem ac4 {v:mH} {F:List Fact} (h:sq v.f F) (s:Int):(dX v s).2≤(dX (bF v F) s).2:=by
 have e:∀ v,dX v s=Yq (v.f.bn.foldl (fun b a=>b||decide (a.at_ > s)) false) (l4 v.f s) (v.f.bn.getD ((ar (((v.f.bn.length:Nat):Int) - 1)).toNat) default).sum (fg v 4 s):=fun v=>ac3 v s
 have e2:l4 (bF v F).f s=l4 v.f s:=by kernel_rfl
 rw [e,e,e2]
 exact abP _ _ _ (NI h 4 s)
theorem abQ (f:ak) (F:List Fact) (s d:Int):kz { f with facts:=F } s d=kz f s d:=by kernel_rfl
theorem Dr (v:mH) (s:Int):cw v s = { sign:=s,kind:=(v.f.af.getD s.toNat default).kind,gD:=(v.f.af.getD s.toNat default).dQ,binds:=bif !(kz v.f s v.day) then bind_join [v.form,fg v 1 s,fg v 2 s] else 0,text:=(dX v s).1,sum:=bif (((v.f.af.getD s.toNat default).kind) == 1)||(((v.f.af.getD s.toNat default).kind) == 4) then cq (dX v s).2 ((v.f.af.getD s.toNat default).sum) else (dX v s).2,fM:=(((v.f.af.getD s.toNat default).kind) != 1)&&((eJ .i64 ((v.f.af.getD s.toNat default).flags) 1) == 0) }:=by
 unfold cw eP
 dsimp +instances only [Sk.dK,Sk.fB,Sk.jt,Sk.dn,il.A1,kk,kp,bH.IE,bH.rD,rW,eA,rb,oV]
 cases kz v.f s v.day <;> cases (((v.f.af.getD s.toNat default).kind) == 1)||(((v.f.af.getD s.toNat default).kind) == 4) <;> rfl
theorem Vr:∀ (l:List Int) (o:Int),jn l o=if (0:Int)∈l then 0 else if (2:Int)∈l then 2 else o
 | [],o=>by simp [jn]
 | x :: r,o=>by
  simp only [jn,Vr r,List.mem_cons]
  by_cases h0:x=0
  ·simp [h0]
  ·by_cases h2:x=2
   ·subst h2; simp
   ·have a:¬ (0:Int)=x:=fun e=>h0 e.symm
    have b:¬ (2:Int)=x:=fun e=>h2 e.symm
    simp [h0,h2,a,b]
def SA (st:Bool) (a b c:Int):Int:=bif !st then bind_join [a,b,c] else 0
theorem ZM (st:Bool) (a:Int) {b b' c c':Int} (hb:lh b b') (hc:lh c c'):lh (SA st a b c) (SA st a b' c'):=by
 have e:∀ l,bind_join l=dz l:=fun l=>by rw [show bind_join l=jn l 1 from Co l,Vr,NG]
 unfold SA
 cases st with
 | true=>rw [Bool.not_true,cond_false,cond_false]; exact lh.rfl' _
 | false =>
  rw [Bool.not_false,cond_true,cond_true,e,e]
  exact KM (lh.rfl' _) hb hc
theorem SB {v:mH} {F:List Fact} (h:sq v.f F) (s:Int):lh (cw v s).binds (cw (bF v F) s).binds:=by
 have e:∀ v,(cw v s).binds=SA (kz v.f s v.day) v.form (fg v 1 s) (fg v 2 s):=fun v=>congrArg cX.binds (Dr v s)
 have e2:kz (bF v F).f s (bF v F).day=kz v.f s v.day:=abQ v.f F s v.day
 rw [e,e,e2]
 exact ZM _ v.form (NI h 1 s) (NI h 2 s)
theorem Xp {v:mH} {F:List Fact} (h:sq v.f F) (s:Int):(cw v s).sum≤(cw (bF v F) s).sum:=by
 have e:∀ v,(cw v s).sum=(fun (k:Bool) (t x:Int)=>bif k then cq t x else t) ((((v.f.af.getD s.toNat default).kind) == 1)||(((v.f.af.getD s.toNat default).kind) == 4)) (dX v s).2 ((v.f.af.getD s.toNat default).sum):=fun v=>congrArg cX.sum (Dr v s)
 rw [e,e]
 have ht:=ac4 h s
 show (fun (k:Bool) (t x:Int)=>bif k then cq t x else t) ((((v.f.af.getD s.toNat default).kind) == 1)||(((v.f.af.getD s.toNat default).kind) == 4)) _ ((v.f.af.getD s.toNat default).sum)≤(fun (k:Bool) (t x:Int)=>bif k then cq t x else t) ((((v.f.af.getD s.toNat default).kind) == 1)||(((v.f.af.getD s.toNat default).kind) == 4)) _ ((v.f.af.getD s.toNat default).sum)
 dsimp only
 cases (((v.f.af.getD s.toNat default).kind) == 1)||(((v.f.af.getD s.toNat default).kind) == 4) with
 | true=>rw [cond_true,cond_true]; unfold cq; split <;> split <;> omega
 | false=>rw [cond_false,cond_false]; exact ht
theorem Xq (v:mH) (F:List Fact) (s:Int):(cw (bF v F) s).fM=(cw v s).fM:=by rw [Dr,Dr]; rfl
theorem NJ (r:ah) (fo:Int) (f:ak) (d:Int):jl r fo f d=⟨r,fo,d,ai f d,fS (tU r fo 0 (ai f d) d),bJ r fo (ai f d) d⟩:=by kernel_rfl
theorem Yr (r:ah) (fo:Int) (f:ak) (F:List Fact) (d:Int):jl r fo { f with facts:=F } d=bF (jl r fo f d) (uT f F d):=by
 rw [NJ,NJ,EZ,EY,iw]; rfl
theorem NK {r:ah} {fo:Int} {f:ak} {F:List Fact} {d:Int} (h:sq f F):sq (jl r fo f d).f (uT f F d):=by
 rw [NJ]; exact h.at d
theorem I5 (r:ah) (fo:Int) (f:ak) (d:Int) {i:Nat} (hi:i < (ai f d).af.length):(aW r fo f d).getD i default=cw (jl r fo f d) ((i:Nat):Int):=by
 have e:aW r fo f d=(List.range (ai f d).af.length).map fun j=>cw (jl r fo f d) ((j:Nat):Int):=by
  unfold aW ka
  dsimp +instances only [Sk.dK,Sk.gd,Sk.iP,Sk.fB,Sk.jt,Sk.l7,Sk.dn,il.A1,kk,kp,bH.aa0,bH.rD,nU,fC]
  rw [show (jl r fo f d).f=ai f d from (MM r fo f d).1]
  refine congrArg (fun q=>iY q fun b=>b) (De (ai f d).af.length (fun k=>(List.range k).map fun j=>cw (jl r fo f d) ((j:Nat):Int)) (fun s i=>(s,i)) (fun s=>Sum.inr s) (fun i hi=>?_) ?_ (by omega))
  ·dsimp only
   rw [decide_eq_true (by omega),cond_true,List.range_succ,List.map_append]
   rfl
  ·dsimp only
   rw [decide_eq_false (by omega),cond_false]
 rw [e]
 simp [List.getD,hi]
theorem ZO {a b c:Int} (ha:0≤a∧a≤9223372036854775807) (hb:0≤b∧b≤9223372036854775807) (hc:0 < c∧c≤9223372036854775807):((nX a b c).2.2=true∧(nX a b c).1=a * b / c∧a * b / c≤1099511627776)∨((nX a b c).2.2=false∧1099511627776 < a * b / c):=by
 have e:nX a b c=(fun x1:Int × Int=>bif decide (x1.1≥(IntKind.u64.wrap c)) then (0,0,false) else (fun x2:Int × Int=>bif decide (x2.1 > 1099511627776) then (0,0,false) else (ar (x2.1),ar (x2.2),true)) (wD x1.1 x1.2 (IntKind.u64.wrap c))) (sQ (IntKind.u64.wrap a) (IntKind.u64.wrap b)):=by kernel_rfl
 rw [e,eu (n:=a) ha.1 (by omega),eu (n:=b) hb.1 (by omega),eu (n:=c) (by omega) (by omega)]
 obtain ⟨x1,x2,x3⟩:=uB a b ⟨⟨ha.1,by omega⟩,hb.1,by omega⟩
 generalize sQ a b=x at x1 x2 x3 ⊢
 dsimp only
 by_cases h:x.1≥c
 ·rw [decide_eq_true h]
  refine .inr ⟨rfl,?_⟩
  have:18446744073709551616≤a * b / c:=Int.le_ediv_of_mul_le hc.1 (by omega)
  omega
 ·rw [decide_eq_false h]
  have hy:=uF x.1 x.2 c ⟨x1.1,by omega,by omega,x2.1,x2.2⟩
  generalize wD x.1 x.2 c=y at hy ⊢
  rw [x3] at hy
  have q0:0≤a * b / c:=Int.ediv_nonneg (Int.mul_nonneg ha.1 hb.1) (by omega)
  rw [cond_false]
  by_cases k:y.1 > 1099511627776
  ·rw [decide_eq_true k]; exact .inr ⟨rfl,by omega⟩
  ·rw [decide_eq_false k]; exact .inl ⟨rfl,by show ar y.1=_; rw [aA (by omega) (by omega)]; exact hy.1,by omega⟩
theorem Vs {s s' p p':Int} (fr t:Int) (hs:0≤s∧s≤s'∧s'≤1099511627776) (hp:p'=p∨(0≤p∧p≤p'∧p'≤1000)):fx s p fr t≤fx s' p' fr t:=by
 have e:∀ s p,fx s p fr t=bif (sf s p fr t 360).2 == 3 then 1099511627776 else (sf s p fr t 360).1:=fun s p=>by kernel_rfl
 have ei:∀ s p,sf s p fr t 360=bif (((((!(dq s 1099511627776))||(!(dq p 1000)))||(!(dq fr 100000)))||(!(dq t 100000)))||(decide (t < fr)))||(((360:Int) != 360)&&((360:Int) != 365)) then (0,1) else bif !(nX s (ar (p * (ar (t - fr)))) (ar ((1000:Int) * 360))).2.2 then (0,3) else ((nX s (ar (p * (ar (t - fr)))) (ar ((1000:Int) * 360))).1,0):=fun s p=>by kernel_rfl
 have hw:∀ n m,dq n m=(decide (n≥0)&&decide (n≤m)):=fun n m=>by rw [uE]
 have h0:=nY s' p' fr t
 by_cases c:(0≤p∧p≤1000)∧(0≤fr∧fr≤100000)∧(0≤t∧t≤100000)∧fr≤t
 ·have hp2:0≤p'∧p≤p'∧p'≤1000:=by omega
  have agu:∀ s p,0≤s→s≤1099511627776→0≤p→p≤1000→fx s p fr t=if s * (p * (t - fr)) / 360000≤1099511627776 then s * (p * (t - fr)) / 360000 else 1099511627776:=by
   intro s p a1 a2 a3 a4
   have hp0:0≤p * (t - fr):=Int.mul_nonneg (by omega) (by omega)
   have hp1:p * (t - fr)≤1000 * (t - fr):=Int.mul_le_mul_of_nonneg_right (by omega) (by omega)
   have hc:((((((!(dq s 1099511627776))||(!(dq p 1000)))||(!(dq fr 100000)))||(!(dq t 100000)))||(decide (t < fr)))||(((360:Int) != 360)&&((360:Int) != 365)))=false:=by
    simp only [hw]
    rw [decide_eq_true (show s≥0 by omega),decide_eq_true (show s≤1099511627776 by omega),decide_eq_true (show p≥0 by omega),decide_eq_true (show p≤1000 by omega),decide_eq_true (show fr≥0 by omega),decide_eq_true (show fr≤100000 by omega),decide_eq_true (show t≥0 by omega),decide_eq_true (show t≤100000 by omega),decide_eq_false (show ¬ t < fr by omega)]
    rfl
   rw [e,ei,hc,cond_false,aA (n:=t - fr) (by omega) (by omega),aA (n:=p * (t - fr)) (by omega) (by omega),show ar ((1000:Int) * 360)=360000 from by rw [aA (by omega) (by omega)]; rfl]
   rcases ZO (a:=s) (b:=p * (t - fr)) (c:=360000) ⟨a1,by omega⟩ ⟨hp0,by omega⟩ ⟨by omega,by omega⟩ with ⟨k1,k2,k3⟩ | ⟨k1,k2⟩
   ·rw [k1,if_pos k3]; exact k2
   ·rw [k1,if_neg (by omega)]; rfl
  rw [agu s p hs.1 (by omega) (by omega) (by omega),agu s' p' (by omega) (by omega) (by omega) (by omega)]
  have m1:p * (t - fr)≤p' * (t - fr):=Int.mul_le_mul_of_nonneg_right hp2.2.1 (by omega)
  have m2:s * (p * (t - fr))≤s' * (p' * (t - fr)):=Int.mul_le_mul hs.2.1 m1 (Int.mul_nonneg (by omega) (by omega)) (by omega)
  have m3:s * (p * (t - fr)) / 360000≤s' * (p' * (t - fr)) / 360000:=Int.ediv_le_ediv (by omega) m2
  split <;> split <;> omega
 ·refine Int.le_trans (Int.le_of_eq ?_) h0.1
  have hc:((((((!(dq s 1099511627776))||(!(dq p 1000)))||(!(dq fr 100000)))||(!(dq t 100000)))||(decide (t < fr)))||(((360:Int) != 360)&&((360:Int) != 365)))=true:=by
   simp only [hw]
   simp only [Bool.or_eq_true,Bool.not_eq_true',Bool.and_eq_false_iff,decide_eq_false_iff_not,decide_eq_true_eq]
   omega
  rw [e,ei,hc]; rfl
theorem ac5 {s s':Int} {a b:mJ} (hs:0≤s∧s≤s'∧s'≤1099511627776) (ha:(1≤a.num∧a.num≤1073741824)∧1≤a.den∧a.den≤1073741824) (hb:(1≤b.num∧b.num≤1073741824)∧1≤b.den∧b.den≤1073741824):n4 s a b≤n4 s' a b:=by
 obtain ⟨hk,ek⟩:=HX (a:=a.num) (b:=b.num) ha.1 hb.1
 obtain ⟨hw,ew⟩:=HX (a:=a.den) (b:=b.den) ha.2 hb.2
 have val:∀ s,0≤s→s≤1099511627776→n4 s a b=if a.num * b.num≥a.den * b.den then 0 else s * (a.den * b.den - a.num * b.num) / (a.den * b.den):=by
  intro s s0 s1
  have e:n4 s a b=bif decide ((IntKind.u64.wrap ((IntKind.u64.wrap (a.num)) * (IntKind.u64.wrap (b.num))))≥(IntKind.u64.wrap ((IntKind.u64.wrap (a.den)) * (IntKind.u64.wrap (b.den))))) then 0 else (fun x1:Int × Int=>ar (wD x1.1 x1.2 (IntKind.u64.wrap ((IntKind.u64.wrap (a.den)) * (IntKind.u64.wrap (b.den))))).1) (sQ (IntKind.u64.wrap (s)) (IntKind.u64.wrap ((IntKind.u64.wrap ((IntKind.u64.wrap (a.den)) * (IntKind.u64.wrap (b.den)))) - (IntKind.u64.wrap ((IntKind.u64.wrap (a.num)) * (IntKind.u64.wrap (b.num))))))):=by kernel_rfl
  rw [e,ek,ew]
  by_cases hc:a.num * b.num≥a.den * b.den
  ·rw [decide_eq_true hc,if_pos hc]; rfl
  ·rw [decide_eq_false hc,if_neg hc,cond_false,eu (n:=s) s0 (by omega),eu (n:=a.den * b.den - a.num * b.num) (by omega) (by omega)]
   obtain ⟨h1,h2,h3⟩:=uB s (a.den * b.den - a.num * b.num) ⟨⟨s0,by omega⟩,by omega,by omega⟩
   generalize sQ s (a.den * b.den - a.num * b.num)=x at h1 h2 h3 ⊢
   obtain ⟨l1,l2,l3⟩:=M8 ⟨s0,s1⟩ (D:=a.den * b.den - a.num * b.num) (by omega) hw h1.1 h2.1 h3
   have hy:=(uF x.1 x.2 (a.den * b.den) ⟨h1.1,l1,by omega,h2.1,h2.2⟩).1
   rw [h3] at hy
   dsimp only
   rw [hy,aA (by omega) (by omega)]
 rw [val s hs.1 (by omega),val s' (by omega) hs.2.2]
 split
 ·exact Int.le_refl _
 ·exact Int.ediv_le_ediv (by omega) (Int.mul_le_mul_of_nonneg_right hs.2.1 (by omega))
theorem Vt {r:ah} (b:rE) (dQ:Int) {s s':Int} (fr t:Int) (hs:0≤s∧s≤s'∧s'≤1099511627776) (hR:r.dg):kb r b dQ s fr t≤kb r b dQ s' fr t:=by
 have e:∀ s,kb r b dQ s fr t=bif ((r.aN.getD (((r.bu.getD dQ.toNat default).cH).toNat) default).au) == b.au then 0 else
   bif (!(l6 r b.au ((r.aN.getD (((r.bu.getD dQ.toNat default).cH).toNat) default).au) fr).2)||(!(l6 r ((r.aN.getD (((r.bu.getD dQ.toNat default).cH).toNat) default).au) b.au t).2) then 0 else
   n4 s (l6 r b.au ((r.aN.getD (((r.bu.getD dQ.toNat default).cH).toNat) default).au) fr).1 (l6 r ((r.aN.getD (((r.bu.getD dQ.toNat default).cH).toNat) default).au) b.au t).1:=fun s=>by kernel_rfl
 rw [e,e]
 have h1:=sZ r b.au ((r.aN.getD (((r.bu.getD dQ.toNat default).cH).toNat) default).au) fr hR
 have h2:=sZ r ((r.aN.getD (((r.bu.getD dQ.toNat default).cH).toNat) default).au) b.au t hR
 generalize l6 r b.au ((r.aN.getD (((r.bu.getD dQ.toNat default).cH).toNat) default).au) fr=x at h1 ⊢
 generalize l6 r ((r.aN.getD (((r.bu.getD dQ.toNat default).cH).toNat) default).au) b.au t=y at h2 ⊢
 cases ((r.aN.getD (((r.bu.getD dQ.toNat default).cH).toNat) default).au) == b.au with
 | true=>rw [cond_true,cond_true]; exact Int.le_refl _
 | false =>
  rw [cond_false,cond_false]
  cases hx:x.2 with
  | false=>rw [Bool.not_false,Bool.true_or,cond_true,cond_true]; exact Int.le_refl _
  | true =>
   cases hy:y.2 with
   | false=>rw [Bool.not_false,Bool.or_true,cond_true,cond_true]; exact Int.le_refl _
   | true=>rw [Bool.not_true,Bool.or_self,cond_false,cond_false]; exact ac5 hs (h1 hx) (h2 hy)
def zN (a:bD) (s:Int):Int:=bif (a.kind == 4)||(a.kind == 5) then cq 1099511627776 (ar (s+a.sum)) else s
def KN (l:List bD):Int:=l.foldl (fun s a=>zN a s) 0
theorem ZP (l:List bD) (h:∀ a,a∈l→ma a.sum):∀ s,ma s→ma (l.foldl (fun s a=>zN a s) s):=by
 induction l with
 | nil=>exact fun s hs=>hs
 | cons a r ih =>
  intro s hs
  refine ih (fun x hx=>h x (by simp [hx])) _ ?_
  have ha:=h a (by simp)
  show ma (zN a s)
  clear ih
  unfold zN
  unfold ma at *
  cases (a.kind == 4)||(a.kind == 5) with
  | false=>rw [cond_false]; exact hs
  | true=>rw [cond_true,aA (by omega) (by omega)]; unfold cq; split <;> omega
def uI (r:ah) (fo:Int) (f:ak) (s d m:Int):Int:=bif f.aU.mD == 0 then cq 1000 (bX 0 (sR (nm r fo 16 ⟨f,s,s,-1,m,d⟩))) else f.aU.mD
def Vu (r:ah) (fo:Int) (f:ak) (s d m:Int) (dQ x:Int):Int:=bif fS (nm r fo 17 ⟨f,s,s,-1,m,d⟩) == 1 then kb r f.aU dQ x m (cq d 100000) else 0
theorem Qz (r:ah) (fo:Int) (f:ak) (s d:Int):(iq r fo f s d).rest=bif ((!(ee r fo f s d).2)||(decide (s < 0)))||(decide (s≥(((ai f d).af.length:Nat):Int))) then 0 else
  cq 1099511627776 (ar ((ar ((ar ((ee r fo f s d).1.sum+(bif (bJ r fo f d != (-1))&&(decide (bJ r fo f d≤(cq d 100000))) then fx (ee r fo f s d).1.sum (uI r fo f s d (bJ r fo f d)) (bJ r fo f d) (cq d 100000) else 0)))+KN (ai f d).aw))+(bif (bJ r fo f d != (-1))&&(decide (bJ r fo f d≤(cq d 100000))) then Vu r fo f s d (bJ r fo f d) ((ai f d).af.getD s.toNat default).dQ (ee r fo f s d).1.sum else 0))):=by
 unfold iq jG
 dsimp +instances only [Sk.dK,Sk.gd,Sk.iP,Sk.fB,Sk.jt,Sk.l7,Sk.dn,il.A1,kk,kp,bH.IE,bH.rD,aV,tx,bW,eX,oS,ny,eZ,nz]
 cases ((!(ee r fo f s d).2)||(decide (s < 0)))||(decide (s≥(((ai f d).af.length:Nat):Int))) with
 | true=>rfl
 | false =>
  rw [cond_false,cond_false]
  have key:∀ b4:DQ,b4.A8=0→∀ (dd:DQ ⊕ Int),(iY (iter (fun i15:Nat × Int=>bif decide ((i15.1:Int) < (((ai f d).aw.length:Nat):Int)) then bif ((((ai f d).aw.getD i15.1 default).kind) == 4)||((((ai f d).aw.getD i15.1 default).kind) == 5) then Sum.inr (i15.1+1,cq 1099511627776 (ar (i15.2+(((ai f d).aw.getD i15.1 default).sum)))) else Sum.inr (i15.1+1,i15.2) else Sum.inl (Sum.inr i15.2)) dd ((ai f d).aw.length - 0+1) (0,b4.A8)) fun SP=>({ b4 with A8:=SP,rest:=cq 1099511627776 (ar ((ar ((ar (b4.sum+b4.mI))+SP))+b4.exchange)) }:DQ)).rest=cq 1099511627776 (ar ((ar ((ar (b4.sum+b4.mI))+KN (ai f d).aw))+b4.exchange)):=by
   intro b4 h0 dd
   rw [h0]
   refine (congrArg DQ.rest (dT (ai f d).aw (fun s i=>(i,s)) (fun a s=>.inr (zN a s)) (fun s=>s) _ (fun s i hi=>?_) (fun s=>?_) (by omega) 0)).trans ?_
   ·dsimp only
    rw [decide_eq_true (by omega),cond_true]
    unfold zN
    cases ((((ai f d).aw.getD i default).kind) == 4)||((((ai f d).aw.getD i default).kind) == 5) <;> rfl
   ·dsimp only
    rw [decide_eq_false (by omega),cond_false]
   ·rw [j5]; rfl
  unfold uI Vu
  cases (bJ r fo f d != (-1))&&(decide (bJ r fo f d≤(cq d 100000))) with
  | false=>exact key _ rfl _
  | true =>
   cases f.aU.mD == 0 <;> cases fS (nm r fo 17 ⟨f,s,s,-1,bJ r fo f d,d⟩) == 1 <;> exact key _ rfl _
theorem ZQ {a b:mb} (h:SLe a b):cq 1000 (bX 0 (sR a))≤cq 1000 (bX 0 (sR b)):=by
 rcases h with h | h
 ·rw [h]; exact Int.le_refl _
 ·have e:sR a=bif (a.err != 0)||(!a.cell.known) then (-1) else a.cell.n:=by kernel_rfl
  rw [e,h.1,h.2]
  show (0:Int)≤_
  unfold cq bX; split <;> split <;> omega
def abR (c:Bool) (e:cX):cX × Bool:=bif c then (({ sign:=0,kind:=0,gD:=0,binds:=0,text:=0,sum:=0,fM:=false }:cX),false) else (e,true)
theorem ac6 (c:Bool) {x y:cX} (h:x.sum≤y.sum):(abR c y).2=(abR c x).2∧(abR c x).1.sum≤(abR c y).1.sum:=by
 cases c with
 | true=>exact ⟨rfl,Int.le_refl _⟩
 | false=>exact ⟨rfl,h⟩
theorem ZR {r:ah} {fo:Int} {f:ak} {F:List Fact} (s d:Int) (h:sq f F):(ee r fo { f with facts:=F } s d).2=(ee r fo f s d).2∧(ee r fo f s d).1.sum≤(ee r fo { f with facts:=F } s d).1.sum:=by
 have e:∀ f,ee r fo f s d=abR ((decide (s < 0))||(decide (s≥(((jl r fo f d).f.af.length:Nat):Int)))) (cw (jl r fo f d) s):=fun f=>by kernel_rfl
 rw [e f,e { f with facts:=F },Yr r fo f F d]
 have hm:=NK (r:=r) (fo:=fo) (d:=d) h
 generalize jl r fo f d=v at hm ⊢
 have el:(bF v (uT f F d)).f.af.length=v.f.af.length:=rfl
 rw [el]
 exact ac6 _ (Xp hm s)
def QA (z:Bool) (rt n:Int):Int:=bif z then cq 1000 (bX 0 n) else rt
theorem abS (z:Bool) (rt:Int) {a b:Int} (h:cq 1000 (bX 0 a)≤cq 1000 (bX 0 b)):QA z rt b=QA z rt a∨(0≤QA z rt a∧QA z rt a≤QA z rt b∧QA z rt b≤1000):=by
 cases z with
 | false=>exact .inl rfl
 | true =>
  refine .inr ⟨?_,h,?_⟩
  ·show 0≤cq _ _; unfold cq bX; split <;> split <;> omega
  ·show cq _ _≤1000; unfold cq; split <;> omega
def exT (t e:Int):Int:=bif t == 1 then e else 0
theorem aeN {t t' e e':Int} (h:lh t t') (he:e≤e') (h0:0≤e) (h1:0≤e'∧e'≤1099511627776):exT t e≤exT t' e'∧0≤exT t e∧exT t' e'≤1099511627776:=by
 unfold exT
 cases k:t == 1 with
 | true =>
  have k:t=1:=by simpa using k
  rw [show (t' == 1)=true by rw [h (by omega),k]; rfl]
  exact ⟨he,h0,h1.2⟩
 | false =>
  rw [cond_false]
  cases t' == 1 with
  | true=>exact ⟨h1.1,by omega,h1.2⟩
  | false=>exact ⟨Int.le_refl 0,Int.le_refl 0,(by decide:(0:Int)≤1099511627776)⟩
theorem ac7 {r:ah} {fo:Int} {f:ak} {F:List Fact} (s d:Int) (h:sq f F) (hF:cb r f) (hF2:cb r { f with facts:=F }) (hR:r.dg):(iq r fo f s d).rest≤(iq r fo { f with facts:=F } s d).rest:=by
 obtain ⟨e1,e2⟩:=ZR (r:=r) (fo:=fo) s d h
 have p1:=sX r fo f s d ⟨hF.Rs,hF.small⟩
 have p2:=sX r fo { f with facts:=F } s d ⟨hF2.Rs,hF2.small⟩
 have hc:ma (KN (ai f d).aw):=ZP _ (vV.1 fun q hq=>(hF.RJ d).2.2.2 q hq) 0 ⟨by omega,by omega⟩
 rw [Qz,Qz,e1,iw r fo f F d,EZ f F d]
 generalize (ee r fo f s d).1.sum=x at e2 p1 ⊢
 generalize (ee r fo { f with facts:=F } s d).1.sum=x' at e2 p2 ⊢
 dsimp only at *
 cases ((!(ee r fo f s d).2)||(decide (s < 0)))||(decide (s≥(((ai f d).af.length:Nat):Int))) with
 | true=>rw [cond_true,cond_true]; exact Int.le_refl _
 | false =>
  rw [cond_false,cond_false]
  generalize KN (ai f d).aw=c at hc ⊢
  generalize bJ r fo f d=m
  unfold ma at hc
  cases (m != (-1))&&(decide (m≤(cq d 100000))) with
  | false =>
   simp only [cond_false]
   simp (disch:=omega) only [aA]
   unfold cq; split <;> split <;> omega
  | true =>
   simp only [cond_true]
   have hr:uI r fo { f with facts:=F } s d m=uI r fo f s d m∨(0≤uI r fo f s d m∧uI r fo f s d m≤uI r fo { f with facts:=F } s d m∧uI r fo { f with facts:=F } s d m≤1000) :=
    abS (f.aU.mD == 0) f.aU.mD (ZQ (wU r fo 16 s s (-1) m d h))
   have hi:=Vs m (cq d 100000) ⟨p1.1,e2,p2.2⟩ hr
   have hx:Vu r fo f s d m ((ai f d).af.getD s.toNat default).dQ x≤Vu r fo { f with facts:=F } s d m ((ai f d).af.getD s.toNat default).dQ x'∧0≤Vu r fo f s d m ((ai f d).af.getD s.toNat default).dQ x∧Vu r fo { f with facts:=F } s d m ((ai f d).af.getD s.toNat default).dQ x'≤1099511627776:=by
    have ht:=(wU r fo 17 s s (-1) m d h).tri
    have q1:=oa r f.aU ((ai f d).af.getD s.toNat default).dQ x m (cq d 100000) ⟨p1,hR⟩
    have q2:=oa r f.aU ((ai f d).af.getD s.toNat default).dQ x' m (cq d 100000) ⟨p2,hR⟩
    have q3:=Vt (r:=r) f.aU ((ai f d).af.getD s.toNat default).dQ m (cq d 100000) ⟨p1.1,e2,p2.2⟩ hR
    exact aeN ht q3 q1.1 q2
   have i1:=nY x (uI r fo f s d m) m (cq d 100000)
   have i2:=nY x' (uI r fo { f with facts:=F } s d m) m (cq d 100000)
   dsimp only at i1 i2
   generalize fx x (uI r fo f s d m) m (cq d 100000)=y at *
   generalize fx x' (uI r fo { f with facts:=F } s d m) m (cq d 100000)=y' at *
   generalize Vu r fo f s d m ((ai f d).af.getD s.toNat default).dQ x=z at *
   generalize Vu r fo { f with facts:=F } s d m ((ai f d).af.getD s.toNat default).dQ x'=z' at *
   simp (disch:=omega) only [aA]
   unfold cq; split <;> split <;> omega
theorem Vv (v:View) (h:v.kQ) (P:Int→Prop) (hP:∀ s,0≤s→s < (v.now.af.length:Int)→P s→((v.now.af.getD s.toNat default).kind=3∨(v.now.af.getD s.toNat default).kind=4)→P ((v.now.af.getD s.toNat default).for_)):∀ (fu:Nat) (sign:Int),0≤sign→sign < (v.now.af.length:Int)→sign.toNat < fu→P sign→P (bh fu v sign)∧¬ ((v.now.af.getD (bh fu v sign).toNat default).kind=3∨(v.now.af.getD (bh fu v sign).toNat default).kind=4)
 | 0,_,_,_,h3,_=>absurd h3 (by omega)
 | fu+1,s,h1,h2,h3,h4=>by
  have e:bh (fu+1) v s=bif (((v.now.af.getD s.toNat default).kind) == 3)||(((v.now.af.getD s.toNat default).kind) == 4) then bh fu v ((v.now.af.getD s.toNat default).for_) else s:=by kernel_rfl
  rw [e]
  cases hk:(((v.now.af.getD s.toNat default).kind) == 3)||(((v.now.af.getD s.toNat default).kind) == 4) with
  | false =>
   refine ⟨h4,fun h=>?_⟩
   rw [cond_false] at h
   rw [Bool.or_eq_false_iff,beq_eq_false_iff_ne,beq_eq_false_iff_ne] at hk
   exact h.elim hk.1 hk.2
  | true =>
   rw [cond_true]
   have hk:(v.now.af.getD s.toNat default).kind=3∨(v.now.af.getD s.toNat default).kind=4:=by simpa using hk
   have hb:=h s.toNat (by omega) hk
   exact Vv v h P hP fu _ hb.1 (by omega) (by omega) (hP s h1 h2 h4 hk)
theorem ac8 {v:View} (h:v.kQ) {part c9:Int} {links:List Int} {s:Int} (hs:s∈sb v part c9 links v.now.af.length):aC v s∈sb v part c9 links v.now.af.length∧¬ ((v.now.af.getD (aC v s).toNat default).kind=3∨(v.now.af.getD (aC v s).toNat default).kind=4):=by
 have hm:=tY hs
 refine Vv v h (·∈sb v part c9 links v.now.af.length) (fun s h0 h1 hs hk=>?_) (s.toNat+1) s hm.1 hm.2.1 (by omega) hs
 have hm:=tY hs
 have hl:=hm.2.2.2.1
 unfold R3 at hl
 have e0:((v.now.af.getD s.toNat default).kind == 0)=false:=by rw [beq_eq_false_iff_ne]; omega
 have e1:((v.now.af.getD s.toNat default).kind == 1)=false:=by rw [beq_eq_false_iff_ne]; omega
 have e2:((v.now.af.getD s.toNat default).kind == 2)=false:=by rw [beq_eq_false_iff_ne]; omega
 rw [e0,e1,e2,Bool.or_false,cond_false,cond_false] at hl
 exact hm.2.2.2.2 _ ((contains_iff _ _).1 hl)
theorem abT {links:List Int} {lo hi:Int} (h:lo∈links) (h2:lo≤hi):1≤Bi links lo hi:=by
 unfold Bi
 exact List.length_pos_of_mem (a:=lo) (List.mem_filter.2 ⟨h,by simp [h2]⟩)
theorem Vw (links:List Int) (lo hi:Int):Bi links lo hi≤H4 links hi:=by
 unfold Bi H4
 have e:(links.filter fun l=>decide (l≤hi)&&decide (l≥lo))=(links.filter fun l=>decide (l≤hi)).filter fun l=>decide (l≥lo):=by rw [List.filter_filter]; congr 1; funext l; rw [Bool.and_comm]
 rw [e]
 exact List.length_filter_le ..
theorem Ys {links:List Int} {x y hi:Int} (hx:x∈links) (h1:x≤hi) (h2:x < y):Bi links y hi < Bi links x hi:=by
 unfold Bi
 have e:(links.filter fun l=>decide (l≤hi)&&decide (l≥y))=(links.filter fun l=>decide (l≤hi)&&decide (l≥x)).filter fun l=>decide (l≥y):=by
  rw [List.filter_filter]; congr 1; funext l
  by_cases c1:l≤hi <;> by_cases c2:l≥y
  ·have:l≥x:=by omega
   simp [c1,c2,this]
  ·simp [c1,c2]
  ·simp [c1]
  ·simp [c1]
 rw [e,List.length_filter_lt_length_iff_exists]
 exact ⟨x,List.mem_filter.2 ⟨hx,by simp [h1]⟩,by simpa using h2⟩
theorem NL {r:ah} {forum:Int} {f:ak} {day:Int} {c:Claim} (hF:cb r f) (h:c∈cm r forum f day) :
  ∃ b,b=aC (aD f day) c.sign∧(0≤b∧b < ((ai f day).af.length:Int))∧(0≤c.sign∧c.sign < ((ai f day).af.length:Int)) ∧
   (((ai f day).af.getD b.toNat default).kind=1∧c.dF=0∨((ai f day).af.getD b.toNat default).kind=0∧b=0∧c.dF=1+(H4 (al (aD f day) c.part) c.c9:Int) ∨
    ((ai f day).af.getD b.toNat default).kind=2∧b≤c.c9∧b∈al (aD f day) c.part∧c.dF=(Bi (al (aD f day) c.part) b c.c9:Int)):=by
 obtain ⟨he,part,o,sign,k⟩:=xH h
 have hlen:=oO f day
 have hl:=EJ k.li
 have hm:=tY hl.2
 have hB:(aD f day).kQ:=by unfold View.kQ; rw [jH]; exact hF.RK day
 have hb:=ac8 hB hl.2
 have hbm:=tY hb.1
 rw [jH] at hm hb hbm
 have hll:(al (aD f day) part).length≤1000000:=by have:=H5 (f:=f) (day:=day) (part:=part); have:=hF.2.1.1; omega
 have lX:=k.st
 obtain rfl:=k.eq
 refine ⟨aC (aD f day) sign,rfl,⟨hbm.1,hbm.2.1⟩,⟨hm.1,hm.2.1⟩,?_⟩
 have hv:(aF r forum f day).1.view=aD f day:=by rw [he]
 have hk:=(hF.2.2.1 (aC (aD f day) sign).toNat (by omega)).2.2.2.2.2
 unfold Qb at hk
 rw [← zh f day (aC (aD f day) sign).toNat (by omega)] at hk
 have NU:=hbm.2.2.2.1
 have hnk:=hb.2
 dsimp only
 rw [Gv _ _ _ _ _ hll,hv,jH] at lX ⊢
 generalize aC (aD f day) sign=b at *
 generalize hs:(ai f day).af.getD b.toNat default=s at *
 by_cases h1:s.kind=1
 ·refine .inl ⟨h1,?_⟩
  rw [show (s.kind == 1)=true by simpa using h1,cond_true]
  cases oe (aF r forum f day).1 <;> rfl
 ·rw [show (s.kind == 1)=false by simpa using h1,cond_false] at lX ⊢
  cases hc:((!(oe (aF r forum f day).1))&&(!(cR (ai f day).aw)))||(!(((aW r forum f day).getD b.toNat default).fM)) with
  | true=>rw [hc,cond_true] at lX; exact absurd rfl lX
  | false =>
   rw [cond_false]
   by_cases h2:s.kind=2
   ·unfold R3 at NU
    rw [jH,hs,show (s.kind == 0)=false by rw [h2]; rfl,show (s.kind == 1)=false by rw [h2]; rfl,show (s.kind == 2)=true by rw [h2]; rfl,Bool.or_false,cond_false,cond_true,Bool.and_eq_true,Bool.and_eq_true,decide_eq_true_eq] at NU
    have e:((b.toNat:Nat):Int)=b:=by omega
    rw [e] at NU
    have VF:=(contains_iff _ _).1 NU.2
    refine .inr (.inr ⟨h2,NU.1.1,VF,?_⟩)
    rw [NU.2]; rfl
   ·have h0:s.kind=0:=by omega
    have hb0:b=0:=by have:=hk.2.2.1.1 h0; omega
    refine .inr (.inl ⟨h0,hb0,?_⟩)
    have hn:bZ (al (aD f day) part) b=false:=by
     cases hcb:bZ (al (aD f day) part) b with
     | false=>rfl
     | true =>
      have hm2:=HW ((contains_iff _ _).1 hcb)
      rw [ua] at hm2
      rw [zh f day b.toNat (by omega)] at hs
      rw [hs] at hm2
      omega
    rw [hn]; rfl
theorem Vx {r:ah} {forum:Int} {f:ak} {day:Int} (hF:cb r f) {c:Claim} (h:c∈cm r forum f day):∃ b,b=aC (aD f day) c.sign∧(0≤b∧b < ((ai f day).af.length:Int))∧(0≤c.sign∧c.sign < ((ai f day).af.length:Int))∧(c.dF=0↔((ai f day).af.getD b.toNat default).kind=1)∧0≤c.dF ∧
  ∀ d,d∈cm r forum f day→c.part=d.part→c.c9=d.c9→c.dF≠0→d.dF≠0→∀ y,y=aC (aD f day) d.sign→(b=y→c.dF=d.dF)∧(b < y→d.dF < c.dF)∧(y < b→c.dF < d.dF):=by
 obtain ⟨b,e,h1,h2,h3⟩:=NL hF h
 refine ⟨b,e,h1,h2,?_,?_,fun d hd e1 e2 t1 t2 y ey=>?_⟩
 ·rcases h3 with h3 | h3 | h3
  ·exact ⟨fun _=>h3.1,fun _=>h3.2⟩
  ·rw [h3.1,h3.2.2]; exact ⟨fun h=>absurd h (by omega),fun h=>absurd h (by decide)⟩
  ·rw [h3.1]
   have:=abT h3.2.2.1 h3.2.1
   exact ⟨fun h=>absurd h (by omega),fun h=>absurd h (by decide)⟩
 ·omega
 ·obtain ⟨b',e',h1',h2',Xr⟩:=NL hF hd
  have hby:b'=y:=by rw [e',ey]
  subst hby
  rw [← e1,← e2] at Xr
  rcases h3 with h3 | h3 | h3
  ·exact absurd h3.2 t1
  ·rcases Xr with Xr | Xr | Xr
   ·exact absurd Xr.2 t2
   ·exact ⟨fun _=>by omega,fun h=>by omega,fun h=>by omega⟩
   ·have:=Vw (al (aD f day) c.part) b' c.c9
    refine ⟨fun h=>?_,fun _=>by omega,fun h=>by omega⟩
    subst h
    rw [h3.1] at Xr
    omega
  ·rcases Xr with Xr | Xr | Xr
   ·exact absurd Xr.2 t2
   ·have:=Vw (al (aD f day) c.part) b c.c9
    refine ⟨fun h=>?_,fun h=>by omega,fun _=>by omega⟩
    subst h
    rw [h3.1] at Xr
    omega
   ·refine ⟨fun h=>by subst h; omega,fun h=>?_,fun h=>?_⟩
    ·have:=Ys (hi:=c.c9) h3.2.2.1 h3.2.1 h; omega
    ·have:=Ys (hi:=c.c9) Xr.2.2.1 Xr.2.1 h; omega
theorem NM {k s:Int}:∀ (l:List Fact) (i:Nat),i < l.length→((l.getD i default).kind=k∧(l.getD i default).at_=s)→(∀ q,q < i→¬ ((l.getD q default).kind=k∧(l.getD q default).at_=s))→walk (fb k s) (fun _=>(⟨false,0⟩:aJ)) l ()=u9 ((l.getD i default).n != 0)
 | [],i,h,_,_=>absurd h (by simp)
 | x :: l,0,_,h2,_=>by
  have h2:x.kind=k∧x.at_=s:=h2
  simp only [walk]
  unfold fb
  rw [h2.1,h2.2,beq_self_eq_true,beq_self_eq_true]; rfl
 | x :: l,i+1,h,h2,h3=>by
  have h0:¬ (x.kind=k∧x.at_=s):=h3 0 (by omega)
  have:fb k s x ()=.inr ():=by
   unfold fb
   have:((x.kind == k)&&(x.at_ == s))=false:=by
    cases e:((x.kind == k)&&(x.at_ == s)) with
    | false=>rfl
    | true=>rw [Bool.and_eq_true,beq_iff_eq,beq_iff_eq] at e; exact absurd e h0
   rw [this]; rfl
  simp only [walk,this]
  exact NM l i (by simpa using h) h2 fun q hq=>h3 (q+1) (by omega)
theorem Yt (v:View) (k s:Int):kT v k s=(fun c:aJ=>bif !c.known then 2 else bif c.n == 0 then 0 else 1) (bB v.now k s):=by
 have e:kT v k s=(fun x1:Int=>bif decide (x1 < 0) then 2 else bif ((v.now.facts.getD x1.toNat default).n) == 0 then 0 else 1) (kE v.now.facts k s):=by kernel_rfl
 have hc:∀ x:Fact,dh x k s=true↔(x.kind=k∧x.at_=s):=fun x=>by rw [k9,Bool.and_eq_true,beq_iff_eq,beq_iff_eq]
 rw [e,xp]
 rcases wZ v.now.facts k s with ⟨h1,h2⟩ | ⟨h1,h2,h3,h4⟩
 ·rw [h1,rk _ _ (fun x hx u=>?_)]
  ·rfl
  ·obtain ⟨i,hi,rfl⟩:=List.getElem_of_mem hx
   have:=h2 i hi
   rw [k9,show v.now.facts.getD i default=v.now.facts[i] by simp [List.getD,hi]] at this
   unfold fb
   rw [this]; rfl
 ·generalize kE v.now.facts k s=x at *
  rw [NM v.now.facts x.toNat (by omega) ((hc _).1 h3) (fun q hq hh=>by have e4:=h4 q hq; rw [(hc _).2 hh] at e4; exact absurd e4 (by decide)),Vj]
  dsimp only
  rw [decide_eq_false (by omega),cond_false]
  generalize (v.now.facts.getD x.toNat default).n=m
  cases hm:m == 0 with
  | true=>rw [show (m != 0)=false by rw [bne,hm]; rfl]; rfl
  | false=>rw [show (m != 0)=true by rw [bne,hm]; rfl]; rfl
theorem SC {a a' b b':Int} (ha:lh a a') (hb:lh b b'):lh (fO a b) (fO a' b'):=by
 have e:∀ a b,fO a b=bif (a == 0)||(b == 0) then 0 else bif (a == 2)||(b == 2) then 2 else 1:=fun a b=>by kernel_rfl
 have i:∀ a b,fO a b=if a=0∨b=0 then 0 else if a=2∨b=2 then 2 else 1:=fun a b=>by
  rw [e]; simp only [Bool.cond_eq_ite,Bool.or_eq_true,beq_iff_eq]
 rw [i,i]
 intro k
 unfold lh at *
 by_cases z:a=0∨b=0
 ·have z':a'=0∨b'=0:=by
   rcases z with z | z
   ·exact .inl (by rw [ha (by omega)]; exact z)
   ·exact .inr (by rw [hb (by omega)]; exact z)
  rw [if_pos z,if_pos z']
 ·rw [if_neg z] at k ⊢
  by_cases t:a=2∨b=2
  ·rw [if_pos t] at k; exact absurd rfl k
  ·rw [ha (by omega),hb (by omega),if_neg z]
theorem ZS {a a' b b':Int} (ha:lh a a') (hb:lh b b'):lh (sV a b) (sV a' b'):=by
 have e:∀ a b,sV a b=bif (a == 1)||(b == 1) then 1 else bif (a == 2)||(b == 2) then 2 else 0:=fun a b=>by kernel_rfl
 have i:∀ a b,sV a b=if a=1∨b=1 then 1 else if a=2∨b=2 then 2 else 0:=fun a b=>by
  rw [e]; simp only [Bool.cond_eq_ite,Bool.or_eq_true,beq_iff_eq]
 rw [i,i]
 intro k
 unfold lh at *
 by_cases z:a=1∨b=1
 ·have z':a'=1∨b'=1:=by
   rcases z with z | z
   ·exact .inl (by rw [ha (by omega)]; exact z)
   ·exact .inr (by rw [hb (by omega)]; exact z)
  rw [if_pos z,if_pos z']
 ·rw [if_neg z] at k ⊢
  by_cases t:a=2∨b=2
  ·rw [if_pos t] at k; exact absurd rfl k
  ·rw [ha (by omega),hb (by omega),if_neg z]
def cF (c:fy) (F G:List Fact):fy:={ c with view:={ c.view with all:={ c.view.all with facts:=F },now:={ c.view.now with facts:=G } } }
theorem QB {c:fy} {F G:List Fact} (h:sq c.view.now G) (link last:Int):lh (bG c link last) (bG (cF c F G) link last):=by
 have e:∀ c,bG c link last=sV (fO (kT c.view 0 link) (kT c.view 2 link)) (fS (nm c.r c.forum 3 ⟨c.view.now,link,last,-1,c.due,c.view.day⟩)):=fun c=>by kernel_rfl
 have hs:∀ k,lh (kT c.view k link) (kT (cF c F G).view k link):=fun k=>by
  rw [Yt,Yt]
  have hk:=h k link
  show lh _ ((fun c:aJ=>bif !c.known then 2 else bif c.n == 0 then 0 else 1) (bB { c.view.now with facts:=G } k link))
  cases hc:(bB c.view.now k link).known with
  | true=>rw [hk hc]; exact lh.rfl' _
  | false=>exact .op (by dsimp only; rw [hc]; rfl)
 rw [e,e]
 exact ZS (SC (hs 0) (hs 2)) (wU c.r c.forum 3 link last (-1) c.due c.view.day h).tri
theorem I6 {c:fy} {F G:List Fact} (h:sq c.view.now G) (last:Int):∀ (links:List Int) (o z:lP),z∈eB c last links o→z.state=1→z∈eB (cF c F G) last links o
 | [],o,z,hz,_=>hz
 | l :: r,o,z,hz,h1=>by
  have hp:=QB (F:=F) h l last
  simp only [eB] at hz ⊢
  generalize bG c l last=p at hp hz
  generalize bG (cF c F G) l last=p' at hp ⊢
  by_cases p2:p=2
  ·subst p2
   have hz:=show z∈{ o with state:=2 } :: eB c last r { gD:=(c.view.now.af.getD l.toNat default).cM,sign:=l,state:=2 } from hz
   rcases List.mem_cons.1 hz with rfl | hz
   ·exact absurd h1 (show ¬ (2:Int)=1 by decide)
   ·rcases (xA c last r _ z hz).2 with k | k <;> (have k:z.state=2:=k; omega)
  ·have e:=hp p2
   subst e
   cases h0:p' == 0 with
   | true=>rw [h0,cond_true] at hz; exact hz
   | false =>
    rw [h0,cond_false,show (p' == 2)=false by simpa using p2,cond_false] at hz
    rw [cond_false,show (p' == 2)=false by simpa using p2,cond_false]
    exact I6 h last r _ z hz h1
theorem CR {c:fy} {F G:List Fact} (h:sq c.view.now G) (last:Int):∀ (links:List Int) (o o' z':lP),o'.gD=o.gD→o'.sign=o.sign→lh o.state o'.state→z'∈eB (cF c F G) last links o'→∃ z,z∈eB c last links o∧z'.gD=z.gD∧z'.sign=z.sign∧lh z.state z'.state
 | [],o,o',z',a,b,t,hz=>by
  have hz:z'∈[o']:=hz
  rw [List.mem_singleton] at hz
  subst hz
  exact ⟨o,by simp [eB],a,b,t⟩
 | l :: r,o,o',z',a,b,t,hz=>by
  have hp:=QB (F:=F) h l last
  simp only [eB] at hz ⊢
  generalize bG c l last=p at hp ⊢
  generalize bG (cF c F G) l last=p' at hp hz
  by_cases p2:p=2
  ·subst p2
   show ∃ z,z∈{ o with state:=2 } :: eB c last r { gD:=(c.view.now.af.getD l.toNat default).cM,sign:=l,state:=2 }∧_
   cases h0:p' == 0 with
   | true =>
    rw [h0,cond_true,List.mem_singleton] at hz
    subst hz
    exact ⟨_,List.mem_cons_self,a,b,.op rfl⟩
   | false =>
    rw [h0,cond_false] at hz
    have tail:∀ o2:lP,o2.gD=(c.view.now.af.getD l.toNat default).cM→o2.sign=l→z'∈eB (cF c F G) last r o2→∃ z,z∈{ o with state:=2 } :: eB c last r { gD:=(c.view.now.af.getD l.toNat default).cM,sign:=l,state:=2 }∧z'.gD=z.gD∧z'.sign=z.sign∧lh z.state z'.state:=fun o2 q1 q2 hz=>by
     obtain ⟨z,k1,k2⟩:=CR h last r { gD:=(c.view.now.af.getD l.toNat default).cM,sign:=l,state:=2 } o2 z' q1 q2 (.op rfl) hz
     exact ⟨z,List.mem_cons_of_mem _ k1,k2⟩
    cases h2:p' == 2 with
    | true =>
     rw [h2,cond_true] at hz
     rcases List.mem_cons.1 hz with rfl | hz
     ·exact ⟨_,List.mem_cons_self,a,b,.op rfl⟩
     ·exact tail _ rfl rfl hz
    | false=>rw [h2,cond_false] at hz; exact tail _ rfl rfl hz
  ·have e:=hp p2
   subst e
   cases h0:p' == 0 with
   | true =>
    rw [h0,cond_true,List.mem_singleton] at hz
    subst hz
    exact ⟨o,by simp,a,b,t⟩
   | false =>
    rw [h0,cond_false,show (p' == 2)=false by simpa using p2,cond_false] at hz
    rw [cond_false,show (p' == 2)=false by simpa using p2,cond_false]
    exact CR h last r { gD:=(c.view.now.af.getD l.toNat default).cM,sign:=l,state:=o.state } { gD:=(c.view.now.af.getD l.toNat default).cM,sign:=l,state:=o'.state } z' rfl rfl t hz
theorem aeO (v:View) (A G:ak) (hs:G.af=v.now.af) (s:Int):aC { v with all:=A,now:=G } s=aC v s:=by
 have key:∀ (fu:Nat) (s:Int),bh fu { v with all:=A,now:=G } s=bh fu v s:=by
  intro fu
  induction fu with
  | zero=>intro s; rfl
  | succ n ih =>
   intro s
   have bq:∀ (v:View) (fu:Nat) (s:Int),bh (fu+1) v s=bif (((v.now.af.getD s.toNat default).kind) == 3)||(((v.now.af.getD s.toNat default).kind) == 4) then bh fu v ((v.now.af.getD s.toNat default).for_) else s:=fun v fu s=>by kernel_rfl
   rw [bq,bq]; show (bif (((G.af.getD s.toNat default).kind) == 3)||(((G.af.getD s.toNat default).kind) == 4) then bh n { v with all:=A,now:=G } ((G.af.getD s.toNat default).for_) else s)=_; rw [hs,ih]
 exact key _ s
def stT (k1 A2 has SD:Bool) (a kp tn:Int):Int × Int:=bif k1 then (bif !A2 then (0,0) else (a,0)) else bif ((!A2)&&(!has))||(!SD) then (0,0) else (fO a kp,tn)
theorem aeP (k1 A2 has SD:Bool) {a a' kp kp':Int} (tn:Int) (ha:lh a a') (hk:lh kp kp'):lh (stT k1 A2 has SD a kp tn).1 (stT k1 A2 has SD a' kp' tn).1∧((stT k1 A2 has SD a kp tn).1≠0→(stT k1 A2 has SD a' kp' tn).1≠0→(stT k1 A2 has SD a' kp' tn).2=(stT k1 A2 has SD a kp tn).2):=by
 have hb:=SC ha hk
 unfold stT
 generalize fO a kp=x at hb ⊢
 generalize fO a' kp'=x' at hb ⊢
 cases k1 <;> cases A2 <;> cases has <;> cases SD <;> first | exact ⟨ha,fun _ _=>rfl⟩ | exact ⟨hb,fun _ _=>rfl⟩ | exact ⟨lh.rfl' _,fun _ _=>rfl⟩
theorem abU (c:fy) (o:lP) (sign:Int) (links:List Int) (eff:List cX) (hl:links.length≤1000000):aQ c o sign links eff =
  stT ((c.view.now.af.getD (aC c.view sign).toNat default).kind == 1) (oe c) (cR c.view.now.aw) ((eff.getD (aC c.view sign).toNat default).fM) (fO o.state (eff.getD sign.toNat default).binds)
   (jD c.r c.forum c.view.all (aC c.view sign) c.view.day).all (bif !(bZ links (aC c.view sign)) then (1+(H4 links o.sign:Int)) else (Bi links (aC c.view sign) o.sign:Int)):=Gv c o sign links eff hl
theorem Vy {c:fy} {F G:List Fact} {o o':lP} {sign:Int} {links:List Int} {eff eff':List cX} (hl:links.length≤1000000) (ha:sq c.view.all F) (ho:o'.sign=o.sign∧lh o.state o'.state)
  (hb:lh (eff.getD sign.toNat default).binds (eff'.getD sign.toNat default).binds) (hr:(eff'.getD (aC c.view sign).toNat default).fM=(eff.getD (aC c.view sign).toNat default).fM) :
  lh (aQ c o sign links eff).1 (aQ (cF c F G) o' sign links eff').1∧((aQ c o sign links eff).1≠0→(aQ (cF c F G) o' sign links eff').1≠0→(aQ (cF c F G) o' sign links eff').2=(aQ c o sign links eff).2):=by
 have agv:aC (cF c F G).view sign=aC c.view sign:=aeO c.view { c.view.all with facts:=F } { c.view.now with facts:=G } rfl sign
 have e1:=abU c o sign links eff hl
 have e2:=abU (cF c F G) o' sign links eff' hl
 rw [agv,hr,ho.1] at e2
 rw [e1,e2]
 exact aeP _ _ _ _ _ (SC ho.2 hb) (ac2 c.r c.forum (aC c.view sign) c.view.day ha)
theorem Vz {r:ah} {forum:Int} {f:ak} {day:Int} {c:Claim} {part:Int} {o:lP} {sign:Int} (ht:(aF r forum f day).2=true) (h:aeK r forum f day c part o sign):c∈cm r forum f day:=by
 rw [zE,ht,Bool.not_true,cond_false]
 unfold CA
 rw [show (aF r forum f day).1.view=aD f day by rw [EO ht]]
 refine List.mem_flatMap.2 ⟨part,h.lead,List.mem_flatMap.2 ⟨o,h.own,List.mem_flatMap.2 ⟨sign,h.li,?_⟩⟩⟩
 unfold qz
 rw [show (aF r forum f day).1.view=aD f day by rw [EO ht],jH]
 have hc:((aQ (aF r forum f day).1 o sign (al (aD f day) part) (aW r forum f day)).1 == 0||((ai f day).af.getD sign.toNat default).dQ == o.gD)=false:=by
  simp only [Bool.or_eq_false_iff,beq_eq_false_iff_ne,ne_eq]
  exact ⟨h.st,h.ne⟩
 rw [hc,cond_false,List.mem_singleton]
 exact h.eq
theorem abV {r:ah} {forum:Int} {f:ak} {day:Int} {c:Claim} (h:c∈cm r forum f day):(aF r forum f day).2=true:=by
 rw [zE] at h
 cases ht:(aF r forum f day).2 with
 | true=>rfl
 | false=>rw [ht] at h; cases h
theorem abW (r:ah) (forum:Int) (f:ak) (F:List Fact) (day:Int):(aF r forum { f with facts:=F } day).2=(aF r forum f day).2:=by
 have e:∀ f,(aF r forum f day).2 = !((decide (forum < 0))||(decide (forum≥((r.aE.length:Nat):Int)))):=fun f=>by
  unfold aF sS
  dsimp +instances only [Sk.fB,Sk.jt,Sk.dn,il.A1,kk,kp,bH.IE]
  cases (decide (forum < 0))||(decide (forum≥((r.aE.length:Nat):Int))) <;> rfl
 rw [e,e]
theorem SE (f:ak) (F:List Fact) (day:Int):aD { f with facts:=F } day = { aD f day with all:={ f with facts:=F },now:={ ai f day with facts:=uT f F day } }:=by
 rw [Dg,Dg,EZ]; rfl
theorem Ds {r:ah} {forum:Int} {f:ak} (F:List Fact) {day:Int} (ht:(aF r forum f day).2=true):(aF r forum { f with facts:=F } day).1=cF (aF r forum f day).1 F (uT f F day):=by
 rw [EO ht,EO (by rw [abW]; exact ht),iw r forum f F day,SE f F day]
 have a:=ua f day
 have b:=jH f day
 unfold cF
 dsimp only
 rw [a,b]
theorem xN (f:ak) (F:List Fact) (day part:Int):al (aD { f with facts:=F } day) part=al (aD f day) part:=by
 have e:∀ v,al v part=(l5 v.all part v.day).af:=fun v=>rfl
 rw [e,e,ua,ua,Ni,Ni]
 exact congrArg MO.af (show l5 { f with facts:=F } part day=l5 f part day by kernel_rfl)
theorem VA (f:ak) (F:List Fact) (day part c9:Int) (links:List Int):bA (aD { f with facts:=F } day) part c9 links=bA (aD f day) part c9 links:=by
 rw [SE]
 have b:=jH f day
 generalize aD f day=v at b ⊢
 rw [← b]
 rw [Df,Df]
 have key:∀ n,sb { v with all:={ f with facts:=F },now:={ v.now with facts:=uT f F day } } part c9 links n=sb v part c9 links n:=by
  intro n
  induction n with
  | zero=>rfl
  | succ n ih =>
   simp only [sb]
   rw [ih]
   have hp:fY { v with all:={ f with facts:=F },now:={ v.now with facts:=uT f F day } } ((n:Nat):Int)=fY v ((n:Nat):Int):=by kernel_rfl
   unfold yn
   rw [hp]
   rfl
 rw [key]
theorem ZT {r:ah} {forum:Int} {f:ak} {F:List Fact} {day:Int} (h:sq f F) (hF:cb r f) (hF2:cb r { f with facts:=F }) (hR:r.dg) :
  (∀ c,c∈cm r forum f day→c.state=1→∃ c',c'∈cm r forum { f with facts:=F } day∧Cy c' c∧c'.state=1∧c.sum≤c'.sum)∧∀ c',c'∈cm r forum { f with facts:=F } day→∃ c,c∈cm r forum f day∧Cy c' c:=by
 have Nb:=h.at day
 have xP:∀ part,(al (aD f day) part).length≤1000000:=fun part=>by have:=H5 (f:=f) (day:=day) (part:=part); have:=hF.2.1.1; omega
 have eb:∀ i:Int,0≤i→i < ((ai f day).af.length:Int)→lh ((aW r forum f day).getD i.toNat default).binds ((aW r forum { f with facts:=F } day).getD i.toNat default).binds∧((aW r forum { f with facts:=F } day).getD i.toNat default).fM=((aW r forum f day).getD i.toNat default).fM:=by
  intro i h0 h1
  rw [I5 r forum f day (by omega),I5 r forum { f with facts:=F } day (by rw [EZ]; show i.toNat < (ai f day).af.length; omega),Yr r forum f F day]
  exact ⟨SB (NK h) _,Xq _ _ _⟩
 have bs:∀ {c part o sign},aeK r forum f day c part o sign∨sign∈bA (aD f day) part o.sign (al (aD f day) part)→0≤sign∧sign < ((ai f day).af.length:Int)∧0≤aC (aD f day) sign∧aC (aD f day) sign < ((ai f day).af.length:Int):=by
  intro c part o sign hf
  have NU:sign∈bA (aD f day) part o.sign (al (aD f day) part):=hf.elim (fun q=>q.li) (fun q=>q)
  have hm:=tY (EJ NU).2
  rw [jH] at hm
  have hB:(aD f day).kQ:=by unfold View.kQ; rw [jH]; exact hF.RK day
  have:=pD (aD f day) hB (sign.toNat+1) sign hm.1 (by rw [jH]; exact hm.2.1) (by omega)
  have e:aC (aD f day) sign=bh (sign.toNat+1) (aD f day) sign:=by kernel_rfl
  rw [e]
  have h2:=hm.2.1
  exact ⟨hm.1,h2,this.1,by omega⟩
 refine ⟨fun c hc h1=>?_,fun c' VJ=>?_⟩
 ·have ht:=abV hc
  obtain ⟨he,part,o,sign,k⟩:=xH hc
  have hb:=bs (.inl k)
  have e1:=congrArg Claim.state k.eq
  rw [h1] at e1
  have e1:(aQ (aF r forum f day).1 o sign (al (aD f day) part) (aW r forum f day)).1=1:=e1.symm
  have hv:(aF r forum f day).1.view=aD f day:=by rw [he]
  have ho1:o.state=1:=by
   rcases (MV k.own).2 with q | q
   ·exact q
   ·exfalso
    rw [Gv _ _ _ _ _ (xP part)] at e1
    have e:∀ a b,fO a b=bif (a == 0)||(b == 0) then 0 else bif (a == 2)||(b == 2) then 2 else 1:=fun a b=>by kernel_rfl
    have nb:∀ b,fO 2 b≠1:=fun b=>by
     rw [e]; cases b == 0 with
     | true=>exact (by decide:(0:Int)≠1)
     | false=>exact (by decide:(2:Int)≠1)
    have nb2:∀ a b,fO a b=1→a=1∨(a≠0∧a≠2):=fun a b hab=>by
     rw [e] at hab
     by_cases a0:a=0
     ·subst a0; exact absurd hab (by show (0:Int)≠1; decide)
     ·by_cases a2:a=2
      ·subst a2; rw [← e] at hab; exact absurd hab (nb b)
      ·exact .inr ⟨a0,a2⟩
    rw [q] at e1
    generalize aC (aF r forum f day).1.view sign=b at e1
    cases hk:((aF r forum f day).1.view.now.af.getD b.toNat default).kind == 1 with
    | true =>
     rw [hk,cond_true] at e1
     cases hp:oe (aF r forum f day).1 with
     | false=>rw [hp] at e1; exact absurd e1 (by show (0:Int)≠1; decide)
     | true=>rw [hp] at e1; exact nb _ e1
    | false =>
     rw [hk,cond_false] at e1
     cases hp:((!(oe (aF r forum f day).1))&&(!(cR (aF r forum f day).1.view.now.aw)))||(!(((aW r forum f day).getD b.toNat default).fM)) with
     | true=>rw [hp] at e1; exact absurd e1 (by show (0:Int)≠1; decide)
     | false =>
      rw [hp,cond_false] at e1
      have r2:=Nh 2 ((aW r forum f day).getD sign.toNat default).binds
      rcases nb2 _ _ e1 with w | ⟨w1,w2⟩
      ·exact nb _ w
      ·rcases r2 with r2 | r2 | r2
       ·exact w1 r2
       ·exact nb _ r2
       ·exact w2 r2
  have lX:=Vy (c:=(aF r forum f day).1) (F:=F) (G:=uT f F day) (o:=o) (o':=o) (links:=al (aD f day) part) (eff:=aW r forum f day) (eff':=aW r forum { f with facts:=F } day) (sign:=sign) (xP part) (by rw [hv,ua]; exact h) ⟨rfl,lh.rfl' _⟩ (eb sign hb.1 hb.2.1).1 (by rw [hv]; exact (eb _ hb.2.2.1 hb.2.2.2).2)
  have s1:=lX.1 (by rw [e1]; decide)
  rw [e1] at s1
  have agw:=lX.2 (by rw [e1]; decide) (by rw [s1]; decide)
  have GS:o∈bK (aF r forum { f with facts:=F } day).1 (al (aD { f with facts:=F } day) part):=by
   rw [Ds F ht,xN]
   exact I6 (by rw [hv,jH]; exact Nb) _ _ _ _ k.own ho1
  refine ⟨{ c with dF:=(aQ (cF (aF r forum f day).1 F (uT f F day)) o sign (al (aD f day) part) (aW r forum { f with facts:=F } day)).2,sum:=(iq r forum { f with facts:=F } sign day).rest,state:=1 },Vz (part:=part) (o:=o) (sign:=sign) (by rw [abW]; exact ht) ⟨?_,GS,?_,?_,?_,?_⟩,⟨⟨rfl,rfl,rfl,rfl,rfl⟩,?_,rfl⟩,rfl,?_⟩
  ·rw [SE]; exact k.lead
  ·rw [VA,xN]; exact k.li
  ·rw [Ds F ht,xN,s1]; decide
  ·rw [EZ]; exact k.ne
  ·rw [k.eq,Ds F ht,xN f F day part,EZ f F day,s1]
  ·rw [k.eq]; exact agw
  ·rw [k.eq]; exact ac7 sign day h hF hF2 hR
 ·have ht':=abV VJ
  have ht:(aF r forum f day).2=true:=by rw [← abW r forum f F day]; exact ht'
  obtain ⟨-,part,o',sign,k⟩:=xH VJ
  have he:=EO ht
  have hv:(aF r forum f day).1.view=aD f day:=by rw [he]
  have GS:=k.own
  rw [Ds F ht,xN] at GS
  obtain ⟨o,ko,k1,k2,k3⟩:=CR (c:=(aF r forum f day).1) (by rw [hv,jH]; exact Nb) _ _ _ _ o' rfl rfl (lh.rfl' _) GS
  have NU:=k.li
  rw [VA,xN,k2] at NU
  have hb:=bs (c:=c') (.inr NU)
  have lX:=Vy (c:=(aF r forum f day).1) (F:=F) (G:=uT f F day) (o:=o) (o':=o') (links:=al (aD f day) part) (eff:=aW r forum f day) (eff':=aW r forum { f with facts:=F } day) (sign:=sign) (xP part) (by rw [hv,ua]; exact h) ⟨k2,k3⟩ (eb sign hb.1 hb.2.1).1 (by rw [hv]; exact (eb _ hb.2.2.1 hb.2.2.2).2)
  have s1:=k.st
  rw [Ds F ht,xN] at s1
  have s0:(aQ (aF r forum f day).1 o sign (al (aD f day) part) (aW r forum f day)).1≠0:=fun e=>s1 (by rw [lX.1 (by rw [e]; decide),e])
  have vG:=k.ne
  rw [EZ,k1] at vG
  refine ⟨_,Vz (part:=part) (o:=o) (sign:=sign) ht ⟨?_,ko,NU,s0,vG,rfl⟩,?_⟩
  ·have:=k.lead; rw [SE] at this; exact this
  ·rw [k.eq,Ds F ht,xN,EZ]
   exact ⟨⟨rfl,k1,rfl,rfl,k2⟩,lX.2 s0 s1,rfl⟩
def keyOf (c:Claim):Int × Int × Int × Int × Int:=(c.bL,c.aH,c.part,c.sign,c.c9)
theorem jW {x y:Claim}:gy x y↔keyOf x=keyOf y:=by
 unfold gy keyOf
 simp only [Prod.mk.injEq]
def lk (L:List Claim) (k:Int × Int × Int × Int × Int):Option Claim:=L.find? fun x=>decide (keyOf x=k)
theorem aeQ (k:Int × Int × Int × Int × Int):lk [] k=none:=rfl
theorem vq (x:Claim) (r:List Claim) (k:Int × Int × Int × Int × Int):lk (x :: r) k=if keyOf x=k then some x else lk r k:=by
 unfold lk
 rw [List.find?_cons]
 by_cases h:keyOf x=k <;> simp [h]
theorem qN {L:List Claim} {k:Int × Int × Int × Int × Int} {x:Claim} (h:lk L k=some x):x∈L∧keyOf x=k:=by
 unfold lk at h
 exact ⟨List.mem_of_find?_eq_some h,by have:=List.find?_some h; simpa using this⟩
theorem I7 {L:List Claim} (h:L.Pairwise fun x y=>¬ gy x y) {x:Claim} (hx:x∈L):lk L (keyOf x)=some x:=by
 induction L with
 | nil=>cases hx
 | cons y r ih =>
  rw [List.pairwise_cons] at h
  rw [vq]
  rcases List.mem_cons.1 hx with rfl | hx
  ·rw [if_pos rfl]
  ·rw [if_neg (fun e=>h.1 x hx (jW.2 e)),ih h.2 hx]
def m9 (f:Claim→Claim) (c:Claim):List Claim→List Claim
 | []=>[c]
 | x :: r=>if keyOf x=keyOf c then f x :: r else x :: m9 f c r
theorem VB {f:Claim→Claim} {c:Claim}:∀ (l:List Claim),(∀ i,i < l.length→¬ gy (l.getD i default) c)→m9 f c l=l++[c]
 | [],_=>rfl
 | x :: r,h=>by
  have h0:¬ keyOf x=keyOf c:=fun e=>h 0 (by simp) (jW.2 e)
  simp only [m9,if_neg h0,List.cons_append]
  rw [VB r fun i hi=>h (i+1) (by simpa using hi)]
theorem QC {f:Claim→Claim} {c:Claim}:∀ (l:List Claim) (i:Nat),l.Pairwise (fun x y=>¬ gy x y)→i < l.length→gy (l.getD i default) c→m9 f c l=l.set i (f (l.getD i default))
 | [],i,_,h,_=>absurd h (by simp)
 | x :: r,0,_,_,hk=>by
  have hk:keyOf x=keyOf c:=jW.1 hk
  simp only [m9,if_pos hk]; rfl
 | x :: r,i+1,hp,h,hk=>by
  rw [List.pairwise_cons] at hp
  have hi:i < r.length:=by simpa using h
  have hk:gy (r.getD i default) c:=hk
  have h0:¬ keyOf x=keyOf c:=fun e=>hp.1 _ (od hi) ((jW.2 e).tr hk.comm)
  simp only [m9,if_neg h0]
  rw [QC r i hp.2 hi hk]; rfl
theorem uG.eq {f:Claim→Claim} {l x:List Claim} {c:Claim} (h:uG f l c x) (hp:l.Pairwise fun x y=>¬ gy x y):x=m9 f c l:=by
 rcases h with ⟨i,hi,hk,rfl⟩ | ⟨hn,rfl⟩
 ·exact (QC l i hp hi hk).symm
 ·exact (VB l hn).symm
theorem NN {f:Claim→Claim} {c:Claim} (hf:∀ x,keyOf (f x)=keyOf x) (k:Int × Int × Int × Int × Int):∀ l,lk (m9 f c l) k=if keyOf c=k then some ((lk l k).elim c f) else lk l k
 | []=>by
  show lk [c] k=_
  rw [vq,aeQ]; rfl
 | x :: r=>by
  by_cases hx:keyOf x=keyOf c
  ·simp only [m9,if_pos hx]
   rw [vq,vq,hf,hx]
   by_cases hk:keyOf c=k
   ·rw [if_pos hk,if_pos hk,if_pos hk]; rfl
   ·rw [if_neg hk,if_neg hk,if_neg hk]
  ·simp only [m9,if_neg hx]
   rw [vq,vq,NN hf k r]
   by_cases hk:keyOf c=k
   ·have:¬ keyOf x=k:=fun e=>hx (e.trans hk.symm)
    rw [if_neg this,if_neg this]
   ·rw [if_neg hk,if_neg hk]
theorem QD {f:Claim→Claim} {c z:Claim}:∀ {l:List Claim},z∈m9 f c l→z=c∨z∈l∨∃ x,x∈l∧keyOf x=keyOf c∧z=f x
 | [],h=>.inl (List.mem_singleton.1 h)
 | x :: r,h=>by
  by_cases hx:keyOf x=keyOf c
  ·simp only [m9,if_pos hx] at h
   rcases List.mem_cons.1 h with rfl | h
   ·exact .inr (.inr ⟨x,by simp,hx,rfl⟩)
   ·exact .inr (.inl (by simp [h]))
  ·simp only [m9,if_neg hx] at h
   rcases List.mem_cons.1 h with rfl | h
   ·exact .inr (.inl (by simp))
   ·rcases QD h with h | h | ⟨y,h1,h2⟩
    ·exact .inl h
    ·exact .inr (.inl (by simp [h]))
    ·exact .inr (.inr ⟨y,by simp [h1],h2⟩)
theorem E0 {f:Claim→Claim} {c:Claim} (hf:∀ x,keyOf (f x)=keyOf x):∀ {l:List Claim},l.Pairwise (fun x y=>¬ gy x y)→(m9 f c l).Pairwise fun x y=>¬ gy x y
 | [],_=>List.pairwise_singleton _ _
 | x :: r,h=>by
  have h':=h
  rw [List.pairwise_cons] at h
  by_cases hx:keyOf x=keyOf c
  ·simp only [m9,if_pos hx]
   rw [List.pairwise_cons]
   exact ⟨fun y hy e=>h.1 y hy (jW.2 ((hf x).symm.trans (jW.1 e))),h.2⟩
  ·simp only [m9,if_neg hx]
   rw [List.pairwise_cons]
   refine ⟨fun y hy e=>?_,E0 hf h.2⟩
   rcases QD hy with rfl | hy | ⟨z,h1,h2,rfl⟩
   ·exact hx (jW.1 e)
   ·exact h.1 y hy e
   ·exact h.1 z h1 (jW.2 ((jW.1 e).trans (hf z)))
theorem abX (c x:Claim):keyOf (fG c x)=keyOf x:=rfl
theorem abY (c x:Claim):keyOf (fJ c x)=keyOf x:=rfl
def oq (a:bD) (x:Claim):Claim:={ x with aH:=a.dQ,c9:=a.at_,sum:=j3 a x }
def QE (a:bD) (kind:Int) (st:Bool) (x:Claim):Bool:=eE a st x&&(((kind != 1)&&((x.dF == 0)||(decide (x.sign < a.at_))))&&(x.bL != a.dQ))
def gE (a:bD) (kind:Int) (st:Bool) (pa:List Claim) (x:Claim):List Claim:=bif QE a kind st x then re pa (oq a x) else pa
def stepOf (a:bD) (st:Bool) (x:Claim):List Step:=bif eE a st x then [{ bL:=x.bL,aH:=x.aH,sign:=x.sign,sum:=j3 a x }] else []
theorem NP (l:List Claim) (a:bD) (kind:Int) (st:Bool):(ke l a kind st).1=(l.foldl (gE a kind st) []).foldl kJ (l.map (iu a st)):=by
 unfold ke my
 dsimp +instances only [Sk.dK,Sk.gd,Sk.iP,Sk.fB,Sk.jt,Sk.l7,Sk.Rg,Sk.dn,il.A1,kk,kp,bH.rD,yU.A1,j0.A1,qy,xE,pd,ri]
 have AU:si l=l:=(xD l).2
 rw [AU]
 have h1:=De l.length (fun n=>((l.take n).map (iu a st)++l.drop n,(l.take n).flatMap (stepOf a st),(l.take n).foldl (gE a kind st) [])) (fun s i=>(s.1,s.2.1,s.2.2,i))
  (f:=fun i3:List Claim × List Step × List Claim × Nat=>bif decide ((i3.2.2.2:Int) < ((l.length:Nat):Int)) then
   bif !(eE a st (l.getD i3.2.2.2 default)) then Sum.inr (i3.1,i3.2.1,i3.2.2.1,i3.2.2.2+1) else
   bif (((kind != 1)&&((((l.getD i3.2.2.2 default).dF) == 0)||(decide (((l.getD i3.2.2.2 default).sign) < a.at_))))&&(((l.getD i3.2.2.2 default).bL) != a.dQ)) then
    Sum.inr (i3.1.set i3.2.2.2 ({ i3.1.getD i3.2.2.2 default with sum:=ar ((bX 0 ((l.getD i3.2.2.2 default).sum)) - (cq (bX 0 a.sum) (bX 0 ((l.getD i3.2.2.2 default).sum)))) }),i3.2.1++[({ bL:=(l.getD i3.2.2.2 default).bL,aH:=(l.getD i3.2.2.2 default).aH,sign:=(l.getD i3.2.2.2 default).sign,sum:=cq (bX 0 a.sum) (bX 0 ((l.getD i3.2.2.2 default).sum)) }:Step)],re i3.2.2.1 ({ l.getD i3.2.2.2 default with aH:=a.dQ,c9:=a.at_,sum:=cq (bX 0 a.sum) (bX 0 ((l.getD i3.2.2.2 default).sum)) }),i3.2.2.2+1)
   else Sum.inr (i3.1.set i3.2.2.2 ({ i3.1.getD i3.2.2.2 default with sum:=ar ((bX 0 ((l.getD i3.2.2.2 default).sum)) - (cq (bX 0 a.sum) (bX 0 ((l.getD i3.2.2.2 default).sum)))) }),i3.2.1++[({ bL:=(l.getD i3.2.2.2 default).bL,aH:=(l.getD i3.2.2.2 default).aH,sign:=(l.getD i3.2.2.2 default).sign,sum:=cq (bX 0 a.sum) (bX 0 ((l.getD i3.2.2.2 default).sum)) }:Step)],i3.2.2.1,i3.2.2.2+1)
   else Sum.inl (Sum.inr (i3.1,i3.2.1,i3.2.2.1)))
  (d:=(default:(List Claim × List Step) ⊕ (List Claim × List Step × List Claim)))
  (fun s=>Sum.inr s) (fun i hi=>by
   have et:l.take (i+1)=l.take i++[l.getD i default]:=by
    rw [List.take_succ_eq_append_getElem hi]; simp [List.getD,hi]
   have e2:(l.take (i+1)).flatMap (stepOf a st)=(l.take i).flatMap (stepOf a st)++stepOf a st (l.getD i default):=by rw [et]; simp
   have e3:(l.take (i+1)).foldl (gE a kind st) []=gE a kind st ((l.take i).foldl (gE a kind st) []) (l.getD i default):=by rw [et,List.foldl_append]; rfl
   dsimp only
   rw [decide_eq_true (by omega),cond_true,e2,e3]
   cases hm:eE a st (l.getD i default) with
   | false =>
    have er:iu a st (l.getD i default)=l.getD i default:=by unfold iu; rw [hm]; rfl
    have es:stepOf a st (l.getD i default)=[]:=by unfold stepOf; rw [hm]; rfl
    have ei:∀ s,gE a kind st s (l.getD i default)=s:=fun s=>by unfold gE QE; rw [hm]; rfl
    rw [H8 _ hi er,es,ei,List.append_nil]; rfl
   | true =>
    have er:iu a st (l.getD i default) = { l.getD i default with sum:=ar ((bX 0 ((l.getD i default).sum)) - (cq (bX 0 a.sum) (bX 0 ((l.getD i default).sum)))) }:=by unfold iu j3; rw [hm]; rfl
    have es:stepOf a st (l.getD i default)=[({ bL:=(l.getD i default).bL,aH:=(l.getD i default).aH,sign:=(l.getD i default).sign,sum:=cq (bX 0 a.sum) (bX 0 ((l.getD i default).sum)) }:Step)]:=by unfold stepOf j3; rw [hm]; rfl
    have ei:∀ s,gE a kind st s (l.getD i default)=bif (((kind != 1)&&((((l.getD i default).dF) == 0)||(decide (((l.getD i default).sign) < a.at_))))&&(((l.getD i default).bL) != a.dQ)) then re s (oq a (l.getD i default)) else s:=fun s=>by unfold gE QE; rw [hm,Bool.true_and]
    rw [wF _ hi,← er,Gx _ hi,es,ei,Bool.not_true,cond_false]
    cases (((kind != 1)&&((((l.getD i default).dF) == 0)||(decide (((l.getD i default).sign) < a.at_))))&&(((l.getD i default).bL) != a.dQ)) <;> rfl)
  (by dsimp only; rw [decide_eq_false (by omega),cond_false]) (m:=l.length - 0+1) (by omega)
 rw [List.take_length,List.drop_length,List.append_nil] at h1
 refine (congrArg (fun q=>(iY q fun b2:List Claim × List Step × List Claim=>iY (iter (fun i7:List Claim × Nat=>bif decide ((i7.2:Int) < ((b2.2.2.length:Nat):Int)) then Sum.inr (kJ i7.1 (b2.2.2.getD i7.2 default),i7.2+1) else Sum.inl (Sum.inr i7.1)) (default:(List Claim × List Step) ⊕ List Claim) (b2.2.2.length - 0+1) (b2.1,0)) fun b6=>(b6,b2.2.1)).1) h1).trans ?_
 refine (congrArg Prod.fst (dT (l.foldl (gE a kind st) []) (fun s i=>(s,i)) (fun c v=>.inr (kJ v c)) (fun v=>v) (fun b6=>(b6,l.flatMap (stepOf a st))) (fun s i hi=>?_) (fun s=>?_) (by dsimp only; omega) (l.map (iu a st)))).trans ?_
 ·dsimp only
  rw [decide_eq_true (by omega),cond_true]
 ·dsimp only
  rw [decide_eq_false (by omega),cond_false]
 ·rw [j5 (fun c v=>kJ v c)]
def Yu (a:bD) (kind:Int) (st:Bool) (P:List Claim) (k:Int × Int × Int × Int × Int):Option Claim→Prop
 | none=>∀ x,x∈P→QE a kind st x=true→keyOf (oq a x)≠k
 | some c=>((c.state=1∨c.state=2)∧keyOf c=k∧∃ x,x∈P∧QE a kind st x=true∧keyOf (oq a x)=k∧c.dF=x.dF)∧(∃ x,x∈P∧QE a kind st x=true∧keyOf (oq a x)=k∧c.sum=j3 a x)∧(∀ x,x∈P→QE a kind st x=true→keyOf (oq a x)=k→j3 a x≤c.sum)∧(c.state=1↔∀ x,x∈P→QE a kind st x=true→keyOf (oq a x)=k→x.state=1)
def Spec (a:bD) (kind:Int) (st:Bool) (P pa:List Claim):Prop:=(pa.Pairwise fun x y=>¬ gy x y)∧∀ k,Yu a kind st P k (lk pa k)
theorem SF {a b:Int} (ha:a=1∨a=2) (hb:b=1∨b=2):dN a b=1↔a=1∧b=1:=by
 have e11:dN 1 1=1:=by kernel_rfl
 have e12:dN 1 2=2:=by kernel_rfl
 have e21:dN 2 1=2:=by kernel_rfl
 have e22:dN 2 2=2:=by kernel_rfl
 rcases ha with rfl | rfl <;> rcases hb with rfl | rfl <;> simp [e11,e12,e21,e22]
theorem Yu.agx {a:bD} {kind:Int} {st:Bool} {P:List Claim} {k:Int × Int × Int × Int × Int} {o:Option Claim} (h:Yu a kind st P k o) {x:Claim} (hx:QE a kind st x=true→keyOf (oq a x)≠k):Yu a kind st (P++[x]) k o:=by
 have hm:∀ y,y∈P++[x]→QE a kind st y=true→keyOf (oq a y)=k→y∈P:=fun y hy h1 h2=>by
  rcases List.mem_append.1 hy with hy | hy
  ·exact hy
  ·rw [List.mem_singleton.1 hy] at h1 h2; exact absurd h2 (hx h1)
 cases o with
 | none=>exact fun y hy h1 h2=>h y (hm y hy h1 h2) h1 h2
 | some c =>
  obtain ⟨⟨h1,h2,y,hy,k1,k2⟩,⟨z,hz,k3⟩,k4,k5⟩:=h
  refine ⟨⟨h1,h2,y,List.mem_append_left _ hy,k1,k2⟩,⟨z,List.mem_append_left _ hz,k3⟩,fun y hy q1 q2=>k4 y (hm y hy q1 q2) q1 q2,k5.trans ⟨fun q y hy q1 q2=>q y (hm y hy q1 q2) q1 q2,fun q y hy q1 q2=>q y (List.mem_append_left _ hy) q1 q2⟩⟩
theorem Spec.step {a:bD} {kind:Int} {st:Bool} {P pa:List Claim} (h:Spec a kind st P pa) {x:Claim} (hx:x.state=1∨x.state=2):Spec a kind st (P++[x]) (gE a kind st pa x):=by
 unfold gE
 cases hs:QE a kind st x with
 | false=>exact ⟨h.1,fun k=>(h.2 k).agx (fun e=>absurd e (by rw [hs]; decide))⟩
 | true =>
  have e:re pa (oq a x)=m9 (fG (oq a x)) (oq a x) pa:=(Cz pa (oq a x)).eq h.1
  rw [cond_true,e]
  refine ⟨E0 (abX _) h.1,fun k=>?_⟩
  rw [NN (abX _)]
  by_cases hk:keyOf (oq a x)=k
  ·rw [if_pos hk]
   have hq:=h.2 k
   have hP:∀ (Q:Claim→Prop),(∀ y,y∈P++[x]→QE a kind st y=true→keyOf (oq a y)=k→Q y)↔(∀ y,y∈P→QE a kind st y=true→keyOf (oq a y)=k→Q y)∧Q x:=fun Q =>
    ⟨fun q=>⟨fun y hy=>q y (List.mem_append_left _ hy),q x (by simp) hs hk⟩,fun q y hy q1 q2=>by
     rcases List.mem_append.1 hy with hy | hy
     ·exact q.1 y hy q1 q2
     ·rw [List.mem_singleton.1 hy]; exact q.2⟩
   cases ho:lk pa k with
   | none =>
    rw [ho] at hq
    refine ⟨⟨hx,hk,x,by simp,hs,hk,rfl⟩,⟨x,by simp,hs,hk,rfl⟩,(hP _).2 ⟨fun y hy q1 q2=>absurd q2 (hq y hy q1),Int.le_refl _⟩,Iff.trans ⟨fun q=>⟨fun y hy q1 q2=>absurd q2 (hq y hy q1),q⟩,fun q=>q.2⟩ (hP _).symm⟩
   | some c =>
    rw [ho] at hq
    obtain ⟨⟨h1,h2,y,hy,k1,k1',k2⟩,⟨z,hz,k3,k3',aii⟩,k4,k5⟩:=hq
    have lX:(fG (oq a x) c).state=1↔x.state=1∧c.state=1:=SF (a:=x.state) (b:=c.state) hx h1
    have hmx:(fG (oq a x) c).sum=bX c.sum (j3 a x):=rfl
    refine ⟨⟨WW (a:=x.state) (b:=c.state) hx h1,h2,y,List.mem_append_left _ hy,k1,k1',k2⟩,?_,(hP _).2 ⟨fun y hy q1 q2=>?_,?_⟩,Iff.trans ?_ (hP _).symm⟩
    ·show ∃ w,w∈P++[x]∧_∧_∧(fG (oq a x) c).sum=_
     rw [hmx]
     unfold bX
     split
     ·exact ⟨x,by simp,hs,hk,rfl⟩
     ·exact ⟨z,List.mem_append_left _ hz,k3,k3',aii⟩
    ·have:=k4 y hy q1 q2
     show _≤(fG (oq a x) c).sum
     rw [hmx]; unfold bX; split <;> omega
    ·show _≤(fG (oq a x) c).sum
     rw [hmx]; unfold bX; split <;> omega
    ·exact lX.trans ⟨fun q=>⟨k5.1 q.2,q.1⟩,fun q=>⟨q.2,k5.2 q.1⟩⟩
  ·rw [if_neg hk]
   exact (h.2 k).agx (fun _=>hk)
theorem Spec.all {a:bD} {kind:Int} {st:Bool}:∀ (l P pa:List Claim),Spec a kind st P pa→(∀ x,x∈l→x.state=1∨x.state=2)→Spec a kind st (P++l) (l.foldl (gE a kind st) pa)
 | [],P,pa,h,_=>by rw [List.append_nil]; exact h
 | x :: r,P,pa,h,hl=>by
  have:=Spec.all r (P++[x]) _ (h.step (hl x (by simp))) (fun y hy=>hl y (by simp [hy]))
  rwa [List.append_assoc] at this
theorem Spec.of {a:bD} {kind:Int} {st:Bool} {l:List Claim} (hl:∀ x,x∈l→x.state=1∨x.state=2):Spec a kind st l (l.foldl (gE a kind st) []):=by
 have:=Spec.all (a:=a) (kind:=kind) (st:=st) l [] [] ⟨.nil,fun k x hx=>by simp at hx⟩ hl
 rwa [List.nil_append] at this
theorem NQ {k:Int × Int × Int × Int × Int}:∀ (pa v:List Claim),(pa.Pairwise fun x y=>¬ gy x y)→(v.Pairwise fun x y=>¬ gy x y)→((pa.foldl kJ v).Pairwise fun x y=>¬ gy x y)∧lk (pa.foldl kJ v) k=(lk pa k).elim (lk v k) fun c=>some ((lk v k).elim c (fJ c))
 | [],v,_,hv=>⟨hv,rfl⟩
 | c :: r,v,hi,hv=>by
  rw [List.pairwise_cons] at hi
  have e:kJ v c=m9 (fJ c) c v:=(D7 v c).eq hv
  have h:=NQ (k:=k) r (kJ v c) hi.2 (by rw [e]; exact E0 (abY _) hv)
  rw [List.foldl_cons]
  refine ⟨h.1,h.2.trans ?_⟩
  rw [e,NN (abY _),vq]
  by_cases hk:keyOf c=k
  ·rw [if_pos hk,if_pos hk]
   have:lk r k=none:=by
    cases hr:lk r k with
    | none=>rfl
    | some y =>
     obtain ⟨m1,m2⟩:=qN hr
     exact absurd (jW.2 (hk.trans m2.symm)) (hi.1 y m1)
   rw [this]; rfl
  ·rw [if_neg hk,if_neg hk]
theorem abZ:∀ {pa v:List Claim} {z:Claim},(pa.Pairwise fun x y=>¬ gy x y)→(v.Pairwise fun x y=>¬ gy x y)→z∈pa.foldl kJ v→z∈v∨z∈pa∨∃ x c,x∈v∧c∈pa∧z=fJ c x:=fun {pa v z} hi hv hz=>by
 obtain ⟨h1,h2⟩:=NQ (k:=keyOf z) pa v hi hv
 have h3:=I7 h1 hz
 rw [h2] at h3
 cases hc:lk pa (keyOf z) with
 | none=>rw [hc] at h3; exact .inl (qN h3).1
 | some c =>
  rw [hc] at h3
  cases hx:lk v (keyOf z) with
  | none=>rw [hx] at h3; have h3:some c=some z:=h3; cases h3; exact .inr (.inl (qN hc).1)
  | some x=>rw [hx] at h3; have h3:some (fJ c x)=some z:=h3; cases h3; exact .inr (.inr ⟨x,c,(qN hx).1,(qN hc).1,rfl⟩)
structure ZU (Z:Int→Prop) (L:List Claim):Prop where
 pair:L.Pairwise fun x y=>¬ gy x y
 cl:∀ x,x∈L→Gs x
 dF:∀ x,x∈L→(x.dF=0↔Z x.sign)
structure Gr (L L':List Claim):Prop where
 old:∀ k x',lk L' k=some x'→∃ x,lk L k=some x
 yes:∀ k x,lk L k=some x→x.state=1→∃ x',lk L' k=some x'∧x'.state=1∧x.sum≤x'.sum
theorem SG (a:bD) (st:Bool) (x:Claim):keyOf (iu a st x)=keyOf x:=jW.1 (Gu a st x).1
theorem Xs (a:bD) (st:Bool) (k:Int × Int × Int × Int × Int):∀ l:List Claim,lk (l.map (iu a st)) k=(lk l k).map (iu a st)
 | []=>rfl
 | x :: r=>by
  rw [List.map_cons,vq,vq,SG,Xs a st k r]
  split <;> rfl
theorem QF (a:bD) (st:Bool) (x:Claim):(iu a st x).state=x.state:=by unfold iu; cases eE a st x <;> rfl
theorem NR {a:bD} {st:Bool} {l:List Claim} (h:l.Pairwise fun x y=>¬ gy x y):(l.map (iu a st)).Pairwise fun x y=>¬ gy x y:=by
 rw [List.pairwise_map]
 exact h.imp fun h e=>h (jW.2 (by have:=jW.1 e; rwa [SG,SG] at this))
theorem NS {a:bD} {x:Claim} (h:Gs x):ma (j3 a x):=by
 have h:=h.1
 unfold ma j3 cq bX at *
 (repeat' split) <;> omega
theorem ZU.apply {Z:Int→Prop} {L:List Claim} (h:ZU Z L) (a:bD) (kind:Int) (st:Bool):ZU Z (ke L a kind st).1:=by
 have hs:=Spec.of (a:=a) (kind:=kind) (st:=st) fun x hx=>(h.cl x hx).2
 have hv:=NR (a:=a) (st:=st) h.pair
 rw [NP]
 have ci:∀ c,c∈L.foldl (gE a kind st) []→Gs c∧(c.dF=0↔Z c.sign):=fun c hc=>by
  have hk:=hs.2 (keyOf c)
  rw [I7 hs.1 hc] at hk
  obtain ⟨⟨h1,-,y,hy,-,k1,k2⟩,⟨z,hz,-,-,k3⟩,-,-⟩:=hk
  refine ⟨⟨by rw [k3]; exact NS (h.cl z hz),h1⟩,?_⟩
  have:y.sign=c.sign:=congrArg (fun q:Int × Int × Int × Int × Int=>q.2.2.2.1) k1
  rw [k2,← this]; exact h.dF y hy
 have cv:∀ c,c∈L.map (iu a st)→Gs c∧(c.dF=0↔Z c.sign):=fun c hc=>by
  obtain ⟨x,hx,rfl⟩:=List.mem_map.1 hc
  have e:=Gu a st x
  exact ⟨KK (h.cl x hx),by rw [e.2.1,e.1.2.2.2.1]; exact h.dF x hx⟩
 have all:∀ z,z∈(L.foldl (gE a kind st) []).foldl kJ (L.map (iu a st))→Gs z∧(z.dF=0↔Z z.sign):=fun z hz=>by
  rcases abZ hs.1 hv hz with hz | hz | ⟨x,c,hx,hc,rfl⟩
  ·exact cv z hz
  ·exact ci z hz
  ·exact ⟨abC (ci c hc).1 (cv x hx).1,(cv x hx).2⟩
 exact ⟨(NQ (k:=keyOf default) _ _ hs.1 hv).1,fun z hz=>(all z hz).1,fun z hz=>(all z hz).2⟩
theorem SH {Z:Int→Prop} {a:bD} {kind:Int} {st:Bool} {x y:Claim} (hk:keyOf x=keyOf y) (hx:x.dF=0↔Z x.sign) (hy:y.dF=0↔Z y.sign):QE a kind st x=QE a kind st y∧eE a st x=eE a st y:=by
 obtain ⟨e1,e2,e3,e4,e5⟩:=jW.2 hk
 have et:(x.dF == 0)=(y.dF == 0):=by
  have:x.dF=0↔y.dF=0:=by rw [hx,hy,e4]
  cases h:y.dF == 0 with
  | true=>rw [beq_iff_eq] at h ⊢; exact this.2 h
  | false=>rw [beq_eq_false_iff_ne] at h ⊢; exact fun q=>h (this.1 q)
 have em:eE a st x=eE a st y:=by rw [kI,kI,e2]
 unfold QE
 rw [em,et,e4,e1]
 exact ⟨rfl,rfl⟩
theorem KO {a:bD} {x y:Claim} (hk:keyOf x=keyOf y):keyOf (oq a x)=keyOf (oq a y):=by
 obtain ⟨e1,e2,e3,e4,e5⟩:=jW.2 hk
 exact jW.1 ⟨e1,rfl,e3,e4,rfl⟩
theorem ac9 {a:bD} {x y:Claim} (h:x.sum≤y.sum):j3 a x≤j3 a y:=by
 unfold j3 cq bX; (repeat' split) <;> omega
theorem Gr.apply {Z:Int→Prop} {L L':List Claim} (h:ZU Z L) (h':ZU Z L') (hg:Gr L L') (a:bD) (kind:Int) (st:Bool):Gr (ke L a kind st).1 (ke L' a kind st).1:=by
 have hs:=Spec.of (a:=a) (kind:=kind) (st:=st) fun x hx=>(h.cl x hx).2
 have yJ:=Spec.of (a:=a) (kind:=kind) (st:=st) fun x hx=>(h'.cl x hx).2
 have back:∀ x',x'∈L'→∃ x,x∈L∧keyOf x=keyOf x'∧QE a kind st x=QE a kind st x'∧(x.state=1→x'.state=1∧x.sum≤x'.sum):=fun x' QQ=>by
  have KV:=I7 h'.pair QQ
  obtain ⟨x,hx⟩:=hg.old _ _ KV
  obtain ⟨m1,m2⟩:=qN hx
  refine ⟨x,m1,m2,(SH m2 (h.dF x m1) (h'.dF x' QQ)).1,fun h1=>?_⟩
  obtain ⟨y,y1,y2,y3⟩:=hg.yes _ x hx h1
  rw [KV] at y1
  cases y1
  exact ⟨y2,y3⟩
 have fwd:∀ x,x∈L→x.state=1→∃ x',x'∈L'∧keyOf x'=keyOf x∧QE a kind st x'=QE a kind st x∧x.sum≤x'.sum:=fun x hx h1=>by
  obtain ⟨x',y1,y2,y3⟩:=hg.yes _ x (I7 h.pair hx) h1
  obtain ⟨m1,m2⟩:=qN y1
  exact ⟨x',m1,m2,(SH m2 (h'.dF x' m1) (h.dF x hx)).1,y3⟩
 have io:∀ k c',lk (L'.foldl (gE a kind st) []) k=some c'→∃ c,lk (L.foldl (gE a kind st) []) k=some c:=fun k c' VJ=>by
  have q:=yJ.2 k
  rw [VJ] at q
  obtain ⟨-,⟨z,hz,z1,z2,-⟩,-,-⟩:=q
  obtain ⟨x,x1,x2,x3,-⟩:=back z hz
  have q:=hs.2 k
  cases hc:lk (L.foldl (gE a kind st) []) k with
  | some c=>exact ⟨c,rfl⟩
  | none=>rw [hc] at q; exact absurd ((KO x2).trans z2) (q x x1 (by rw [x3]; exact z1))
 have iy:∀ k c,lk (L.foldl (gE a kind st) []) k=some c→c.state=1→∃ c',lk (L'.foldl (gE a kind st) []) k=some c'∧c'.state=1∧c.sum≤c'.sum:=fun k c hc h1=>by
  have q:=hs.2 k
  rw [hc] at q
  obtain ⟨-,⟨z,hz,z1,z2,z3⟩,-,k5⟩:=q
  have rq:=k5.1 h1
  obtain ⟨z',w1,w2,w3,w4⟩:=fwd z hz (rq z hz z1 z2)
  have q:=yJ.2 k
  cases VJ:lk (L'.foldl (gE a kind st) []) k with
  | none=>rw [VJ] at q; exact absurd ((KO w2).trans z2) (q z' w1 (by rw [w3]; exact z1))
  | some c' =>
   rw [VJ] at q
   obtain ⟨-,-,k4',k5'⟩:=q
   refine ⟨c',rfl,k5'.2 fun y hy q1 q2=>?_,?_⟩
   ·obtain ⟨x,x1,x2,x3,x4⟩:=back y hy
    exact (x4 (rq x x1 (by rw [x3]; exact q1) ((KO x2).trans q2))).1
   ·rw [z3]
    exact Int.le_trans (ac9 w4) (k4' z' w1 (by rw [w3]; exact z1) ((KO w2).trans z2))
 have vo:∀ k x',lk (L'.map (iu a st)) k=some x'→∃ x,lk (L.map (iu a st)) k=some x:=fun k x' QQ=>by
  rw [Xs] at QQ ⊢
  cases hy:lk L' k with
  | none=>rw [hy] at QQ; cases QQ
  | some y =>
   obtain ⟨x,hx⟩:=hg.old k y hy
   exact ⟨_,by rw [hx]; rfl⟩
 have vy:∀ k x,lk (L.map (iu a st)) k=some x→x.state=1→∃ x',lk (L'.map (iu a st)) k=some x'∧x'.state=1∧x.sum≤x'.sum:=fun k x hx h1=>by
  rw [Xs] at hx ⊢
  cases hy:lk L k with
  | none=>rw [hy] at hx; cases hx
  | some y =>
   rw [hy] at hx
   have hx:some (iu a st y)=some x:=hx
   cases hx
   rw [QF] at h1
   obtain ⟨y',y1,y2,y3⟩:=hg.yes k y hy h1
   refine ⟨iu a st y',by rw [y1]; rfl,by rw [QF]; exact y2,?_⟩
   obtain ⟨m1,m2⟩:=qN hy
   obtain ⟨n1,n2⟩:=qN y1
   have em:=(SH (Z:=Z) (a:=a) (kind:=kind) (st:=st) (m2.trans n2.symm) (h.dF y m1) (h'.dF y' n1)).2
   have c1:=(h.cl y m1).1
   have c2:=(h'.cl y' n1).1
   unfold iu
   rw [em]
   cases eE a st y' with
   | false=>exact y3
   | true =>
    show ar _≤ar _
    unfold j3 ma at *
    have a0:0≤bX 0 a.sum:=by unfold bX; split <;> omega
    generalize bX 0 a.sum=A at a0 ⊢
    rw [show bX 0 y.sum=y.sum by unfold bX; split <;> omega,show bX 0 y'.sum=y'.sum by unfold bX; split <;> omega]
    have b1:0≤cq A y.sum∧cq A y.sum≤y.sum:=by unfold cq; split <;> omega
    have b2:0≤cq A y'.sum∧cq A y'.sum≤y'.sum:=by unfold cq; split <;> omega
    rw [aA (by omega) (by omega),aA (by omega) (by omega)]
    unfold cq; split <;> split <;> omega
 have hv:=NR (a:=a) (st:=st) h.pair
 have hv':=NR (a:=a) (st:=st) h'.pair
 have ci:∀ k c,lk (L.foldl (gE a kind st) []) k=some c→Gs c:=fun k c hc=>by
  have q:=hs.2 k
  rw [hc] at q
  obtain ⟨⟨h1,-⟩,⟨z,hz,-,-,k3⟩,-⟩:=q
  exact ⟨by rw [k3]; exact NS (h.cl z hz),h1⟩
 have ci':∀ k c,lk (L'.foldl (gE a kind st) []) k=some c→Gs c:=fun k c hc=>by
  have q:=yJ.2 k
  rw [hc] at q
  obtain ⟨⟨h1,-⟩,⟨z,hz,-,-,k3⟩,-⟩:=q
  exact ⟨by rw [k3]; exact NS (h'.cl z hz),h1⟩
 have cv:∀ k c,lk (L.map (iu a st)) k=some c→Gs c:=fun k c hc=>by
  obtain ⟨x,hx,e⟩:=List.mem_map.1 (qN hc).1
  rw [← e]; exact KK (h.cl x hx)
 have cv':∀ k c,lk (L'.map (iu a st)) k=some c→Gs c:=fun k c hc=>by
  obtain ⟨x,hx,e⟩:=List.mem_map.1 (qN hc).1
  rw [← e]; exact KK (h'.cl x hx)
 rw [NP,NP]
 refine ⟨fun k z' hz'=>?_,fun k z hz h1=>?_⟩
 ·rw [(NQ _ _ yJ.1 hv').2] at hz'
  rw [(NQ _ _ hs.1 hv).2]
  cases VJ:lk (L'.foldl (gE a kind st) []) k with
  | some c' =>
   obtain ⟨c,hc⟩:=io k c' VJ
   rw [hc]; exact ⟨_,rfl⟩
  | none =>
   rw [VJ] at hz'
   obtain ⟨x,hx⟩:=vo k z' hz'
   rw [hx]
   cases lk (L.foldl (gE a kind st) []) k <;> exact ⟨_,rfl⟩
 ·rw [(NQ _ _ hs.1 hv).2] at hz
  rw [(NQ _ _ yJ.1 hv').2]
  cases hc:lk (L.foldl (gE a kind st) []) k with
  | none =>
   rw [hc] at hz
   obtain ⟨x',x1,x2,x3⟩:=vy k z hz h1
   cases VJ:lk (L'.foldl (gE a kind st) []) k with
   | none=>exact ⟨x',x1,x2,x3⟩
   | some c'=>obtain ⟨c0,Jd⟩:=io k c' VJ; rw [hc] at Jd; cases Jd
  | some c =>
   rw [hc] at hz
   cases hx:lk (L.map (iu a st)) k with
   | none =>
    rw [hx] at hz
    have hz:some c=some z:=hz
    have hz:c=z:=Option.some.inj hz
    subst z
    obtain ⟨c',c1,c2,c3⟩:=iy k c hc h1
    rw [c1]
    cases QQ:lk (L'.map (iu a st)) k with
    | none=>exact ⟨c',rfl,c2,c3⟩
    | some x'=>obtain ⟨x,hx2⟩:=vo k x' QQ; rw [hx] at hx2; cases hx2
   | some x =>
    rw [hx] at hz
    have hz:some (fJ c x)=some z:=hz
    cases hz
    have px:=cv k x hx
    have pc:=ci k c hc
    obtain ⟨s1,s2⟩:=(SF (a:=x.state) (b:=c.state) px.2 pc.2).1 h1
    obtain ⟨c',c1,c2,c3⟩:=iy k c hc s2
    obtain ⟨x',x1,x2,x3⟩:=vy k x hx s1
    have px':=cv' k x' x1
    have pc':=ci' k c' c1
    rw [c1,x1]
    refine ⟨_,rfl,(SF (a:=x'.state) (b:=c'.state) px'.2 pc'.2).2 ⟨x2,c2⟩,?_⟩
    show cq 1099511627776 (ar (x.sum+c.sum))≤cq 1099511627776 (ar (x'.sum+c'.sum))
    have p1:=px.1
    have p2:=pc.1
    have p3:=px'.1
    have p4:=pc'.1
    unfold ma at *
    rw [aA (by omega) (by omega),aA (by omega) (by omega)]
    unfold cq; split <;> split <;> omega
def qB (g:ak) (l:List Claim) (a:bD):List Claim:=bif (((a.kind != 6)||(decide (a.at_ < 0)))||(decide (a.at_≥((g.af.length:Nat):Int)))) then l else (ke l a (g.af.getD a.at_.toNat default).kind (!(mw g.af a))).1
theorem D9 (r:ah) (forum:Int) (f:ak) (day:Int):eQ r forum f day=(ai f day).aw.foldl (qB (ai f day)) (cm r forum f day):=by
 have e0:eQ r forum f day=(Dm r forum f day).1:=by kernel_rfl
 rw [e0]
 unfold Dm qL
 dsimp +instances only [Sk.val,Sk.dK,Sk.gd,Sk.iP,Sk.fB,Sk.jt,Sk.l7,Sk.Rg,Sk.dn,Sk.aes,Sk.aer,Sk.X1,Sk.X2,il.A1,kk,kp,bH.rD,aV,R6,ig,j0.A1,vk]
 refine (congrArg Prod.fst (dT (ai f day).aw (fun s i=>(s,i)) (fun a l=>.inr (qB (ai f day) l a)) (fun l=>l) (fun b3=>(b3,())) (fun s i hi=>?_) (fun s=>?_) (by omega) (cm r forum f day))).trans ?_
 ·dsimp only
  rw [decide_eq_true (by omega),cond_true]
  unfold qB
  cases ((((((ai f day).aw.getD i default).kind) != 6)||(decide ((((ai f day).aw.getD i default).at_) < 0)))||(decide ((((ai f day).aw.getD i default).at_)≥(((ai f day).af.length:Nat):Int)))) with
  | true=>rfl
  | false =>
   rw [cond_false,cond_false]
   generalize ke s ((ai f day).aw.getD i default) ((ai f day).af.getD ((ai f day).aw.getD i default).at_.toNat default).kind (!(mw (ai f day).af ((ai f day).aw.getD i default)))=w
   refine Eq.trans (congrArg (fun q=>iY (iY q _) _) (De w.2.length (fun k=>(w.2.take k).foldl (fun m (s:Step)=>nC m s.aH true) ([]:List (Int × Bool))) (fun s i=>(i,s)) (fun s=>Sum.inr (((w.2.length:Nat):Int),s)) (fun k hk=>?_) ?_ (by omega))) ?_
   ·dsimp only
    rw [decide_eq_true (by omega),cond_true,List.take_succ_eq_append_getElem hk,List.foldl_append,show w.2.getD k default=w.2[k] by simp [List.getD,hk]]
    rfl
   ·dsimp only
    rw [decide_eq_false (by omega),cond_false,List.take_length]
   ·rfl
 ·dsimp only
  rw [decide_eq_false (by omega),cond_false]
 ·rw [j5 (fun a l=>qB (ai f day) l a)]
theorem ab0 {Z:Int→Prop} (g g':ak) (hs:g'.af=g.af):∀ (aw:List bD) (L L':List Claim),ZU Z L→ZU Z L'→Gr L L'→ZU Z (aw.foldl (qB g) L)∧ZU Z (aw.foldl (qB g') L')∧Gr (aw.foldl (qB g) L) (aw.foldl (qB g') L')
 | [],L,L',h,h',hg=>⟨h,h',hg⟩
 | a :: r,L,L',h,h',hg=>by
  rw [List.foldl_cons,List.foldl_cons]
  have e:∀ l,qB g' l a=qB g l a:=fun l=>by unfold qB; rw [hs]
  rw [e]
  unfold qB
  cases (((a.kind != 6)||(decide (a.at_ < 0)))||(decide (a.at_≥((g.af.length:Nat):Int)))) with
  | true=>exact ab0 g g' hs r L L' h h' hg
  | false=>exact ab0 g g' hs r _ _ (h.apply _ _ _) (h'.apply _ _ _) (hg.apply h h' _ _ _)
def Yv (f:ak) (day s:Int):Prop:=((ai f day).af.getD (aC (aD f day) s).toNat default).kind=1
theorem Yw {r:ah} {forum:Int} {f:ak} {day:Int} (hF:cb r f) (hR:r.dg):ZU (Yv f day) (cm r forum f day):=by
 refine ⟨(UW r forum f day).imp fun h e=>h ⟨e.2.2.1,e.2.2.2.1,e.2.2.2.2⟩,fun c hc=>?_,fun c hc=>?_⟩
 ·have:=CB hF hR hc
  exact ⟨this.2.2.2.2.2.2.1,this.2.2.2.2.2.1⟩
 ·obtain ⟨b,hb,-,-,h,-⟩:=Vx hF hc
  rw [hb] at h
  exact h
theorem ZV {r:ah} {forum:Int} {f:ak} {F:List Fact} {day:Int} (h:sq f F) (hF:cb r f) (hF2:cb r { f with facts:=F }) (hR:r.dg) :
  ZU (Yv f day) (eQ r forum f day)∧ZU (Yv f day) (eQ r forum { f with facts:=F } day)∧Gr (eQ r forum f day) (eQ r forum { f with facts:=F } day):=by
 obtain ⟨g1,g2⟩:=ZT (forum:=forum) (day:=day) h hF hF2 hR
 have o1:=Yw (forum:=forum) (day:=day) hF hR
 have o2:=Yw (forum:=forum) (day:=day) hF2 hR
 have o3:ZU (Yv f day) (cm r forum { f with facts:=F } day):=by
  refine ⟨o2.pair,o2.cl,fun c hc=>?_⟩
  obtain ⟨d,hd,e⟩:=g2 c hc
  rw [e.2.1,e.1.2.2.2.1]
  exact o1.dF d hd
 rw [D9,D9,show (ai { f with facts:=F } day).aw=(ai f day).aw by rw [EZ]]
 refine ab0 _ _ (by rw [EZ]) _ _ _ o1 o3 ⟨fun k x' QQ=>?_,fun k x hx h1=>?_⟩
 ·obtain ⟨m1,m2⟩:=qN QQ
  obtain ⟨c,hc,e⟩:=g2 x' m1
  exact ⟨c,by rw [← m2,jW.1 e.1]; exact I7 o1.pair hc⟩
 ·obtain ⟨m1,m2⟩:=qN hx
  obtain ⟨c',hc,e,s1,s2⟩:=g1 x m1 h1
  exact ⟨c',by rw [← m2,← jW.1 e.1]; exact I7 o2.pair hc,s1,s2⟩
theorem aeR (r:ah) (fo:Int) (f:ak) (F:List Fact) (day:Int):iO r fo { f with facts:=F } day=iO r fo f day:=by
 rw [Gw,Gw,iw r fo f F day,EZ f F day]
 exact AQ (⟨r,fo,ai f day,0,day,bJ r fo f day⟩:cP) _
theorem Yx (r:ah) (fo:Int) (x:ak) (F:List Fact) {c c':Claim} (hk:keyOf c'=keyOf c) (ht:c'.dF=0↔c.dF=0) (day:Int):eS r fo { x with facts:=F } c' day=eS r fo x c day:=by
 unfold keyOf at hk
 simp only [Prod.mk.injEq] at hk
 obtain ⟨k1,k2,k3,k4,k5⟩:=hk
 have hp:zF c'=zF c:=by funext a s; unfold zF; rw [k2,k5]
 have hb:(c'.dF == 0)=(c.dF == 0):=Bool.eq_iff_iff.2 (by rw [beq_iff_eq,beq_iff_eq]; exact ht)
 rw [start_eq,start_eq,iw r fo x F day,aeR r fo x F day,hp,hb]
theorem aeS (r:ah) (fo:Int) {x:ak} {F:List Fact} (h:sq x F) {c c':Claim} (hk:keyOf c'=keyOf c) (ht:c'.dF=0↔c.dF=0) (day:Int):SLe (AG r fo x c day) (AG r fo { x with facts:=F } c' day):=by
 have k4:c'.sign=c.sign:=congrArg (fun k=>k.2.2.2.1) hk
 unfold AG
 rw [Yx r fo x F hk ht day,iw r fo x F day,k4]
 exact wU r fo _ c.sign c.sign (-1) _ day h
def ZW (bad:Bool) (fi:Int) (s:mb) (la:Int→Int):Int × Int:=bif bad then (0,1) else bif (s.err != 0)||(fi == -1) then (0,4) else bif !s.cell.known then (0,17) else (la s.cell.n,0)
theorem ada (bad:Bool) (fi:Int) (la:Int→Int) {s s':mb} (h:SLe s s'):ZW bad fi s' la=ZW bad fi s la∨(ZW bad fi s la).2=17:=by
 rcases h with e | ⟨e1,e2⟩
 ·left; rw [e]
 ·unfold ZW
  cases bad with
  | true=>left; rfl
  | false =>
   cases hz:fi == -1 with
   | true=>left; simp only [Bool.or_true,cond_true,cond_false]
   | false=>right; rw [e1,e2]; rfl
theorem Yy (r:ah) (fo:Int) (x:ak) (c:Claim) (day:Int):Nn r fo x c day=ZW (decide (c.sign < 0)||decide (c.sign≥(x.af.length:Int))) (eS r fo x c day).2 (AG r fo x c day) (fun n=>H6 c (eS r fo x c day).2 n x.aw):=rfl
theorem adb (r:ah) (fo:Int) {x:ak} {F:List Fact} (h:sq x F) {c c':Claim} (hk:keyOf c'=keyOf c) (ht:c'.dF=0↔c.dF=0) (day:Int):Nn r fo { x with facts:=F } c' day=Nn r fo x c day∨(Nn r fo x c day).2=17:=by
 have k2:c'.aH=c.aH:=congrArg (fun k=>k.2.1) hk
 have k4:c'.sign=c.sign:=congrArg (fun k=>k.2.2.2.1) hk
 have hi:∀ a,jq a c'=jq a c:=fun a=>by rw [D8,D8,k2,k4]
 have hl:∀ fi n l,H6 c' fi n l=H6 c fi n l:=fun fi n l=>by
  unfold H6
  have:(fun s a=>zG c' fi n a s)=fun s a=>zG c fi n a s:=by funext s a; unfold zG; rw [hi]
  rw [this]
 have e1:=Yx r fo x F hk ht day
 have eF:Nn r fo { x with facts:=F } c' day=ZW (decide (c.sign < 0)||decide (c.sign≥(x.af.length:Int))) (eS r fo x c day).2 (AG r fo { x with facts:=F } c' day) (fun n=>H6 c (eS r fo x c day).2 n x.aw):=by
  have q:=Yy r fo { x with facts:=F } c' day
  rw [e1,k4] at q
  simp only [hl] at q
  exact q
 rw [eF,Yy r fo x c day]
 exact ada _ _ _ (aeS r fo h hk ht day)
theorem QG (r:ah) (fo:Int) (f:ak) (c:Claim) (day:Int):dr r fo f c day=(fun p:Int × Int=>bif p.2 == 17 then 2 else bif (p.2 == 0)&&decide (day > p.1) then 1 else 0) (Dn r fo f c day):=by kernel_rfl
theorem VC (r:ah) (fo:Int) {f:ak} {F:List Fact} (h:sq f F) {c c':Claim} (hk:keyOf c'=keyOf c) (ht:c'.dF=0↔c.dF=0) (day:Int):lh (dr r fo f c day) (dr r fo { f with facts:=F } c' day):=by
 rw [QG,QG,abE,abE,EZ f F day]
 rcases adb r fo (h.at day) hk ht day with e | e
 ·rw [e]; exact lh.rfl' _
 ·exact .op (by dsimp only; rw [e]; rfl)
theorem VD {r:ah} {forum:Int} {f:ak} {F:List Fact} {day:Int} (h:sq f F) (hF:cb r f) (hF2:cb r { f with facts:=F }) (hR:r.dg) :
  (∀ c,c∈cG r forum f day→c.state=1→∃ c',c'∈cG r forum { f with facts:=F } day∧keyOf c'=keyOf c∧c'.state=1∧c.sum≤c'.sum) ∧
  ∀ c',c'∈cG r forum { f with facts:=F } day→∃ c,c∈cG r forum f day∧keyOf c'=keyOf c:=by
 obtain ⟨o1,o2,g⟩:=ZV (forum:=forum) (day:=day) h hF hF2 hR
 have lk':∀ f c,keyOf (yA r forum f day c)=keyOf c:=fun f c=>by unfold yA; cases dr r forum f c day == 2 <;> rfl
 have dF:∀ {x x':Claim},x∈eQ r forum f day→x'∈eQ r forum { f with facts:=F } day→keyOf x'=keyOf x→(x'.dF=0↔x.dF=0):=fun {x x'} hx QQ hk=>by
  have k4:x'.sign=x.sign:=congrArg (fun k=>k.2.2.2.1) hk
  rw [o1.dF x hx,o2.dF x' QQ,k4]
 rw [nA r forum f day hF,nA r forum _ day hF2]
 refine ⟨fun c hc h1=>?_,fun c' VJ=>?_⟩
 ·obtain ⟨x,hx,rfl⟩:=List.mem_map.1 hc
  obtain ⟨hx,hn⟩:=List.mem_filter.1 hx
  have hl2:dr r forum f x day≠2:=fun e=>by
   unfold yA at h1; rw [e] at h1; exact absurd h1 (by show ¬ (2:Int)=1; decide)
  have ex:yA r forum f day x=x:=by unfold yA; rw [beq_eq_false_iff_ne.2 hl2]; rfl
  rw [ex] at h1 ⊢
  obtain ⟨x',y1,y2,y3⟩:=g.yes _ _ (I7 o1.pair hx) h1
  obtain ⟨m1,m2⟩:=qN y1
  have hl:=VC r forum h m2 (dF hx m1 m2) day hl2
  have ex':yA r forum { f with facts:=F } day x'=x':=by unfold yA; rw [hl,beq_eq_false_iff_ne.2 hl2]; rfl
  refine ⟨x',List.mem_map.2 ⟨x',List.mem_filter.2 ⟨m1,?_⟩,ex'⟩,m2,y2,y3⟩
  unfold s5 at hn ⊢
  rw [hl]; exact hn
 ·obtain ⟨x',QQ,rfl⟩:=List.mem_map.1 VJ
  obtain ⟨QQ,hn⟩:=List.mem_filter.1 QQ
  obtain ⟨x,y1⟩:=g.old _ _ (I7 o2.pair QQ)
  obtain ⟨m1,m2⟩:=qN y1
  refine ⟨_,List.mem_map.2 ⟨x,List.mem_filter.2 ⟨m1,?_⟩,rfl⟩,by rw [lk',lk',m2]⟩
  have hl:=VC r forum h m2.symm (dF m1 QQ m2.symm) day
  unfold s5 at hn ⊢
  cases e:dr r forum f x day == 1 with
  | false=>rfl
  | true =>
   rw [beq_iff_eq] at e
   rw [hl (by rw [e]; decide),e] at hn
   exact hn
def Ea (files b:List ak) (k:Nat) (n:Nat):Prop:=b.length=files.length∧(∀ q,q≠k→b.getD q default=files.getD q default)∧(k < files.length→Xm (files.getD k default) (b.getD k default)∧(b.getD k default).facts.length≤(files.getD k default).facts.length+n)
theorem Ea.init (files:List ak) (k:Nat):Ea files files k 0:=⟨rfl,fun _ _=>rfl,fun _=>⟨Xm.refl _,Nat.le_refl _⟩⟩
theorem Ea.step {files b:List ak} {k n:Nat} (h:Ea files b k n) (x:Fact):Ea files (b.set k (pT (b.getD k default) x)) k (n+1):=by
 obtain ⟨h1,h2,h3⟩:=h
 refine ⟨by rw [List.length_set]; exact h1,fun q hq=>?_,fun hk=>?_⟩
 ·rw [← h2 q hq]
  simp only [List.getD,List.getElem?_set]
  rw [if_neg (fun e=>hq e.symm)]
 ·obtain ⟨a,b'⟩:=h3 hk
  have e:(b.set k (pT (b.getD k default) x)).getD k default=pT (b.getD k default) x:=by
   simp only [List.getD,List.getElem?_set,if_true]
   rw [if_pos (by omega)]; rfl
  rw [e]
  exact ⟨a.step x,by have:=abO (b.getD k default) x; omega⟩
structure ab1 (x x':cx) (F:List Fact):Prop where
 r:x'.r=x.r
 forum:x'.forum=x.forum
 day:x'.day=x.day
 s:x'.s=x.s
 file:x'.files.getD x.s.file.toNat default = { x.files.getD x.s.file.toNat default with facts:=F }
 more:sq (x.files.getD x.s.file.toNat default) F
theorem ade {x x':cx} {F:List Fact} (h:ab1 x x' F) {c c':Claim} (hk:keyOf c'=keyOf c) (q d:Int):lh (fj x q c d) (fj x' q c' d):=by
 have k4:c'.sign=c.sign:=congrArg (fun k=>k.2.2.2.1) hk
 have k5:c'.c9=c.c9:=congrArg (fun k=>k.2.2.2.2) hk
 have e:∀ (x:cx) c,fj x q c d=fS (nm x.r x.forum q ⟨x.files.getD x.s.file.toNat default,c.sign,c.c9,d,bJ x.r x.forum (x.files.getD x.s.file.toNat default) x.day,x.day⟩):=fun x c=>by kernel_rfl
 rw [e,e,h.r,h.forum,h.day,h.s,h.file,iw x.r x.forum (x.files.getD x.s.file.toNat default) F x.day,k4,k5]
 exact (wU x.r x.forum q c.sign c.c9 d _ x.day h.more).tri
theorem ab2 {x x':cx} {F:List Fact} (h:ab1 x x' F) {c c':Claim} (hk:keyOf c'=keyOf c) {d:Int} (hd:0≤d∧d < 7) (h5:d≠5∧d≠6):lh (cN x c d) (cN x' c' d):=by
 have k4:c'.sign=c.sign:=congrArg (fun k=>k.2.2.2.1) hk
 have key:∀ k,lh ((fun y:aJ=>bif !y.known then 2 else bif y.n == 0 then 1 else 0) (bB (ai (x.files.getD x.s.file.toNat default) x.day) k c.sign)) ((fun y:aJ=>bif !y.known then 2 else bif y.n == 0 then 1 else 0) (bB (ai (x'.files.getD x'.s.file.toNat default) x'.day) k c'.sign)):=fun k=>by
  rw [h.s,h.day,h.file,EZ (x.files.getD x.s.file.toNat default) F x.day,k4]
  have hm:=h.more.at x.day k c.sign
  dsimp only
  cases hc:(bB (ai (x.files.getD x.s.file.toNat default) x.day) k c.sign).known with
  | true=>rw [hm hc,hc]; exact lh.rfl' _
  | false=>exact .op rfl
 have g0:∀ (x:cx) c,cN x c 0=(fun y:aJ=>bif !y.known then 2 else bif y.n == 0 then 1 else 0) (bB (ai (x.files.getD x.s.file.toNat default) x.day) 0 c.sign):=fun x c=>by kernel_rfl
 have g1:∀ (x:cx) c,cN x c 1=(fun y:aJ=>bif !y.known then 2 else bif y.n == 0 then 1 else 0) (bB (ai (x.files.getD x.s.file.toNat default) x.day) 1 c.sign):=fun x c=>by kernel_rfl
 have g2:∀ (x:cx) c,cN x c 2=(fun y:aJ=>bif !y.known then 2 else bif y.n == 0 then 1 else 0) (bB (ai (x.files.getD x.s.file.toNat default) x.day) 2 c.sign):=fun x c=>by kernel_rfl
 have g3:∀ (x:cx) c,cN x c 3=(fun y:aJ=>bif !y.known then 2 else bif y.n == 0 then 1 else 0) (bB (ai (x.files.getD x.s.file.toNat default) x.day) 4 c.sign):=fun x c=>by kernel_rfl
 have g4:∀ (x:cx) c,cN x c 4=(fun y:aJ=>bif !y.known then 2 else bif y.n == 0 then 1 else 0) (bB (ai (x.files.getD x.s.file.toNat default) x.day) 3 c.sign):=fun x c=>by kernel_rfl
 have hd:d=0∨d=1∨d=2∨d=3∨d=4:=by omega
 rcases hd with rfl | rfl | rfl | rfl | rfl
 ·rw [g0,g0]; exact key 0
 ·rw [g1,g1]; exact key 1
 ·rw [g2,g2]; exact key 2
 ·rw [g3,g3]; exact key 4
 ·rw [g4,g4]; exact key 3
theorem Yz {a a':Int} (h:lh a a') (ha:a=0∨a=1∨a=2):lh (kL a) (kL a'):=by
 have e:∀ a,kL a=bif a == 0 then 1 else bif a == 1 then 0 else 2:=fun a=>by kernel_rfl
 rcases ha with rfl | rfl | rfl
 ·rw [h (by decide)]; exact lh.rfl' _
 ·rw [h (by decide)]; exact lh.rfl' _
 ·exact .op (by rw [e]; rfl)
theorem adf {a a' b b':Int} (ha:lh a a') (hb:lh b b'):lh (dN a b) (dN a' b'):=by
 rw [NB,NB,Vr,Vr]
 simp only [List.mem_cons,List.not_mem_nil,or_false]
 intro k
 unfold lh at *
 by_cases z:0=a∨0=b
 ·have z':0=a'∨0=b':=by
   rcases z with z | z
   ·exact .inl (by rw [ha (by omega)]; exact z)
   ·exact .inr (by rw [hb (by omega)]; exact z)
  rw [if_pos z,if_pos z']
 ·rw [if_neg z] at k ⊢
  by_cases t:2=a∨2=b
  ·rw [if_pos t] at k; exact absurd rfl k
  ·rw [ha (by omega),hb (by omega),if_neg z]
def Dt (x:cx) (c:Claim) (d:Int):Int:=kL (dN (cN x c d) (kL (fj x 5 c d)))
theorem adg (a:mb):fS a=0∨fS a=1∨fS a=2:=by
 have e:fS a=bif a.err != 0 then 0 else bif !a.cell.known then 2 else bif a.cell.n != 0 then 1 else 0:=by kernel_rfl
 rw [e]
 cases a.err != 0 <;> cases !a.cell.known <;> cases a.cell.n != 0 <;> simp
theorem QH {x x':cx} {F:List Fact} (h:ab1 x x' F) {c c':Claim} (hk:keyOf c'=keyOf c) {d:Int} (hd:0≤d∧d < 7) (h5:d≠5∧d≠6):lh (Dt x c d) (Dt x' c' d):=by
 unfold Dt
 refine Yz (adf (ab2 h hk hd h5) (Yz (ade h hk 5 d) ?_)) (Ik _ _)
 have e:fj x 5 c d=fS (nm x.r x.forum 5 ⟨x.files.getD x.s.file.toNat default,c.sign,c.c9,d,bJ x.r x.forum (x.files.getD x.s.file.toNat default) x.day,x.day⟩):=by kernel_rfl
 rw [e]; exact adg _
theorem ab3 {a b:Int}:dN a b=0↔a=0∨b=0:=by
 rw [NB,Vr]
 simp only [List.mem_cons,List.not_mem_nil,or_false]
 by_cases z:0=a∨0=b
 ·rw [if_pos z]; exact ⟨fun _=>z.elim (fun e=>.inl e.symm) (fun e=>.inr e.symm),fun _=>rfl⟩
 ·rw [if_neg z]
  refine ⟨fun e=>?_,fun e=>absurd (e.elim (fun e=>.inl e.symm) (fun e=>.inr e.symm)) z⟩
  split at e <;> simp at e
theorem QI (x:cx) (c:Claim):∀ (D:List Int) (st:Int),D.foldl (awf x c) st=0↔st=0∨∃ d,d∈D∧Dt x c d=0
 | [],st=>by simp
 | d :: r,st=>by
  rw [List.foldl_cons,QI x c r]
  unfold awf
  rw [ab3,or_assoc]
  refine or_congr Iff.rfl ?_
  simp only [List.mem_cons]
  constructor
  ·rintro (h | ⟨e,h,k⟩)
   ·exact ⟨d,.inl rfl,h⟩
   ·exact ⟨e,.inr h,k⟩
  ·rintro ⟨e,rfl | h,k⟩
   ·exact .inl k
   ·exact .inr ⟨e,h,k⟩
theorem NT {s:cS} {c c':Claim} (hk:keyOf c'=keyOf c):wS s c'↔wS s c:=by
 unfold keyOf at hk
 simp only [Prod.mk.injEq] at hk
 unfold wS
 rw [hk.1,hk.2.1,hk.2.2.2.1]
theorem ab4 (x:cx) {c:Claim} (h:c.state=1∨c.state=2) (D:List Int):zL x c D=0∨zL x c D=1∨zL x c D=2:=by
 have:∀ (D:List Int) (st:Int),(st=0∨st=1∨st=2)→(D.foldl (awf x c) st=0∨D.foldl (awf x c) st=1∨D.foldl (awf x c) st=2):=by
  intro D
  induction D with
  | nil=>exact fun st h=>h
  | cons d r ih=>exact fun st _=>ih _ (Ik _ _)
 exact this D _ (.inr h)
theorem VE {x x':cx} {F:List Fact} (h:ab1 x x' F) {D:List Int} (hD:∀ d,d∈D→(0≤d∧d < 7)∧d≠5∧d≠6) {l l':List Claim} {cur:Int}
  (hl:∀ i,i < l.length→Gs (l.getD i default)) (KV:∀ i,i < l'.length→Gs (l'.getD i default))
  (g1:∀ c,c∈l→c.state=1→∃ c',c'∈l'∧keyOf c'=keyOf c∧c'.state=1∧c.sum≤c'.sum) (g2:∀ c',c'∈l'→∃ c,c∈l∧keyOf c'=keyOf c) :
  ((sD 0 cur (dx x D l l.length)).state=1→(sD 0 cur (dx x' D l' l'.length)).state=1∧(sD 0 cur (dx x D l l.length)).sum≤(sD 0 cur (dx x' D l' l'.length)).sum) ∧
  ((sD 0 cur (dx x D l l.length)).state=0→sD 0 cur (dx x' D l' l'.length)=sD 0 cur (dx x D l l.length)):=by
 have mg:∀ {l:List Claim} {c:Claim},c∈l→∃ i,i < l.length∧l.getD i default=c:=fun {l c} hc=>by
  obtain ⟨i,hi,rfl⟩:=List.getElem_of_mem hc
  exact ⟨i,hi,by simp [List.getD,hi]⟩
 have gm:∀ {l:List Claim} {i:Nat},i < l.length→l.getD i default∈l:=fun {l i} hi=>by
  rw [List.getD_eq_getElem?_getD,List.getElem?_eq_getElem hi]; exact List.getElem_mem _
 have t1:=Vg x D l 1 l.length
 have t1':=Vg x' D l' 1 l'.length
 have t2:=Vg x D l 2 l.length
 have t2':=Vg x' D l' 2 l'.length
 have yes:∀ i,i < l.length→wS x.s (l.getD i default)→zL x (l.getD i default) D=1→∃ j,j < l'.length∧wS x'.s (l'.getD j default)∧zL x' (l'.getD j default) D=1∧(l.getD i default).sum≤(l'.getD j default).sum:=by
  intro i hi hI hS
  obtain ⟨s1,s2⟩:=(Vf (hl i hi).2 D).1 hS
  obtain ⟨c',m,k,st,su⟩:=g1 _ (gm hi) s1
  obtain ⟨j,hj,rfl⟩:=mg m
  refine ⟨j,hj,by rw [h.s]; exact (NT k).2 hI,(Vf (KV j hj).2 D).2 ⟨st,fun d hd=>?_⟩,su⟩
  have q:=s2 d hd
  have e:=QH h k (hD d hd).1 (hD d hd).2 (show Dt x (l.getD i default) d≠2 from q.2)
  have e:kL (dN (cN x' (l'.getD j default) d) (kL (fj x' 5 (l'.getD j default) d)))=Dt x (l.getD i default) d:=e
  unfold Idle
  rw [e]
  exact q
 constructor
 ·intro hs
  have h1:cT (dx x D l l.length).2 1 false=true:=by
   by_cases h1:cT (dx x D l l.length).2 1 false=true
   ·exact h1
   ·by_cases h2:cT (dx x D l l.length).2 2 false=true
    ·rw [Yn h1 h2] at hs; simp at hs
    ·rw [Ss h1 h2] at hs; simp at hs
  obtain ⟨i,a,b,c⟩:=t1.has.1 h1
  obtain ⟨j,ja,jb,jc,-⟩:=yes i a b c
  have h1':cT (dx x' D l' l'.length).2 1 false=true:=t1'.has.2 ⟨j,ja,jb,jc⟩
  rw [Sr h1,Sr h1']
  refine ⟨rfl,?_⟩
  show cT (dx x D l l.length).1 1 0≤cT (dx x' D l' l'.length).1 1 0
  rcases t1.eq with e | ⟨i,ia,ib,ic,id⟩
  ·have:=t1'.ge; omega
  ·rw [← id]
   obtain ⟨j,ja,jb,jc,jd⟩:=yes i ia ib ic
   have:=t1'.le j ja jb jc
   omega
 ·intro hs
  have h1:¬ cT (dx x D l l.length).2 1 false=true:=fun h1=>by rw [Sr h1] at hs; simp at hs
  have h2:¬ cT (dx x D l l.length).2 2 false=true:=fun h2=>by rw [Yn h1 h2] at hs; simp at hs
  have zero:∀ i,i < l.length→wS x.s (l.getD i default)→zL x (l.getD i default) D=0:=fun i hi hI=>by
   rcases ab4 x (hl i hi).2 D with e | e | e
   ·exact e
   ·exact absurd (t1.has.2 ⟨i,hi,hI,e⟩) h1
   ·exact absurd (t2.has.2 ⟨i,hi,hI,e⟩) h2
  have adN:∀ j,j < l'.length→wS x'.s (l'.getD j default)→zL x' (l'.getD j default) D=0:=fun j hj hI=>by
   obtain ⟨c,m,k⟩:=g2 _ (gm hj)
   obtain ⟨i,hi,rfl⟩:=mg m
   rw [h.s,NT k] at hI
   have z:=zero i hi hI
   unfold zL at z ⊢
   rw [QI] at z ⊢
   rcases z with z | ⟨d,hd,z⟩
   ·have:=(hl i hi).2; omega
   ·refine .inr ⟨d,hd,?_⟩
    rw [QH h k (hD d hd).1 (hD d hd).2 (by rw [z]; decide),z]
  have h1':¬ cT (dx x' D l' l'.length).2 1 false=true:=fun q=>by
   obtain ⟨j,a,b,c⟩:=t1'.has.1 q
   rw [adN j a b] at c
   exact absurd c (by decide)
  have h2':¬ cT (dx x' D l' l'.length).2 2 false=true:=fun q=>by
   obtain ⟨j,a,b,c⟩:=t2'.has.1 q
   rw [adN j a b] at c
   exact absurd c (by decide)
  rw [Ss h1 h2,Ss h1' h2']
def lW (r:ah) (files:List ak) (s:cS) (aB:List Int) (day:Int) (facts:List Fact):Sk (Bool) :=
 .r 1 CM.c fun x1 =>
 .r 2 (.o [.eG (fm cS.E [s])]) fun _ =>
 .r 3 (.dep (((Ij r files [s] []).nil 3 ⟨_,rfl⟩).c) fun x2=>.wh (((((!x2)||(decide (((aB.length:Nat):Int) > 8)))||(decide (((facts.length:Nat):Int) > 60)))||(decide (day < s.day)))||(decide (day > 100000))) false (((iQ r files [s] []).nil 3 ⟨_,rfl⟩).c)) fun p16 =>
 .br ((((((!p16.1)||(decide (((aB.length:Nat):Int) > 8)))||(decide (((facts.length:Nat):Int) > 60)))||(decide (day < s.day)))||(decide (day > 100000)))||(p16.2 != 0))
 (.fin x1)
 (.bind true (fun b4=>∀ q,q < aB.length→(0≤aB.getD q default∧aB.getD q default < 7)∧aB.getD q default≠5∧aB.getD q default≠6)
 (.loop (default:Sum (Bool) (Unit)) (fun i5=>i5≤aB.length∧∀ q,q < i5→(0≤aB.getD q default∧aB.getD q default < 7)∧aB.getD q default≠5∧aB.getD q default≠6) (fun i5=>aB.length - i5) (0:Nat)
 (fun (i5:Nat)=>⟨[(15,iv (i5:Int))],[]⟩) fun i5 =>
 .lt 3 0 i5 aB.length
 (.r 8 (.aj (.p (bU (i5:Int) aB.length)) (.aj (.wh (decide ((aB.getD i5 default) < 0)) false (.p (bU (i5:Int) aB.length))) (.aj (.wh ((decide ((aB.getD i5 default) < 0))||(decide ((aB.getD i5 default)≥7))) false (.p (bU (i5:Int) aB.length))) (.wh (((decide ((aB.getD i5 default) < 0))||(decide ((aB.getD i5 default)≥7)))||((aB.getD i5 default) == 5)) false (.p (bU (i5:Int) aB.length)))))) fun _ =>
 .br ((((decide ((aB.getD i5 default) < 0))||(decide ((aB.getD i5 default)≥7)))||((aB.getD i5 default) == 5))||((aB.getD i5 default) == 6))
 (.fin (.inl (.inl x1)))
 (.nx 7 15 i5 (i5+1)))
 (.fin (.inl (.inr ()))))
 (fun (_:Unit)=>⟨[],[]⟩) fun _ =>
 .r 10 (.aj (.o [.eG (fm ak.E ([]:List ak))]) (.aj (.o [.eG (mY ak.E ([]:List ak) files)]) (.aj (.t (ak.E.src files)) (.p (yE (([]:List ak).length) files.length 216))))) fun _ =>
 .bind true (fun b6=>Ea files b6 s.file.toNat facts.length)
 (.loop (default:Sum (Bool) ((List ak))) (fun i7=>i7.2≤facts.length∧Ea files i7.1 s.file.toNat i7.2) (fun i7=>facts.length - i7.2) ((([]:List ak)++files,0):(List ak) × Nat)
 (fun (i7:(List ak) × Nat)=>⟨[(16,ow 100002 i7.1),(17,iv (i7.2:Int))],[(100002,bw 50 19 ak.cells i7.1)]⟩) fun i7 =>
 .lt 5 0 i7.2 facts.length
 (.r 14 (.aj (.p (bU s.file i7.1.length)) (.aj (.p (s.file.toNat < i7.1.length)) (.aj (.p (bU (i7.2:Int) facts.length)) (.pz ((EW (i7.1.getD s.file.toNat default) (facts.getD i7.2 default)).c) fun x8=>.aj (.p (bU s.file i7.1.length)) (.aj (.o [.eG (uh ak.E i7.1 s.file.toNat x8)]) (.p (s.file.toNat < i7.1.length))))))) fun x8 =>
 .wn 100002 i7.1.length (i7.1.set s.file.toNat x8).length <|
 .nx 13 17 i7.2 (i7.1.set s.file.toNat x8,i7.2+1))
 (.fin (.inl (.inr i7.1))))
 (fun (b6:(List ak))=>⟨[(16,ow 100001 b6)],[(100001,bw 50 19 ak.cells b6)]⟩) fun b6 =>
 .r 15 (.dep ((vp s aB day).c) fun x9=>(pg r files [s] x9 0).c) fun p15 =>
 .r 16 (.dep ((vp s aB day).c) fun x11=>(pg r b6 [s] x11 0).c) fun Mn =>
 .r 17 (((iQ r b6 [s] []).nil 3 ⟨_,rfl⟩).c) fun Ka =>
 .br (Ka != 0)
 (.fin x1)
 (.fin ((((x1&&(p15.2.2 == 0))&&(Mn.2.2 == 0))&&((p15.2.1.state != 1)||((Mn.2.1.state == 1)&&(decide (Mn.2.1.sum≥p15.2.1.sum)))))&&((p15.2.1.state != 0)||((Mn.2.1.aL == p15.2.1.aL)&&((Mn.2.1.sum == p15.2.1.sum)&&((Mn.2.1.au == p15.2.1.au)&&((Mn.2.1.state == p15.2.1.state)&&true))))))))
def pV r files s aB day facts:=(lW r files s aB day facts).val
theorem xO (r:ah) (files:List ak) (s:cS) (aB:List Int) (day:Int) (facts:List Fact):(lW r files s aB day facts).dj (fun (x:Bool)=>x=true):=by
 refine Sk.bz _ ?_
 unfold lW
 simp only [Sk.de,Sk.aI,reduceCtorEq,ON,kk,kp,Ij,vp,CM,EW,pg,iQ,maxLen]
 have nx:∀ {p:Nat→Prop} {i:Nat},(∀ q,q < i→p q)→p i→∀ q,q < i+1→p q:=fun h h0 q hq=>by
  rcases Nat.lt_succ_iff_lt_or_eq.1 hq with h1 | rfl
  ·exact h q h1
  ·exact h0
 simp only [LN]
 intro x1 _ KD _ p hp ab5
 refine ⟨fun _=>KD,fun hc=>⟨⟨⟨Nat.zero_le _,fun q hq=>absurd hq (by omega)⟩,fun i hi=>⟨fun gI _=>⟨fun _=>KD,fun h _=>⟨⟨by omega,nx hi.2 ⟨h.1.1,h.1.2,h.2⟩⟩,by omega⟩⟩,fun SK q hq=>hi.2 q (by omega)⟩⟩,fun _ hD _=>⟨⟨⟨Nat.zero_le _,Ea.init files _⟩,fun i hi=>⟨fun gI x hx _=>⟨⟨by omega,by rw [hx]; exact hi.2.step _⟩,by omega⟩,fun SK=>?_⟩⟩,fun b hb x4 h4 _ x5 h5 _ x6 h6 hx6=>⟨fun _=>KD,fun hz=>?_⟩⟩⟩⟩
 ·have e:i.2=facts.length:=by omega
  have:=hi.2
  rwa [e] at this
 obtain ⟨⟨⟨⟨⟨f1,f2⟩,f2b⟩,f3⟩,f4⟩,f5⟩:=hc
 obtain ⟨r1,r2,r3,r4,r5,r6⟩:=ab5.1 f1
 obtain ⟨c1,c2,c3⟩:=ab5.2.1 f5
 obtain ⟨c1',c2',c3'⟩:=hx6.1 hz
 have hck:nP r files [s] []=0:=by rw [hp] at f5; exact f5
 have aij:nP r b [s] []=0:=by rw [← h6]; exact hz
 have hS:sM r files.length s:=c3 0 (by omega)
 have abI:0≤s.file∧s.file < (files.length:Int):=by unfold sM at hS; omega
 have hF:cb r (files.getD s.file.toNat default):=(lE r _ r5 (c2 s.file.toNat (by omega))).1
 obtain ⟨b1,b2,b3⟩:=hb
 have hF':cb r (b.getD s.file.toNat default):=(lE r _ r5 (c2' s.file.toNat (by omega))).1
 obtain ⟨⟨F,hFe,hm⟩,-⟩:=b3 (by omega)
 rw [hFe] at hF'
 have hDm:∀ d,d∈aB→(0≤d∧d < 7)∧d≠5∧d≠6:=by
  intro d hd
  obtain ⟨q,hq,rfl⟩:=List.getElem_of_mem hd
  have:=hD q hq
  rwa [List.getD_eq_getElem?_getD,List.getElem?_eq_getElem hq] at this
 have v4:x4.2=(awT r files s 0 day (counts (s.kind == 1) aB),0):=by
  rw [h4,show AP s aB day=PF s aB day from Ba s aB day]
  exact Qx hck (by omega) f3 f4 (fun d hd=>(hDm d hd).1)
 have v5:x5.2=(awT r b s 0 day (counts (s.kind == 1) aB),0):=by
  rw [h5,show AP s aB day=PF s aB day from Ba s aB day]
  exact Qx aij (by omega) f3 f4 (fun d hd=>(hDm d hd).1)
 have aik:ab1 (xL r files s day) (xL r b s day) F:=⟨rfl,rfl,rfl,rfl,hFe,hm⟩
 obtain ⟨g1,g2⟩:=VD (forum:=s.forum) (day:=day) hm hF hF' r4
 have AU:∀ f,cb r f→∀ i,i < (cG r s.forum f day).length→Gs ((cG r s.forum f day).getD i default):=by
  intro f hf i hi
  refine abL (r:=r) (forum:=s.forum) (day:=day) hf r4 ?_
  rw [List.getD_eq_getElem?_getD,List.getElem?_eq_getElem hi]
  exact List.getElem_mem _
 have K:=VE aik (D:=counts (s.kind == 1) aB) (cur:=(files.getD s.file.toNat default).aU.au) (fun d hd=>hDm d (List.mem_filter.1 hd).1) (AU _ hF) (AU _ hF') g1 g2
 have eb:awT r b s 0 day (counts (s.kind == 1) aB)=sD 0 (files.getD s.file.toNat default).aU.au (dx (xL r b s day) (counts (s.kind == 1) aB) (cG r s.forum { files.getD s.file.toNat default with facts:=F } day) (cG r s.forum { files.getD s.file.toNat default with facts:=F } day).length):=by
  unfold awT
  rw [hFe]
 rw [v4,v5,eb]
 have ea:awT r files s 0 day (counts (s.kind == 1) aB)=sD 0 (files.getD s.file.toNat default).aU.au (dx (xL r files s day) (counts (s.kind == 1) aB) (cG r s.forum (files.getD s.file.toNat default) day) (cG r s.forum (files.getD s.file.toNat default) day).length):=rfl
 rw [ea]
 obtain ⟨K1,K2⟩:=K
 refine ⟨⟨⟨⟨KD,rfl⟩,rfl⟩,?_⟩,?_⟩
 ·by_cases hs:(sD 0 (files.getD s.file.toNat default).aU.au (dx (xL r files s day) (counts (s.kind == 1) aB) (cG r s.forum (files.getD s.file.toNat default) day) (cG r s.forum (files.getD s.file.toNat default) day).length)).state=1
  ·exact .inr ⟨(K1 hs).1,(K1 hs).2⟩
  ·exact .inl hs
 ·by_cases hs:(sD 0 (files.getD s.file.toNat default).aU.au (dx (xL r files s day) (counts (s.kind == 1) aB) (cG r s.forum (files.getD s.file.toNat default) day) (cG r s.forum (files.getD s.file.toNat default) day).length)).state=0
  ·right
   rw [K2 hs]
   exact ⟨rfl,rfl,rfl,rfl,trivial⟩
  ·exact .inl hs
theorem E1 (r:ah) (files:List ak) (s:cS) (aB:List Int) (day:Int) (facts:List Fact):(fun (x:Bool)=>x=true) (pV r files s aB day facts):=have h:=Sk.dk _ (xO r files s aB day facts); h
theorem Ip (r:ah) (files:List ak) (s:cS) (aB:List Int) (day:Int) (facts:List Fact):(lW r files s aB day facts).bC (fun _=>True):=by
 refine Sk.aR _ ?_
 unfold lW
 simp only [Sk.ju,Sk.aI,reduceCtorEq,ON,kk,kp,Ij,vp,CM,EW,pg,iQ,maxLen]
 have nx:∀ {p:Nat→Prop} {i:Nat},(∀ q,q < i→p q)→p i→∀ q,q < i+1→p q:=fun h h0 q hq=>by
  rcases Nat.lt_succ_iff_lt_or_eq.1 hq with h1 | rfl
  ·exact h q h1
  ·exact h0
 have wi:∀ n m:Nat,n < m→m≤9223372036854775807→ar ((n:Int)+1)=((n+1:Nat):Int):=fun n m h h0=>by rw [aA (by omega) (by omega)]; omega
 simp only [LN]
 intro x1 _ KD _
 refine ⟨fun y _ hy h=>(hy h.1.1.1.1).1,fun p hp ab5 hc=>?_⟩
 obtain ⟨⟨⟨⟨⟨f1,f2⟩,f2b⟩,f3⟩,f4⟩,f5⟩:=hc
 obtain ⟨r1,r2,r3,r4,r5,r6⟩:=ab5.1 f1
 obtain ⟨c1,c2,c3⟩:=ab5.2.1 f5
 have hS:sM r files.length s:=c3 0 (by omega)
 have abI:0≤s.file∧s.file < (files.length:Int):=by unfold sM at hS; omega
 have hF:cb r (files.getD s.file.toNat default):=(lE r _ r5 (c2 s.file.toNat (by omega))).1
 have hsm:∀ (n:Nat) (b:List ak),Ea files b s.file.toNat n→n≤60→b.length=files.length∧(b.getD s.file.toNat default).facts.length≤1000000∧∀ q,q < b.length→(b.getD q default).Small:=by
  intro n b ⟨b1,b2,b3⟩ hn
  obtain ⟨⟨F,hFe,-⟩,hlen⟩:=b3 (by omega)
  have hfa:=hF.2.1.2.2.2.2
  refine ⟨b1,by omega,fun q hq=>?_⟩
  by_cases e:q=s.file.toNat
  ·subst e
   have:=r6 c1.1 s.file.toNat (by omega)
   unfold ak.Small at this ⊢
   rw [hFe] at hlen ⊢
   dsimp only at hlen ⊢
   omega
  ·rw [b2 q e]; exact r6 c1.1 q (by omega)
 refine ⟨⟨⟨Nat.zero_le _,fun q hq=>absurd hq (by omega)⟩,fun i hi hm=>⟨fun gI=>⟨⟨⟨by omega,by omega⟩,fun _=>⟨by omega,by omega⟩,fun _=>⟨by omega,by omega⟩,fun _=>⟨by omega,by omega⟩⟩,fun _ h _=>⟨wi _ _ (by omega) hm,⟨by omega,nx hi.2 ⟨h.1.1,h.1.2,h.2⟩⟩,by omega⟩⟩,fun SK q hq=>hi.2 q (by omega)⟩⟩,fun _ hD=>⟨⟨by omega,by omega⟩,fun _=>⟨⟨⟨Nat.zero_le _,Ea.init files _⟩,fun i hi hm=>?_⟩,fun b hb=>⟨⟨by omega,fun _ _ _=>⟨r1,r2,r3,r4,r5,r6⟩⟩,fun x4 _ _=>⟨⟨by omega,fun _ _ _=>⟨r1,r2,r3,r4,r5,fun _=>(hsm _ b hb (by omega)).2.2⟩⟩,fun x5 _ _=>r1⟩⟩⟩⟩⟩
 obtain ⟨l1,l2,-⟩:=hsm i.2 i.1 hi.2 (by omega)
 refine ⟨fun gI=>⟨⟨⟨by omega,by omega⟩,by omega,⟨by omega,by omega⟩,l2,fun x _=>⟨⟨by omega,by omega⟩,by omega⟩⟩,fun x hx=>⟨by trivial,fun _=>⟨wi _ _ (by omega) hm,⟨by omega,by rw [hx]; exact hi.2.step _⟩,by omega⟩⟩⟩,fun SK=>?_⟩
 have e:i.2=facts.length:=by omega
 have:=hi.2
 rwa [e] at this
def Kr r files s aB day facts:=kp tok mixed Tryz.func3 [av r.cells,lv ak.cells files,av s.cells,lv bI aB,iv day,lv Fact.cells facts] (fun x=>bv x) true (pV r files s aB day facts) (u0 (Ip r files s aB day facts)) (xO r files s aB day facts)
theorem Iq (r:ah) (files:List ak) (s:cS) (aB:List Int) (day:Int) (facts:List Fact):gR Tryz.prog 3 [av r.cells,lv ak.cells files,av s.cells,lv bI aB,iv day,lv Fact.cells facts] [] (bv (pV r files s aB day facts)) []:=(Kr r files s aB day facts).pf trivial
theorem SI {ds:List D} (h:eI TT 9 ds):∃ c:ByteArray,aP ds (ki c)∧(fun s:ByteArray=>s.size≤maxLen) c:=by
 obtain ⟨x,rfl,w⟩:=h.acr rfl rfl
 exact ⟨x,aP.refl _,w⟩
theorem aeT {ds:List D} (h:eI TT 22 ds):∃ l:List ByteArray,aP ds [nJ ki l]∧(fun l=>∀ x,x∈l→(fun s:ByteArray=>s.size≤maxLen) x) l:=by
 obtain ⟨n,f,rfl,g⟩:=h.eV rfl rfl
 obtain ⟨l,y,-,w⟩:=jJ ki (fun s:ByteArray=>s.size≤maxLen) (fun ds h=>SI h) g
 exact ⟨l,aP.one y,w⟩
theorem bT {ds:List D} (h:eI TT 3 ds):∃ c:Int,aP ds (bI c)∧(fun n=>dP n) c:=by
 obtain ⟨x,rfl,w⟩:=h.KE rfl rfl
 exact ⟨x,aP.refl _,acs w⟩
theorem Xt {ds:List D} (h:eI TT 35 ds):∃ l:List Int,aP ds [nJ bI l]∧(fun l=>∀ x,x∈l→(fun n=>dP n) x) l:=by
 obtain ⟨n,f,rfl,g⟩:=h.eV rfl rfl
 obtain ⟨l,y,-,w⟩:=jJ bI (fun n=>dP n) (fun ds h=>bT h) g
 exact ⟨l,aP.one y,w⟩
structure kP.ok (c:kP):Prop where
 name:(fun s:ByteArray=>s.size≤maxLen) c.name
 order:(fun n=>dP n) c.order
 au:(fun n=>dP n) c.au
 rest:(fun l=>∀ x,x∈l→(fun n=>dP n) x) c.rest
 gT:(fun l=>∀ x,x∈l→(fun n=>dP n) x) c.gT
 shut:(fun l=>∀ x,x∈l→(fun n=>dP n) x) c.shut
theorem kP.of {ds:List D} (h:eI TT 124 ds):∃ c:kP,aP ds c.cells∧c.ok:=by
 have q0:=h.dE rfl rfl
 obtain ⟨p0,r0,rfl,h0,q1⟩:=q0.cons_inv
 obtain ⟨x0,y0,w0⟩:=SI h0
 obtain ⟨p1,r1,rfl,h1,q2⟩:=q1.cons_inv
 obtain ⟨x1,y1,w1⟩:=bT h1
 obtain ⟨p2,r2,rfl,h2,q3⟩:=q2.cons_inv
 obtain ⟨x2,y2,w2⟩:=bT h2
 obtain ⟨p3,r3,rfl,h3,q4⟩:=q3.cons_inv
 obtain ⟨x3,y3,w3⟩:=Xt h3
 obtain ⟨p4,r4,rfl,h4,q5⟩:=q4.cons_inv
 obtain ⟨x4,y4,w4⟩:=Xt h4
 obtain ⟨p5,r5,rfl,h5,q6⟩:=q5.cons_inv
 obtain ⟨x5,y5,w5⟩:=Xt h5
 cases q6.jI
 refine ⟨⟨x0,x1,x2,x3,x4,x5⟩,?_,⟨w0,w1,w2,w3,w4,w5⟩⟩
 have hh:=(aP.append y0 (aP.append y1 (aP.append y2 (aP.append y3 (aP.append y4 (aP.append y5 aP.nil))))))
 simpa only [kP.cells,bI,ki,rC,List.append_assoc,List.cons_append,List.nil_append,List.append_nil] using hh
theorem aeU {ds:List D} (h:eI TT 23 ds):∃ l:List kP,aP ds [nJ kP.cells l]∧(fun l=>∀ x,x∈l→kP.ok x) l:=by
 obtain ⟨n,f,rfl,g⟩:=h.eV rfl rfl
 obtain ⟨l,y,-,w⟩:=jJ kP.cells kP.ok (fun ds h=>kP.of h) g
 exact ⟨l,aP.one y,w⟩
structure pA.ok (c:pA):Prop where
 Uc:(fun n=>dP n) c.Uc
theorem pA.of {ds:List D} (h:eI TT 127 ds):∃ c:pA,aP ds c.cells∧c.ok:=by
 have q0:=h.dE rfl rfl
 obtain ⟨p0,r0,rfl,h0,q1⟩:=q0.cons_inv
 obtain ⟨x0,y0,w0⟩:=bT h0
 cases q1.jI
 refine ⟨⟨x0⟩,?_,⟨w0⟩⟩
 have hh:=(aP.append y0 aP.nil)
 simpa only [pA.cells,bI,ki,rC,List.append_assoc,List.cons_append,List.nil_append,List.append_nil] using hh
theorem aeV {ds:List D} (h:eI TT 24 ds):∃ l:List pA,aP ds [nJ pA.cells l]∧(fun l=>∀ x,x∈l→pA.ok x) l:=by
 obtain ⟨n,f,rfl,g⟩:=h.eV rfl rfl
 obtain ⟨l,y,-,w⟩:=jJ pA.cells pA.ok (fun ds h=>pA.of h) g
 exact ⟨l,aP.one y,w⟩
structure DA.ok (c:DA):Prop where
 name:(fun s:ByteArray=>s.size≤maxLen) c.name
 cH:(fun n=>dP n) c.cH
 group:(fun n=>dP n) c.group
theorem DA.of {ds:List D} (h:eI TT 129 ds):∃ c:DA,aP ds c.cells∧c.ok:=by
 have q0:=h.dE rfl rfl
 obtain ⟨p0,r0,rfl,h0,q1⟩:=q0.cons_inv
 obtain ⟨x0,y0,w0⟩:=SI h0
 obtain ⟨p1,r1,rfl,h1,q2⟩:=q1.cons_inv
 obtain ⟨x1,y1,w1⟩:=bT h1
 obtain ⟨p2,r2,rfl,h2,q3⟩:=q2.cons_inv
 obtain ⟨x2,y2,w2⟩:=bT h2
 cases q3.jI
 refine ⟨⟨x0,x1,x2⟩,?_,⟨w0,w1,w2⟩⟩
 have hh:=(aP.append y0 (aP.append y1 (aP.append y2 aP.nil)))
 simpa only [DA.cells,bI,ki,rC,List.append_assoc,List.cons_append,List.nil_append,List.append_nil] using hh
theorem aeW {ds:List D} (h:eI TT 25 ds):∃ l:List DA,aP ds [nJ DA.cells l]∧(fun l=>∀ x,x∈l→DA.ok x) l:=by
 obtain ⟨n,f,rfl,g⟩:=h.eV rfl rfl
 obtain ⟨l,y,-,w⟩:=jJ DA.cells DA.ok (fun ds h=>DA.of h) g
 exact ⟨l,aP.one y,w⟩
theorem YA {ds:List D} (h:eI TT 4 ds):∃ c:Bool,aP ds (rC c)∧True:=by
 obtain ⟨x,rfl⟩:=h.aaL rfl rfl
 exact ⟨x,aP.refl _,trivial⟩
structure Choice.ok (c:Choice):Prop where
 ask:(fun n=>dP n) c.ask
 c9:(fun n=>dP n) c.c9
 whole:(fun _=>True) c.whole
theorem Choice.of {ds:List D} (h:eI TT 166 ds):∃ c:Choice,aP ds c.cells∧c.ok:=by
 have q0:=h.dE rfl rfl
 obtain ⟨p0,r0,rfl,h0,q1⟩:=q0.cons_inv
 obtain ⟨x0,y0,w0⟩:=bT h0
 obtain ⟨p1,r1,rfl,h1,q2⟩:=q1.cons_inv
 obtain ⟨x1,y1,w1⟩:=bT h1
 obtain ⟨p2,r2,rfl,h2,q3⟩:=q2.cons_inv
 obtain ⟨x2,y2,w2⟩:=YA h2
 cases q3.jI
 refine ⟨⟨x0,x1,x2⟩,?_,⟨w0,w1,w2⟩⟩
 have hh:=(aP.append y0 (aP.append y1 (aP.append y2 aP.nil)))
 simpa only [Choice.cells,bI,ki,rC,List.append_assoc,List.cons_append,List.nil_append,List.append_nil] using hh
theorem adh {ds:List D} (h:eI TT 118 ds):∃ l:List Choice,aP ds [nJ Choice.cells l]∧(fun l=>∀ x,x∈l→Choice.ok x) l:=by
 obtain ⟨n,f,rfl,g⟩:=h.eV rfl rfl
 obtain ⟨l,y,-,w⟩:=jJ Choice.cells Choice.ok (fun ds h=>Choice.of h) g
 exact ⟨l,aP.one y,w⟩
theorem Term.adi {t:Nat} {ds:List D} (h:eI TT t ds):(t=159→∃ c:Term,aP ds c.l8)∧(t=157→∃ l:List Term,aP ds [nJ Term.l8 l]):=by
 refine eI.rec (motive_1:=fun t ds _=>(t=159→∃ c:Term,aP ds c.l8)∧(t=157→∃ l:List Term,aP ds [nJ Term.l8 l]))
  (motive_2:=fun ts ds _=>(ts=[]→ds=[])∧(ts=[157]→∃ l:List Term,aP ds [nJ Term.l8 l])∧(ts=[3,157]→∃ (n:Int) (l:List Term),aP ds [dI n,nJ Term.l8 l])∧(ts=[3,3,157]→∃ (m n:Int) (l:List Term),aP ds [dI m,dI n,nJ Term.l8 l])) ?_ ?_ ?_ ?_ ?_ ?_ ?_ h
 ·intro t i k hi hk n hw
  exact ⟨fun e=>(by subst e; cases hi; cases hk),fun e=>(by subst e; cases hi; cases hk)⟩
 ·intro t i hi hk b
  exact ⟨fun e=>(by subst e; cases hi; cases hk),fun e=>(by subst e; cases hi; cases hk)⟩
 ·intro t i hi hk s hw
  exact ⟨fun e=>(by subst e; cases hi; cases hk),fun e=>(by subst e; cases hi; cases hk)⟩
 ·intro t e i hi hk n f hh ih
  refine ⟨fun e=>(by subst e; cases hi; cases hk),fun e=>?_⟩
  subst e
  cases hi
  cases hk
  classical
  let g:Nat→Term:=fun j=>if hj:j < n then ((ih j hj).1 rfl).choose else default
  have hg:∀ j,j < n→aP (f j) (g j).l8:=fun j hj=>by
   simp only [g,hj,dif_pos]
   exact ((ih j hj).1 rfl).choose_spec
  refine ⟨(List.range n).map g,aP.one ?_⟩
  have e:nJ Term.l8 ((List.range n).map g)=.sl n fun i=>Term.l8 (((List.range n).map g).getD i default):=by simp [nJ]
  rw [e]
  refine ue.adt fun i hi=>?_
  have:((List.range n).map g).getD i default=g i:=by simp [List.getD,hi]
  rw [this]
  exact hg i hi
 ·intro t i fs hi hk ds hs ih
  refine ⟨fun e=>?_,fun e=>(by subst e; cases hi; cases hk)⟩
  subst e
  cases hi
  cases hk
  obtain ⟨m,n,l,hl⟩:=ih.2.2.2 rfl
  refine ⟨⟨m,n,l⟩,?_⟩
  have h2:=(Term.Ue ⟨m,n,l⟩).2
  have:aP [dI m,dI n,nJ Term.l8 l] (Term.l8 ⟨m,n,l⟩):=aP.cons ue.rfl' (aP.cons ue.rfl' (aP.one h2))
  exact ⟨hl.1.trans this.1,fun j hj=>(hl.2 j hj).trans (this.2 j (by rw [← hl.1]; exact hj))⟩
 ·exact ⟨fun _=>rfl,fun e=>(by cases e),fun e=>(by cases e),fun e=>(by cases e)⟩
 ·intro t ts p ds hp hs ih1 ih2
  refine ⟨fun e=>(by cases e),fun e=>?_,fun e=>?_,fun e=>?_⟩
  ·cases e
   obtain ⟨l,hl⟩:=ih1.2 rfl
   have:=ih2.1 rfl
   subst this
   exact ⟨l,by simpa using hl⟩
  ·cases e
   obtain ⟨x,rfl,w⟩:=hp.KE rfl rfl
   obtain ⟨l,hl⟩:=ih2.2.1 rfl
   exact ⟨x,l,aP.append (aP.refl _) hl⟩
  ·cases e
   obtain ⟨x,rfl,w⟩:=hp.KE rfl rfl
   obtain ⟨n,l,hl⟩:=ih2.2.2.1 rfl
   exact ⟨x,n,l,aP.append (aP.refl _) hl⟩
theorem Term.ofR {ds:List D} (h:eI TT 159 ds):∃ c:Term,aP ds c.l8∧True:=by
 obtain ⟨c,hc⟩:=(Term.adi h).1 rfl
 exact ⟨c,hc,trivial⟩
theorem Term.of {ds:List D} (h:eI TT 159 ds):∃ c:Term,aP ds c.cells∧True:=by
 obtain ⟨c,hc,_⟩:=Term.ofR h
 have hu:=c.LQ
 exact ⟨c,⟨hc.1.trans hu.1,fun j hj=>(hc.2 j hj).trans (hu.2 j (by rw [← hc.1]; exact hj))⟩,trivial⟩
structure vU.ok (c:vU):Prop where
 ask:(fun n=>dP n) c.ask
 term:(fun _=>True) c.term
theorem vU.of {ds:List D} (h:eI TT 161 ds):∃ c:vU,aP ds c.cells∧c.ok:=by
 have q0:=h.dE rfl rfl
 obtain ⟨p0,r0,rfl,h0,q1⟩:=q0.cons_inv
 obtain ⟨x0,y0,w0⟩:=bT h0
 obtain ⟨p1,r1,rfl,h1,q2⟩:=q1.cons_inv
 obtain ⟨x1,y1,w1⟩:=Term.of h1
 cases q2.jI
 refine ⟨⟨x0,x1⟩,?_,⟨w0,w1⟩⟩
 have hh:=(aP.append y0 (aP.append y1 aP.nil))
 simpa only [vU.cells,bI,ki,rC,List.append_assoc,List.cons_append,List.nil_append,List.append_nil] using hh
theorem adj {ds:List D} (h:eI TT 119 ds):∃ l:List vU,aP ds [nJ vU.cells l]∧(fun l=>∀ x,x∈l→vU.ok x) l:=by
 obtain ⟨n,f,rfl,g⟩:=h.eV rfl rfl
 obtain ⟨l,y,-,w⟩:=jJ vU.cells vU.ok (fun ds h=>vU.of h) g
 exact ⟨l,aP.one y,w⟩
structure Order.ok (c:Order):Prop where
 name:(fun s:ByteArray=>s.size≤maxLen) c.name
 KG:(fun _=>True) c.KG
 ba:(fun l=>∀ x,x∈l→Choice.ok x) c.ba
 rules:(fun l=>∀ x,x∈l→vU.ok x) c.rules
theorem Order.of {ds:List D} (h:eI TT 121 ds):∃ c:Order,aP ds c.cells∧c.ok:=by
 have q0:=h.dE rfl rfl
 obtain ⟨p0,r0,rfl,h0,q1⟩:=q0.cons_inv
 obtain ⟨x0,y0,w0⟩:=SI h0
 obtain ⟨p1,r1,rfl,h1,q2⟩:=q1.cons_inv
 obtain ⟨x1,y1,w1⟩:=YA h1
 obtain ⟨p2,r2,rfl,h2,q3⟩:=q2.cons_inv
 obtain ⟨x2,y2,w2⟩:=adh h2
 obtain ⟨p3,r3,rfl,h3,q4⟩:=q3.cons_inv
 obtain ⟨x3,y3,w3⟩:=adj h3
 cases q4.jI
 refine ⟨⟨x0,x1,x2,x3⟩,?_,⟨w0,w1,w2,w3⟩⟩
 have hh:=(aP.append y0 (aP.append y1 (aP.append y2 (aP.append y3 aP.nil))))
 simpa only [Order.cells,bI,ki,rC,List.append_assoc,List.cons_append,List.nil_append,List.append_nil] using hh
theorem aeX {ds:List D} (h:eI TT 26 ds):∃ l:List Order,aP ds [nJ Order.cells l]∧(fun l=>∀ x,x∈l→Order.ok x) l:=by
 obtain ⟨n,f,rfl,g⟩:=h.eV rfl rfl
 obtain ⟨l,y,-,w⟩:=jJ Order.cells Order.ok (fun ds h=>Order.of h) g
 exact ⟨l,aP.one y,w⟩
structure ev.ok (c:ev):Prop where
 from_:(fun n=>dP n) c.from_
 cM:(fun n=>dP n) c.cM
 days:(fun n=>dP n) c.days
theorem ev.of {ds:List D} (h:eI TT 131 ds):∃ c:ev,aP ds c.cells∧c.ok:=by
 have q0:=h.dE rfl rfl
 obtain ⟨p0,r0,rfl,h0,q1⟩:=q0.cons_inv
 obtain ⟨x0,y0,w0⟩:=bT h0
 obtain ⟨p1,r1,rfl,h1,q2⟩:=q1.cons_inv
 obtain ⟨x1,y1,w1⟩:=bT h1
 obtain ⟨p2,r2,rfl,h2,q3⟩:=q2.cons_inv
 obtain ⟨x2,y2,w2⟩:=bT h2
 cases q3.jI
 refine ⟨⟨x0,x1,x2⟩,?_,⟨w0,w1,w2⟩⟩
 have hh:=(aP.append y0 (aP.append y1 (aP.append y2 aP.nil)))
 simpa only [ev.cells,bI,ki,rC,List.append_assoc,List.cons_append,List.nil_append,List.append_nil] using hh
theorem aeY {ds:List D} (h:eI TT 27 ds):∃ l:List ev,aP ds [nJ ev.cells l]∧(fun l=>∀ x,x∈l→ev.ok x) l:=by
 obtain ⟨n,f,rfl,g⟩:=h.eV rfl rfl
 obtain ⟨l,y,-,w⟩:=jJ ev.cells ev.ok (fun ds h=>ev.of h) g
 exact ⟨l,aP.one y,w⟩
structure qU.ok (c:qU):Prop where
 from_:(fun n=>dP n) c.from_
 cM:(fun n=>dP n) c.cM
 num:(fun n=>dP n) c.num
 den:(fun n=>dP n) c.den
 since:(fun n=>dP n) c.since
theorem qU.of {ds:List D} (h:eI TT 133 ds):∃ c:qU,aP ds c.cells∧c.ok:=by
 have q0:=h.dE rfl rfl
 obtain ⟨p0,r0,rfl,h0,q1⟩:=q0.cons_inv
 obtain ⟨x0,y0,w0⟩:=bT h0
 obtain ⟨p1,r1,rfl,h1,q2⟩:=q1.cons_inv
 obtain ⟨x1,y1,w1⟩:=bT h1
 obtain ⟨p2,r2,rfl,h2,q3⟩:=q2.cons_inv
 obtain ⟨x2,y2,w2⟩:=bT h2
 obtain ⟨p3,r3,rfl,h3,q4⟩:=q3.cons_inv
 obtain ⟨x3,y3,w3⟩:=bT h3
 obtain ⟨p4,r4,rfl,h4,q5⟩:=q4.cons_inv
 obtain ⟨x4,y4,w4⟩:=bT h4
 cases q5.jI
 refine ⟨⟨x0,x1,x2,x3,x4⟩,?_,⟨w0,w1,w2,w3,w4⟩⟩
 have hh:=(aP.append y0 (aP.append y1 (aP.append y2 (aP.append y3 (aP.append y4 aP.nil)))))
 simpa only [qU.cells,bI,ki,rC,List.append_assoc,List.cons_append,List.nil_append,List.append_nil] using hh
theorem aeZ {ds:List D} (h:eI TT 28 ds):∃ l:List qU,aP ds [nJ qU.cells l]∧(fun l=>∀ x,x∈l→qU.ok x) l:=by
 obtain ⟨n,f,rfl,g⟩:=h.eV rfl rfl
 obtain ⟨l,y,-,w⟩:=jJ qU.cells qU.ok (fun ds h=>qU.of h) g
 exact ⟨l,aP.one y,w⟩
structure Halt.ok (c:Halt):Prop where
 order:(fun n=>dP n) c.order
 from_:(fun n=>dP n) c.from_
 cM:(fun n=>dP n) c.cM
theorem Halt.of {ds:List D} (h:eI TT 135 ds):∃ c:Halt,aP ds c.cells∧c.ok:=by
 have q0:=h.dE rfl rfl
 obtain ⟨p0,r0,rfl,h0,q1⟩:=q0.cons_inv
 obtain ⟨x0,y0,w0⟩:=bT h0
 obtain ⟨p1,r1,rfl,h1,q2⟩:=q1.cons_inv
 obtain ⟨x1,y1,w1⟩:=bT h1
 obtain ⟨p2,r2,rfl,h2,q3⟩:=q2.cons_inv
 obtain ⟨x2,y2,w2⟩:=bT h2
 cases q3.jI
 refine ⟨⟨x0,x1,x2⟩,?_,⟨w0,w1,w2⟩⟩
 have hh:=(aP.append y0 (aP.append y1 (aP.append y2 aP.nil)))
 simpa only [Halt.cells,bI,ki,rC,List.append_assoc,List.cons_append,List.nil_append,List.append_nil] using hh
theorem ae0 {ds:List D} (h:eI TT 29 ds):∃ l:List Halt,aP ds [nJ Halt.cells l]∧(fun l=>∀ x,x∈l→Halt.ok x) l:=by
 obtain ⟨n,f,rfl,g⟩:=h.eV rfl rfl
 obtain ⟨l,y,-,w⟩:=jJ Halt.cells Halt.ok (fun ds h=>Halt.of h) g
 exact ⟨l,aP.one y,w⟩
structure ah.ok (c:ah):Prop where
 cz:(fun l=>∀ x,x∈l→(fun s:ByteArray=>s.size≤maxLen) x) c.cz
 aN:(fun l=>∀ x,x∈l→kP.ok x) c.aN
 gh:(fun l=>∀ x,x∈l→pA.ok x) c.gh
 bu:(fun l=>∀ x,x∈l→DA.ok x) c.bu
 aE:(fun l=>∀ x,x∈l→Order.ok x) c.aE
 bg:(fun l=>∀ x,x∈l→ev.ok x) c.bg
 bV:(fun l=>∀ x,x∈l→qU.ok x) c.bV
 eR:(fun l=>∀ x,x∈l→Halt.ok x) c.eR
theorem ah.of {ds:List D} (h:eI TT 31 ds):∃ c:ah,aP ds c.cells∧c.ok:=by
 have q0:=h.dE rfl rfl
 obtain ⟨p0,r0,rfl,h0,q1⟩:=q0.cons_inv
 obtain ⟨x0,y0,w0⟩:=aeT h0
 obtain ⟨p1,r1,rfl,h1,q2⟩:=q1.cons_inv
 obtain ⟨x1,y1,w1⟩:=aeU h1
 obtain ⟨p2,r2,rfl,h2,q3⟩:=q2.cons_inv
 obtain ⟨x2,y2,w2⟩:=aeV h2
 obtain ⟨p3,r3,rfl,h3,q4⟩:=q3.cons_inv
 obtain ⟨x3,y3,w3⟩:=aeW h3
 obtain ⟨p4,r4,rfl,h4,q5⟩:=q4.cons_inv
 obtain ⟨x4,y4,w4⟩:=aeX h4
 obtain ⟨p5,r5,rfl,h5,q6⟩:=q5.cons_inv
 obtain ⟨x5,y5,w5⟩:=aeY h5
 obtain ⟨p6,r6,rfl,h6,q7⟩:=q6.cons_inv
 obtain ⟨x6,y6,w6⟩:=aeZ h6
 obtain ⟨p7,r7,rfl,h7,q8⟩:=q7.cons_inv
 obtain ⟨x7,y7,w7⟩:=ae0 h7
 cases q8.jI
 refine ⟨⟨x0,x1,x2,x3,x4,x5,x6,x7⟩,?_,⟨w0,w1,w2,w3,w4,w5,w6,w7⟩⟩
 have hh:=(aP.append y0 (aP.append y1 (aP.append y2 (aP.append y3 (aP.append y4 (aP.append y5 (aP.append y6 (aP.append y7 aP.nil))))))))
 simpa only [ah.cells,bI,ki,rC,List.append_assoc,List.cons_append,List.nil_append,List.append_nil] using hh
structure sy.ok (c:sy):Prop where
 kind:(fun n=>dP n) c.kind
 n:(fun n=>dP n) c.n
 unit:(fun n=>dP n) c.unit
theorem sy.of {ds:List D} (h:eI TT 43 ds):∃ c:sy,aP ds c.cells∧c.ok:=by
 have q0:=h.dE rfl rfl
 obtain ⟨p0,r0,rfl,h0,q1⟩:=q0.cons_inv
 obtain ⟨x0,y0,w0⟩:=bT h0
 obtain ⟨p1,r1,rfl,h1,q2⟩:=q1.cons_inv
 obtain ⟨x1,y1,w1⟩:=bT h1
 obtain ⟨p2,r2,rfl,h2,q3⟩:=q2.cons_inv
 obtain ⟨x2,y2,w2⟩:=bT h2
 cases q3.jI
 refine ⟨⟨x0,x1,x2⟩,?_,⟨w0,w1,w2⟩⟩
 have hh:=(aP.append y0 (aP.append y1 (aP.append y2 aP.nil)))
 simpa only [sy.cells,bI,ki,rC,List.append_assoc,List.cons_append,List.nil_append,List.append_nil] using hh
structure rE.ok (c:rE):Prop where
 BV:(fun n=>dP n) c.BV
 m4:(fun n=>dP n) c.m4
 gj:(fun n=>dP n) c.gj
 sum:(fun n=>dP n) c.sum
 au:(fun n=>dP n) c.au
 df:sy.ok c.df
 day:(fun n=>dP n) c.day
 cH:(fun n=>dP n) c.cH
 A2:(fun n=>dP n) c.A2
 need:(fun n=>dP n) c.need
 mD:(fun n=>dP n) c.mD
 flags:(fun n=>dP n) c.flags
 parts:(fun n=>dP n) c.parts
theorem rE.of {ds:List D} (h:eI TT 45 ds):∃ c:rE,aP ds c.cells∧c.ok:=by
 have q0:=h.dE rfl rfl
 obtain ⟨p0,r0,rfl,h0,q1⟩:=q0.cons_inv
 obtain ⟨x0,y0,w0⟩:=bT h0
 obtain ⟨p1,r1,rfl,h1,q2⟩:=q1.cons_inv
 obtain ⟨x1,y1,w1⟩:=bT h1
 obtain ⟨p2,r2,rfl,h2,q3⟩:=q2.cons_inv
 obtain ⟨x2,y2,w2⟩:=bT h2
 obtain ⟨p3,r3,rfl,h3,q4⟩:=q3.cons_inv
 obtain ⟨x3,y3,w3⟩:=bT h3
 obtain ⟨p4,r4,rfl,h4,q5⟩:=q4.cons_inv
 obtain ⟨x4,y4,w4⟩:=bT h4
 obtain ⟨p5,r5,rfl,h5,q6⟩:=q5.cons_inv
 obtain ⟨x5,y5,w5⟩:=sy.of h5
 obtain ⟨p6,r6,rfl,h6,q7⟩:=q6.cons_inv
 obtain ⟨x6,y6,w6⟩:=bT h6
 obtain ⟨p7,r7,rfl,h7,q8⟩:=q7.cons_inv
 obtain ⟨x7,y7,w7⟩:=bT h7
 obtain ⟨p8,r8,rfl,h8,q9⟩:=q8.cons_inv
 obtain ⟨x8,y8,w8⟩:=bT h8
 obtain ⟨p9,r9,rfl,h9,q10⟩:=q9.cons_inv
 obtain ⟨x9,y9,w9⟩:=bT h9
 obtain ⟨NW,r10,rfl,h10,q11⟩:=q10.cons_inv
 obtain ⟨Ma,WV,w10⟩:=bT h10
 obtain ⟨GL,r11,rfl,h11,q12⟩:=q11.cons_inv
 obtain ⟨x11,y11,w11⟩:=bT h11
 obtain ⟨Qd,r12,rfl,h12,q13⟩:=q12.cons_inv
 obtain ⟨x12,y12,w12⟩:=bT h12
 cases q13.jI
 refine ⟨⟨x0,x1,x2,x3,x4,x5,x6,x7,x8,x9,Ma,x11,x12⟩,?_,⟨w0,w1,w2,w3,w4,w5,w6,w7,w8,w9,w10,w11,w12⟩⟩
 have hh:=(aP.append y0 (aP.append y1 (aP.append y2 (aP.append y3 (aP.append y4 (aP.append y5 (aP.append y6 (aP.append y7 (aP.append y8 (aP.append y9 (aP.append WV (aP.append y11 (aP.append y12 aP.nil)))))))))))))
 simpa only [rE.cells,bI,ki,rC,List.append_assoc,List.cons_append,List.nil_append,List.append_nil] using hh
structure Sign.ok (c:Sign):Prop where
 kind:(fun n=>dP n) c.kind
 part:(fun n=>dP n) c.part
 dQ:(fun n=>dP n) c.dQ
 for_:(fun n=>dP n) c.for_
 cM:(fun n=>dP n) c.cM
 sum:(fun n=>dP n) c.sum
 day:(fun n=>dP n) c.day
 cH:(fun n=>dP n) c.cH
 flags:(fun n=>dP n) c.flags
theorem Sign.of {ds:List D} (h:eI TT 140 ds):∃ c:Sign,aP ds c.cells∧c.ok:=by
 have q0:=h.dE rfl rfl
 obtain ⟨p0,r0,rfl,h0,q1⟩:=q0.cons_inv
 obtain ⟨x0,y0,w0⟩:=bT h0
 obtain ⟨p1,r1,rfl,h1,q2⟩:=q1.cons_inv
 obtain ⟨x1,y1,w1⟩:=bT h1
 obtain ⟨p2,r2,rfl,h2,q3⟩:=q2.cons_inv
 obtain ⟨x2,y2,w2⟩:=bT h2
 obtain ⟨p3,r3,rfl,h3,q4⟩:=q3.cons_inv
 obtain ⟨x3,y3,w3⟩:=bT h3
 obtain ⟨p4,r4,rfl,h4,q5⟩:=q4.cons_inv
 obtain ⟨x4,y4,w4⟩:=bT h4
 obtain ⟨p5,r5,rfl,h5,q6⟩:=q5.cons_inv
 obtain ⟨x5,y5,w5⟩:=bT h5
 obtain ⟨p6,r6,rfl,h6,q7⟩:=q6.cons_inv
 obtain ⟨x6,y6,w6⟩:=bT h6
 obtain ⟨p7,r7,rfl,h7,q8⟩:=q7.cons_inv
 obtain ⟨x7,y7,w7⟩:=bT h7
 obtain ⟨p8,r8,rfl,h8,q9⟩:=q8.cons_inv
 obtain ⟨x8,y8,w8⟩:=bT h8
 cases q9.jI
 refine ⟨⟨x0,x1,x2,x3,x4,x5,x6,x7,x8⟩,?_,⟨w0,w1,w2,w3,w4,w5,w6,w7,w8⟩⟩
 have hh:=(aP.append y0 (aP.append y1 (aP.append y2 (aP.append y3 (aP.append y4 (aP.append y5 (aP.append y6 (aP.append y7 (aP.append y8 aP.nil)))))))))
 simpa only [Sign.cells,bI,ki,rC,List.append_assoc,List.cons_append,List.nil_append,List.append_nil] using hh
theorem ae1 {ds:List D} (h:eI TT 46 ds):∃ l:List Sign,aP ds [nJ Sign.cells l]∧(fun l=>∀ x,x∈l→Sign.ok x) l:=by
 obtain ⟨n,f,rfl,g⟩:=h.eV rfl rfl
 obtain ⟨l,y,-,w⟩:=jJ Sign.cells Sign.ok (fun ds h=>Sign.of h) g
 exact ⟨l,aP.one y,w⟩
structure dU.ok (c:dU):Prop where
 at_:(fun n=>dP n) c.at_
 sum:(fun n=>dP n) c.sum
theorem dU.of {ds:List D} (h:eI TT 95 ds):∃ c:dU,aP ds c.cells∧c.ok:=by
 have q0:=h.dE rfl rfl
 obtain ⟨p0,r0,rfl,h0,q1⟩:=q0.cons_inv
 obtain ⟨x0,y0,w0⟩:=bT h0
 obtain ⟨p1,r1,rfl,h1,q2⟩:=q1.cons_inv
 obtain ⟨x1,y1,w1⟩:=bT h1
 cases q2.jI
 refine ⟨⟨x0,x1⟩,?_,⟨w0,w1⟩⟩
 have hh:=(aP.append y0 (aP.append y1 aP.nil))
 simpa only [dU.cells,bI,ki,rC,List.append_assoc,List.cons_append,List.nil_append,List.append_nil] using hh
theorem ae2 {ds:List D} (h:eI TT 47 ds):∃ l:List dU,aP ds [nJ dU.cells l]∧(fun l=>∀ x,x∈l→dU.ok x) l:=by
 obtain ⟨n,f,rfl,g⟩:=h.eV rfl rfl
 obtain ⟨l,y,-,w⟩:=jJ dU.cells dU.ok (fun ds h=>dU.of h) g
 exact ⟨l,aP.one y,w⟩
structure bD.ok (c:bD):Prop where
 kind:(fun n=>dP n) c.kind
 dQ:(fun n=>dP n) c.dQ
 cM:(fun n=>dP n) c.cM
 part:(fun n=>dP n) c.part
 at_:(fun n=>dP n) c.at_
 sum:(fun n=>dP n) c.sum
 day:(fun n=>dP n) c.day
 cH:(fun n=>dP n) c.cH
 form:(fun n=>dP n) c.form
theorem bD.of {ds:List D} (h:eI TT 104 ds):∃ c:bD,aP ds c.cells∧c.ok:=by
 have q0:=h.dE rfl rfl
 obtain ⟨p0,r0,rfl,h0,q1⟩:=q0.cons_inv
 obtain ⟨x0,y0,w0⟩:=bT h0
 obtain ⟨p1,r1,rfl,h1,q2⟩:=q1.cons_inv
 obtain ⟨x1,y1,w1⟩:=bT h1
 obtain ⟨p2,r2,rfl,h2,q3⟩:=q2.cons_inv
 obtain ⟨x2,y2,w2⟩:=bT h2
 obtain ⟨p3,r3,rfl,h3,q4⟩:=q3.cons_inv
 obtain ⟨x3,y3,w3⟩:=bT h3
 obtain ⟨p4,r4,rfl,h4,q5⟩:=q4.cons_inv
 obtain ⟨x4,y4,w4⟩:=bT h4
 obtain ⟨p5,r5,rfl,h5,q6⟩:=q5.cons_inv
 obtain ⟨x5,y5,w5⟩:=bT h5
 obtain ⟨p6,r6,rfl,h6,q7⟩:=q6.cons_inv
 obtain ⟨x6,y6,w6⟩:=bT h6
 obtain ⟨p7,r7,rfl,h7,q8⟩:=q7.cons_inv
 obtain ⟨x7,y7,w7⟩:=bT h7
 obtain ⟨p8,r8,rfl,h8,q9⟩:=q8.cons_inv
 obtain ⟨x8,y8,w8⟩:=bT h8
 cases q9.jI
 refine ⟨⟨x0,x1,x2,x3,x4,x5,x6,x7,x8⟩,?_,⟨w0,w1,w2,w3,w4,w5,w6,w7,w8⟩⟩
 have hh:=(aP.append y0 (aP.append y1 (aP.append y2 (aP.append y3 (aP.append y4 (aP.append y5 (aP.append y6 (aP.append y7 (aP.append y8 aP.nil)))))))))
 simpa only [bD.cells,bI,ki,rC,List.append_assoc,List.cons_append,List.nil_append,List.append_nil] using hh
theorem ae3 {ds:List D} (h:eI TT 48 ds):∃ l:List bD,aP ds [nJ bD.cells l]∧(fun l=>∀ x,x∈l→bD.ok x) l:=by
 obtain ⟨n,f,rfl,g⟩:=h.eV rfl rfl
 obtain ⟨l,y,-,w⟩:=jJ bD.cells bD.ok (fun ds h=>bD.of h) g
 exact ⟨l,aP.one y,w⟩
structure Fact.ok (c:Fact):Prop where
 kind:(fun n=>dP n) c.kind
 at_:(fun n=>dP n) c.at_
 n:(fun n=>dP n) c.n
theorem Fact.of {ds:List D} (h:eI TT 53 ds):∃ c:Fact,aP ds c.cells∧c.ok:=by
 have q0:=h.dE rfl rfl
 obtain ⟨p0,r0,rfl,h0,q1⟩:=q0.cons_inv
 obtain ⟨x0,y0,w0⟩:=bT h0
 obtain ⟨p1,r1,rfl,h1,q2⟩:=q1.cons_inv
 obtain ⟨x1,y1,w1⟩:=bT h1
 obtain ⟨p2,r2,rfl,h2,q3⟩:=q2.cons_inv
 obtain ⟨x2,y2,w2⟩:=bT h2
 cases q3.jI
 refine ⟨⟨x0,x1,x2⟩,?_,⟨w0,w1,w2⟩⟩
 have hh:=(aP.append y0 (aP.append y1 (aP.append y2 aP.nil)))
 simpa only [Fact.cells,bI,ki,rC,List.append_assoc,List.cons_append,List.nil_append,List.append_nil] using hh
theorem ae4 {ds:List D} (h:eI TT 36 ds):∃ l:List Fact,aP ds [nJ Fact.cells l]∧(fun l=>∀ x,x∈l→Fact.ok x) l:=by
 obtain ⟨n,f,rfl,g⟩:=h.eV rfl rfl
 obtain ⟨l,y,-,w⟩:=jJ Fact.cells Fact.ok (fun ds h=>Fact.of h) g
 exact ⟨l,aP.one y,w⟩
structure ak.ok (c:ak):Prop where
 aU:rE.ok c.aU
 af:(fun l=>∀ x,x∈l→Sign.ok x) c.af
 bn:(fun l=>∀ x,x∈l→dU.ok x) c.bn
 aw:(fun l=>∀ x,x∈l→bD.ok x) c.aw
 facts:(fun l=>∀ x,x∈l→Fact.ok x) c.facts
theorem ak.of {ds:List D} (h:eI TT 50 ds):∃ c:ak,aP ds c.cells∧c.ok:=by
 have q0:=h.dE rfl rfl
 obtain ⟨p0,r0,rfl,h0,q1⟩:=q0.cons_inv
 obtain ⟨x0,y0,w0⟩:=rE.of h0
 obtain ⟨p1,r1,rfl,h1,q2⟩:=q1.cons_inv
 obtain ⟨x1,y1,w1⟩:=ae1 h1
 obtain ⟨p2,r2,rfl,h2,q3⟩:=q2.cons_inv
 obtain ⟨x2,y2,w2⟩:=ae2 h2
 obtain ⟨p3,r3,rfl,h3,q4⟩:=q3.cons_inv
 obtain ⟨x3,y3,w3⟩:=ae3 h3
 obtain ⟨p4,r4,rfl,h4,q5⟩:=q4.cons_inv
 obtain ⟨x4,y4,w4⟩:=ae4 h4
 cases q5.jI
 refine ⟨⟨x0,x1,x2,x3,x4⟩,?_,⟨w0,w1,w2,w3,w4⟩⟩
 have hh:=(aP.append y0 (aP.append y1 (aP.append y2 (aP.append y3 (aP.append y4 aP.nil)))))
 simpa only [ak.cells,bI,ki,rC,List.append_assoc,List.cons_append,List.nil_append,List.append_nil] using hh
structure cS.ok (c:cS):Prop where
 forum:(fun n=>dP n) c.forum
 cV:(fun n=>dP n) c.cV
 cW:(fun n=>dP n) c.cW
 file:(fun n=>dP n) c.file
 sign:(fun n=>dP n) c.sign
 day:(fun n=>dP n) c.day
 kind:(fun n=>dP n) c.kind
theorem cS.of {ds:List D} (h:eI TT 34 ds):∃ c:cS,aP ds c.cells∧c.ok:=by
 have q0:=h.dE rfl rfl
 obtain ⟨p0,r0,rfl,h0,q1⟩:=q0.cons_inv
 obtain ⟨x0,y0,w0⟩:=bT h0
 obtain ⟨p1,r1,rfl,h1,q2⟩:=q1.cons_inv
 obtain ⟨x1,y1,w1⟩:=bT h1
 obtain ⟨p2,r2,rfl,h2,q3⟩:=q2.cons_inv
 obtain ⟨x2,y2,w2⟩:=bT h2
 obtain ⟨p3,r3,rfl,h3,q4⟩:=q3.cons_inv
 obtain ⟨x3,y3,w3⟩:=bT h3
 obtain ⟨p4,r4,rfl,h4,q5⟩:=q4.cons_inv
 obtain ⟨x4,y4,w4⟩:=bT h4
 obtain ⟨p5,r5,rfl,h5,q6⟩:=q5.cons_inv
 obtain ⟨x5,y5,w5⟩:=bT h5
 obtain ⟨p6,r6,rfl,h6,q7⟩:=q6.cons_inv
 obtain ⟨x6,y6,w6⟩:=bT h6
 cases q7.jI
 refine ⟨⟨x0,x1,x2,x3,x4,x5,x6⟩,?_,⟨w0,w1,w2,w3,w4,w5,w6⟩⟩
 have hh:=(aP.append y0 (aP.append y1 (aP.append y2 (aP.append y3 (aP.append y4 (aP.append y5 (aP.append y6 aP.nil)))))))
 simpa only [cS.cells,bI,ki,rC,List.append_assoc,List.cons_append,List.nil_append,List.append_nil] using hh
theorem BU (aei:∀ (a0:ah) (a1:List ak) (a2:cS) (a3:List Int) (a4:Int) (a5:List Fact),pV a0 a1 a2 a3 a4 a5=true) (VL:List (List D)) (h:Rb TT [31,32,34,35,3,36] VL):gR Tryz.prog 3 (z6 TT [31,32,34,35,3,36] VL) [] (.d (.v (.bool true))) []:=by
 obtain ⟨d0,d1,d2,d3,d4,d5,rfl⟩:∃ d0 d1 d2 d3 d4 d5,VL=[d0,d1,d2,d3,d4,d5]:=by
  match VL,h with
  | [d0,d1,d2,d3,d4,d5],_=>exact ⟨d0,d1,d2,d3,d4,d5,rfl⟩
 obtain ⟨h0,h1,h2,h3,h4,h5,-⟩:=h
 obtain ⟨x0,y0,w0⟩:=ah.of h0
 obtain ⟨n1,f1,rfl,g1⟩:=h1.eV rfl rfl
 obtain ⟨x1,y1,-,w1⟩:=jJ ak.cells ak.ok (fun ds h=>ak.of h) g1
 obtain ⟨x2,y2,w2⟩:=cS.of h2
 obtain ⟨n3,f3,rfl,g3⟩:=h3.eV rfl rfl
 obtain ⟨x3,y3,-,w3⟩:=jJ bI (fun n=>dP n) (fun ds h=>bT h) g3
 obtain ⟨x4,rfl,w4⟩:=h4.KE rfl rfl
 obtain ⟨n5,f5,rfl,g5⟩:=h5.eV rfl rfl
 obtain ⟨x5,y5,-,w5⟩:=jJ Fact.cells Fact.ok (fun ds h=>Fact.of h) g5
 have hf:=Iq x0 x1 x2 x3 x4 x5
 rw [aei] at hf
 exact gR.XO hf ⟨uX.d y0.agg,uX.d y1,uX.d y2.agg,uX.d y3,uX.rfl',uX.d y5,trivial⟩
theorem FB (a0:ah) (a1:List ak) (a2:cS) (a3:List Int) (a4:Int) (a5:List Fact):pV a0 a1 a2 a3 a4 a5=true :=
 E1 a0 a1 a2 a3 a4 a5
end
end Go.Proofs.YtonkchddcgcopaaGreatDoor
