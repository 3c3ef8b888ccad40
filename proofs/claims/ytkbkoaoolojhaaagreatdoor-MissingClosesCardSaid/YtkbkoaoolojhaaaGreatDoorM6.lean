/- Functions, as sketches. -/
import Derived.Test.YtkbkoaoolojhaaaGreatDoorMvR
import Derived.Test.YtkbkoaoolojhaaaGreatDoorLi
import Derived.Test.YtkbkoaoolojhaaaGreatDoorLd
set_option linter.unusedSimpArgs false
set_option linter.unusedVariables false
set_option maxHeartbeats 1000000
set_option maxRecDepth 100000
namespace Go.Proofs.YtkbkoaoolojhaaaGreatDoor
noncomputable section
open Go Go.Av
theorem LO.ins {n:Nat} {F:List Fact} {k a v:Int} {i:Nat} (h:LO n F) (hp:DE F k a i) (hi:i≤F.length) (hf:∀ y,y∈F→¬ (y.kind=k∧y.at_=a)) (hx:YA n { kind:=k,at_:=a,n:=v }) :
  LO n (ku F i { kind:=k,at_:=a,n:=v }):=by
 have ge:∀ j (hj:j < F.length),F.getD j default=F[j]:=fun j hj=>by simp [List.getD,hj]
 have hc:F.take i++F.drop i=F:=List.take_append_drop i F
 have h2:=h.2
 rw [← hc] at h2
 obtain ⟨p1,p2,p3⟩:=List.pairwise_append.1 h2
 have b1:∀ y,y∈F.take i→FLt y { kind:=k,at_:=a,n:=v }:=fun y hy=>by
  obtain ⟨q,hq,e⟩:=List.getElem_of_mem hy
  rw [List.length_take] at hq
  rw [List.getElem_take] at e
  have h3:=hp.1 q (by omega)
  rw [ge q (by omega),e] at h3
  have h4:=hf y (List.mem_of_mem_take hy)
  unfold FGt at h3
  unfold FLt
  dsimp only
  omega
 have b2:∀ y,y∈F.drop i→FLt { kind:=k,at_:=a,n:=v } y:=fun y hy=>by
  have DT:i < F.length:=by
   apply Classical.byContradiction
   intro hh
   rw [List.drop_eq_nil_of_le (by omega)] at hy
   simp at hy
  have h3:=hp.2 DT
  rw [ge i DT] at h3
  rw [List.drop_eq_getElem_cons DT] at hy p2
  unfold FGt at h3
  rcases List.mem_cons.1 hy with e | hy
  ·rw [e]; unfold FLt; dsimp only; omega
  ·have:=(List.pairwise_cons.1 p2).1 y hy
   unfold FLt at this ⊢
   dsimp only
   omega
 refine ⟨fun x hm=>?_,List.pairwise_append.2 ⟨p1,List.pairwise_cons.2 ⟨b2,p2⟩,fun y hy z hz=>?_⟩⟩
 ·simp only [ku,List.mem_append,List.mem_cons] at hm
  rcases hm with hm | rfl | hm
  ·exact h.1 x (List.mem_of_mem_take hm)
  ·exact hx
  ·exact h.1 x (List.mem_of_mem_drop hm)
 ·rcases List.mem_cons.1 hz with rfl | hz
  ·exact b1 y hy
  ·exact p3 y hy z hz
theorem ab4 (F:List Fact) (i:Nat) (x:Fact) (k:Int × Int):k∈(ku F i x).map ch↔k∈F.map ch∨k=ch x:=by
 have hc:F.map ch=(F.take i).map ch++(F.drop i).map ch:=by rw [← List.map_append,List.take_append_drop]
 rw [hc]
 simp only [ku,List.map_append,List.map_cons,List.mem_append,List.mem_cons]
 constructor
 ·rintro (h | h | h)
  ·exact .inl (.inl h)
  ·exact .inr h
  ·exact .inl (.inr h)
 ·rintro ((h | h) | h)
  ·exact .inl h
  ·exact .inr (.inr h)
  ·exact .inr (.inl h)
theorem OB {f:ai} {l:List Fact} (ha:qp f l) (hF:LO f.ae.length f.facts) (GK:∀ x,x∈l→(0≤x.kind∧x.kind≤4)∧(0≤x.at_∧x.at_ < (f.ae.length:Int))) :
  ∀ n,n≤l.length→∃ G,cP f (l.take n) = { f with facts:=G }∧LO f.ae.length G∧∀ k,k∈G.map ch↔k∈f.facts.map ch∨k∈(l.take n).map ch
 | 0,_=>⟨f.facts,rfl,hF,fun k=>by simp⟩
 | n+1,h=>by
  obtain ⟨G,e,hG,hk⟩:=OB ha hF GK n (by omega)
  have vi:=qv ha (show n < l.length by omega)
  obtain ⟨i,hi,e2,hp⟩:=uY (cP f (l.take n)) (l.getD n default).kind (l.getD n default).at_ (l.getD n default).n vi
  rw [g4 f (by omega),e2]
  rw [e] at hi hp vi ⊢
  have hm:=GK _ (gH (show n < l.length by omega) default)
  refine ⟨_,rfl,hG.ins hp hi vi ⟨hm.1,hm.2,?_⟩,fun k=>?_⟩
  ·cases (l.getD n default).n != 0
   ·exact .inl rfl
   ·exact .inr rfl
  ·have e3:l.getD n default=l[n]:=by simp [List.getD,show n < l.length by omega]
   rw [ab4,hk,List.take_succ_eq_append_getElem (by omega),List.map_append,List.mem_append,← e3,or_assoc]
   simp only [List.map_cons,List.map_nil,List.mem_singleton]
   rfl
theorem OC (k a:Int):∀ F:List Fact,(walk (gI k a) (fun _=>(⟨false,0⟩:aH)) F ()).known=decide ((a,k)∈F.map ch)
 | []=>rfl
 | x :: r=>by
  have ih:=OC k a r
  unfold walk
  cases h:(x.kind == k)&&(x.at_ == a) with
  | true =>
   have e:gI k a x ()=.inl (kQ (x.n != 0)):=by unfold gI; rw [h]; rfl
   rw [e]
   simp only [Bool.and_eq_true,beq_iff_eq] at h
   rw [decide_eq_true (by rw [List.map_cons,← h.1,← h.2]; exact List.mem_cons_self)]
   show (kQ (x.n != 0)).known=true
   cases (x.n != 0) <;> kernel_rfl
  | false =>
   have e:gI k a x ()=.inr ():=by unfold gI; rw [h]; rfl
   rw [e]
   show (walk (gI k a) (fun _=>(⟨false,0⟩:aH)) r ()).known=_
   rw [ih]
   refine decide_eq_decide.2 ⟨fun hm=>List.mem_cons_of_mem _ hm,fun hm=>?_⟩
   rcases List.mem_cons.1 (by rw [List.map_cons] at hm; exact hm) with h1 | h1
   ·unfold ch at h1
    simp only [Prod.mk.injEq] at h1
    simp [h1.1,h1.2] at h
   ·exact h1
theorem OD (f:ai) (day:Int):dF (aj f day) (5 * (aj f day).ae.length)=((List.range (5 * (aj f day).ae.length)).filter fun s=>!decide (ch (rj s)∈f.facts.map ch)).map rj:=by
 rw [Ys]
 congr 1
 refine List.filter_congr fun s hs=>?_
 rw [List.mem_range] at hs
 rw [Yd f day ((s % 5:Nat):Int) ((s / 5:Nat):Int) ⟨by omega,by omega⟩,EX,OC]
 rfl
theorem Jv {α:Type} (p:α→Bool):∀ l:List α,(l.filter p).length+(l.filter fun x=>!p x).length=l.length
 | []=>rfl
 | x :: r=>by
  have:=Jv p r
  rw [List.filter_cons,List.filter_cons]
  cases p x
  ·simp only [Bool.not_false,if_true,Bool.false_eq_true,if_false,List.length_cons]; omega
  ·simp only [Bool.not_true,if_true,Bool.false_eq_true,if_false,List.length_cons]; omega
theorem ab5 (f:ai) (G:List Fact) (day:Int):(aj { f with facts:=G } day).ae=(aj f day).ae:=by
 rw [gP,gP]
theorem ab6 {f:ai} {day:Int} {G l:List Fact} (hk:∀ k,k∈G.map ch↔k∈f.facts.map ch∨k∈l.map ch) (hs:(l.map ch).Sublist ((dF (aj f day) (5 * (aj f day).ae.length)).map ch)) :
  (dF (aj { f with facts:=G } day) (5 * (aj { f with facts:=G } day).ae.length)).length+l.length=(dF (aj f day) (5 * (aj f day).ae.length)).length:=by
 have hn:=(tV f day).1
 rw [OD] at hs hn ⊢
 rw [OD,ab5]
 generalize 5 * (aj f day).ae.length=N at hs hn ⊢
 generalize hA:(List.range N).filter (fun s=>!decide (ch (rj s)∈f.facts.map ch))=A at hs hn ⊢
 have e1:(List.range N).filter (fun s=>!decide (ch (rj s)∈({ f with facts:=G }:ai).facts.map ch))=A.filter fun s=>!decide (ch (rj s)∈l.map ch):=by
  rw [← hA,List.filter_filter]
  refine List.filter_congr fun s _=>?_
  have:decide (ch (rj s)∈G.map ch)=(decide (ch (rj s)∈f.facts.map ch)||decide (ch (rj s)∈l.map ch)):=by
   rw [Bool.eq_iff_iff,Bool.or_eq_true,decide_eq_true_eq,decide_eq_true_eq,decide_eq_true_eq]
   exact hk _
  show (!decide (ch (rj s)∈G.map ch))=_
  rw [this,Bool.not_or,Bool.and_comm]
 rw [e1,List.length_map,List.length_map]
 have h2:=Jv (fun s=>decide (ch (rj s)∈l.map ch)) A
 have h3:(A.filter fun s=>decide (ch (rj s)∈l.map ch)).length=l.length:=by
  rw [List.map_map] at hs hn
  have e2:((A.map (ch ∘ rj)).filter fun k=>decide (k∈l.map ch)).length=(A.filter fun s=>decide (ch (rj s)∈l.map ch)).length:=by
   rw [List.filter_map,List.length_map]
   rfl
  have e3:(l.map ch).length=l.length:=List.length_map _
  rw [← e2,← e3]
  refine List.Perm.length_eq ((List.perm_ext_iff_of_nodup (hn.filter _) (hs.nodup hn)).2 fun k=>?_)
  rw [List.mem_filter,decide_eq_true_eq]
  exact ⟨fun h=>h.2,fun h=>⟨hs.subset h,h⟩⟩
 omega
theorem Rk {β:Type} {s:Int ⊕ β} {k k':β→Int} (h:j2 s k=0) (hk:∀ b,k b=0→k' b=0):j2 s k'=0:=by
 cases s with
 | inl a=>exact h
 | inr b=>exact hk b h
theorem LO.len {n:Nat} {F:List Fact} (h:LO n F):F.length≤5 * n:=by
 have hn:(F.map ch).Nodup:=by
  rw [List.Nodup,List.pairwise_map]
  refine h.2.imp fun {x y} hl e=>?_
  unfold ch at e
  simp only [Prod.mk.injEq] at e
  unfold FLt at hl
  omega
 have:=hn.length_le_of_subset (l₂:=(List.range (5 * n)).map fun s=>ch (rj s)) (fun k hk=>by
  obtain ⟨x,hx,rfl⟩:=List.mem_map.1 hk
  have h1:=h.1 x hx
  unfold YA at h1
  refine List.mem_map.2 ⟨5 * x.at_.toNat+x.kind.toNat,List.mem_range.2 (by omega),?_⟩
  unfold ch rj
  simp only [Prod.mk.injEq]
  omega)
 simpa using this
theorem afc (r:ah) (f:ai) (G:List Fact) (i:Int):zh r { f with facts:=G } i=zh r f i:=by kernel_rfl
theorem afd (r:ah) (f:ai) (G:List Fact):vd r { f with facts:=G }=vd r f:=by kernel_rfl
theorem adl {r:ah} {f:ai} {G:List Fact} (h:gm r f=0) (hG:G.length≤200) (hf:Bb { f with facts:=G }=0):gm r { f with facts:=G }=0:=by
 unfold gm at h ⊢
 unfold iB at h ⊢
 simp only [Sk.j3,Sk.lf,Sk.oa,Sk.kL,Sk.qF,Sk.sA,Sk.gN,iI.G3,kk,kp,tF,tG,rN,oO,aY] at h ⊢
 have es:=afc r f G
 have ea:=afd r f G
 simp only [es,ea,hf]
 cases hc:(decide ((f.ae.length:Int) > 40)||decide ((f.aL.length:Int) > 4)||decide ((f.aw.length:Int) > 100)||decide ((f.facts.length:Int) > 200)) with
 | true=>rw [hc,cond_true] at h; exact absurd h (by decide)
 | false =>
  rw [hc] at h
  rw [Bool.or_eq_false_iff] at hc
  rw [hc.1,decide_eq_false (by omega:¬ ((G.length:Int) > 200))]
  simp only [Bool.or_false,cond_false] at h ⊢
  cases hw:(CR r f.aX != 0) with
  | true=>rw [hw] at h; exact h
  | false =>
   rw [hw] at h
   cases h0:((f.ae.length:Int) == 0) with
   | true=>rw [h0,cond_false,cond_true] at h; exact absurd h (by decide)
   | false =>
    rw [h0] at h
    simp only [cond_false] at h ⊢
    refine Rk h fun _ h=>Rk h fun _ h=>?_
    cases ha:(vd r f != 0) with
    | true=>rw [ha] at h; exact h
    | false=>rfl
theorem YJ {r:ah} {f:ai} {day:Int} {l:List Fact} (hF:bu r f) (Z5:gm r f=0) (hfk:LO f.ae.length f.facts) (ha:qp f l) (hs:(l.map ch).Sublist ((dF (aj f day) (5 * (aj f day).ae.length)).map ch)) :
  (dF (aj (cP f l) day) (5 * (aj (cP f l) day).ae.length)).length+l.length=(dF (aj f day) (5 * (aj f day).ae.length)).length∧gm r (cP f l)=0∧(cP f l).facts.length≤200:=by
 have GK:∀ x,x∈l→(0≤x.kind∧x.kind≤4)∧(0≤x.at_∧x.at_ < (f.ae.length:Int)):=fun x hx=>by
  have h1:=hs.subset (List.mem_map.2 ⟨x,hx,rfl⟩)
  rw [OD,List.map_map,List.mem_map] at h1
  obtain ⟨s,hm,e⟩:=h1
  rw [List.mem_filter,List.mem_range] at hm
  have h2:=(mq f day).1
  unfold Function.comp ch rj at e
  simp only [Prod.mk.injEq] at e
  omega
 obtain ⟨G,e,hG,hk⟩:=OB ha hfk GK l.length (Nat.le_refl _)
 rw [List.take_length] at e hk
 have h4:=hF.2.1
 have h5:=hG.len
 rw [e]
 exact ⟨ab6 hk hs,adl Z5 (by omega) ((yc { f with facts:=G } ⟨by dsimp only; omega,by dsimp only; omega⟩).2 hG),by dsimp only; omega⟩
def ep (r:ah) (forum:Int) (f:ai) (day:Int) (c_:Claim) (i:Int):Sk (Bool) :=
 .r 1 gE.c fun x1 =>
 .r 2 ((k8 r f day 3).c) fun x2 =>
 .br (!x2)
 (.fin x1)
 (.r 4 ((cQ r forum f day c_).c) fun x3 =>
 .br (((x3.2 != 0)||(decide (i < 0)))||(decide (i≥((x3.1.length:Nat):Int))))
 (.fin (x1&&(x3.2 == 0)))
 (.bind true (fun b4=>b4=cP f (x3.1.getD i.toNat default))
 (.loop (default:Sum (Bool) (ai)) (fun i5=>i5.1≤(x3.1.getD i.toNat default).length∧i5.2=cP f ((x3.1.getD i.toNat default).take i5.1)) (fun i5=>(x3.1.getD i.toNat default).length - i5.1) ((0,f):Nat × ai)
 (fun (i5:Nat × ai)=>⟨[(17,iv (i5.1:Int))],[(16,.box (i5.2.cells.map .d))]⟩) fun i5 =>
 .r 9 (.p (bN i x3.1.length)) fun _ =>
 .br (decide ((i5.1:Int) < (((x3.1.getD i.toNat default).length:Nat):Int)))
 (.r 11 (.al (.p (bN i x3.1.length)) (.al (.p (bN (i5.1:Int) ((x3.1.getD i.toNat default).length))) (.al (.p (bN i x3.1.length)) (.al (.p (bN (i5.1:Int) ((x3.1.getD i.toNat default).length))) (.al (.p (bN i x3.1.length)) (.al (.p (bN (i5.1:Int) ((x3.1.getD i.toNat default).length))) ((gZ i5.2 (((x3.1.getD i.toNat default).getD i5.1 default).kind) (((x3.1.getD i.toNat default).getD i5.1 default).at_) (((x3.1.getD i.toNat default).getD i5.1 default).n)).c))))))) fun x6 =>
 .nx 10 17 i5.1 (i5.1+1,x6))
 (.fin (.inl (.inr i5.2))))
 (fun (b4:ai)=>⟨[],[(16,.box (b4.cells.map .d))]⟩) fun b4 =>
 .r 12 ((cQ r forum b4 day c_).c) fun x7 =>
 .r 13 (.dep (.wh ((x1&&(x7.2 == 0))&&(((x7.1.length:Nat):Int) == 0)) true ((bO b4 day).c)) fun x8=>.dep (.wh ((x1&&(x7.2 == 0))&&(((x7.1.length:Nat):Int) == 0)) true ((bO f day).c)) fun x9=>.al (.wh ((x1&&(x7.2 == 0))&&(((x7.1.length:Nat):Int) == 0)) true (.p (bN i x3.1.length))) (.wh (((x1&&(x7.2 == 0))&&(((x7.1.length:Nat):Int) == 0))&&(((x8.length:Nat):Int) == (au (((x9.length:Nat):Int) - (((x3.1.getD i.toNat default).length:Nat):Int))))) true ((lJ r b4).c))) fun GF =>
 .fin ((((x1&&(x7.2 == 0))&&(((x7.1.length:Nat):Int) == 0))&&(((GF.1.length:Nat):Int) == (au (((GF.2.1.length:Nat):Int) - (((x3.1.getD i.toNat default).length:Nat):Int)))))&&(GF.2.2 == 0))))
def jE r forum f day c_ i:=(ep r forum f day c_ i).val
theorem zP (r:ah) (forum:Int) (f:ai) (day:Int) (c_:Claim) (i:Int) (hP:∀ x,x∈r.aI→(-9223372036854775808≤x.num∧x.num≤9223372036854775807)∧(-9223372036854775808≤x.den∧x.den≤9223372036854775807)):(ep r forum f day c_ i).cC (fun (x:Bool)=>x=true):=by
 refine Sk.aP _ ?_
 unfold ep
 simp only [Sk.ct,Sk.aA,reduceCtorEq,ON,kk,kp,k8,gE,gZ,cQ,bO,lJ,maxLen]
 intro x Bu hx y hy hf
 refine ⟨fun _=>hx,fun hc S hS Td=>?_⟩
 obtain ⟨a1,a2,a3,a4,a5,hF,XN,⟨Z5,hfk⟩,hU3⟩:=hf hP (by simpa using hc)
 have hUe:=kC f day hF.small
 have qP:=tV f day
 have nG:=fun l ha hs=>YJ (day:=day) (l:=l) hF Z5 hfk ha hs
 generalize hU:dF (aj f day) (5 * (aj f day).ae.length)=U at Td hUe qP nG ⊢
 rw [hUe] at hU3
 have FR:U.length≤8:=by omega
 have hS2:S.2=0:=by
  by_cases h2:bH r forum f day c_=2
  ·exact (Td.2 h2 FR).1
  ·rw [Td.1 h2]
 refine ⟨fun _=>by rw [hx,hS2]; rfl,fun hi=>?_⟩
 rw [Bool.or_eq_false_iff,Bool.or_eq_false_iff] at hi
 simp only [LN] at hi
 have DT:i.toNat < S.1.length:=by omega
 have h2:bH r forum f day c_=2:=by
  apply Classical.byContradiction
  intro h2
  rw [Td.1 h2] at DT
  simp at DT
 obtain ⟨-,F,hFI⟩:=Td.2 h2 FR
 have hL:nE r forum f day c_ U S.1 F:=⟨hFI,FR,qP⟩
 obtain ⟨l1,l2,⟨v,l3⟩,l4⟩:=hL.at_ DT
 obtain ⟨l5,l6⟩:=hL.apt DT
 have l7:((S.1.getD i.toNat default).map ch).Sublist (U.map ch):=by rw [l3]; exact uV _ _ _
 obtain ⟨c1,c2,-⟩:=nG _ l5 l7
 refine ⟨⟨⟨Nat.zero_le _,rfl⟩,fun j hj _=>⟨fun rO z hz _ _=>?_,fun rO=>?_⟩⟩,fun b hb T hT hTP q hq hqp=>?_⟩
 ·have rO:j.1 < (S.1.getD i.toNat default).length:=by simpa using rO
  exact ⟨⟨by omega,by rw [hz,hj.2,g4 f rO]⟩,by omega⟩
 ·have e:j.1=(S.1.getD i.toNat default).length:=by
   have:¬ (j.1 < (S.1.getD i.toNat default).length):=by simpa using rO
   omega
  rw [hj.2,e,List.take_length]
 ·rw [hb] at hTP hqp hq
  have hT0:=hTP.1 l4
  rw [hq] at hqp ⊢
  obtain ⟨q1,q2,-⟩:=hqp
  dsimp only at q1 q2 ⊢
  rw [q1,q2,hT0,hx,c2,ar (by omega) (by omega)]
  have:(((dF (aj (cP f (S.1.getD i.toNat default)) day) (5 * (aj (cP f (S.1.getD i.toNat default)) day).ae.length)).length:Nat):Int) == ((U.length:Nat):Int) - (((S.1.getD i.toNat default).length:Nat):Int):=by
   rw [beq_iff_eq]
   omega
  rw [this]
  rfl
theorem qz (r:ah) (forum:Int) (f:ai) (day:Int) (c_:Claim) (i:Int):(fun (x:Bool)=>(∀ x,x∈r.aI→(-9223372036854775808≤x.num∧x.num≤9223372036854775807)∧(-9223372036854775808≤x.den∧x.den≤9223372036854775807))→(x=true)) (jE r forum f day c_ i):=fun hP=>Sk.cI _ (zP r forum f day c_ i hP)
theorem Bf (r:ah) (forum:Int) (f:ai) (day:Int) (c_:Claim) (i:Int) (hw:∀ x,x∈r.aI→(-9223372036854775808≤x.num∧x.num≤9223372036854775807)∧(-9223372036854775808≤x.den∧x.den≤9223372036854775807)):(ep r forum f day c_ i).a6 (fun _=>True):=by
 refine Sk.aG _ ?_
 unfold ep
 simp only [Sk.gL,Sk.aA,reduceCtorEq,ON,kk,kp,k8,gE,gZ,cQ,bO,lJ,maxLen]
 intro x _ hx y _ hf hc
 obtain ⟨a1,a2,a3,a4,a5,hF,XN,⟨Z5,hfk⟩,hU3⟩:=hf hw (by simpa using hc)
 have hS0:=hF.small
 refine ⟨⟨hF,XN,hS0,a2,a1,a4,a5⟩,fun S _ Td hi=>?_⟩
 have hUe:=kC f day hF.small
 have qP:=tV f day
 have nG:=fun l ha hs=>YJ (day:=day) (l:=l) hF Z5 hfk ha hs
 generalize hU:dF (aj f day) (5 * (aj f day).ae.length)=U at Td hUe qP nG ⊢
 rw [hUe] at hU3
 have FR:U.length≤8:=by omega
 rw [Bool.or_eq_false_iff,Bool.or_eq_false_iff] at hi
 simp only [LN] at hi
 have DT:i.toNat < S.1.length:=by omega
 have h2:bH r forum f day c_=2:=by
  apply Classical.byContradiction
  intro h2
  rw [Td.1 h2] at DT
  simp at DT
 obtain ⟨-,F,hFI⟩:=Td.2 h2 FR
 have hL:nE r forum f day c_ U S.1 F:=⟨hFI,FR,qP⟩
 obtain ⟨l1,l2,⟨v,l3⟩,l4⟩:=hL.at_ DT
 obtain ⟨l5,l6⟩:=hL.apt DT
 have l7:((S.1.getD i.toNat default).map ch).Sublist (U.map ch):=by rw [l3]; exact uV _ _ _
 obtain ⟨c1,c2,c3⟩:=nG _ l5 l7
 refine ⟨⟨⟨Nat.zero_le _,rfl⟩,fun j hj=>⟨by omega,fun _=>⟨fun rO=>?_,fun rO=>?_⟩⟩⟩,fun b hb=>?_⟩
 ·have rO:j.1 < (S.1.getD i.toNat default).length:=by simpa using rO
  have hln:=zb l5 (n:=j.1) (by omega)
  rw [hj.2]
  exact ⟨⟨by omega,by omega,by omega,by omega,by omega,by omega,by omega,qv l5 rO⟩,fun z hz _ _=>⟨(ar (by omega) (by omega)).trans (by omega),⟨by omega,by rw [hz,g4 f rO]⟩,by omega⟩⟩
 ·have e:j.1=(S.1.getD i.toNat default).length:=by
   have:¬ (j.1 < (S.1.getD i.toNat default).length):=by simpa using rO
   omega
  rw [hj.2,e,List.take_length]
 ·have hR:bu r (cP f (S.1.getD i.toNat default)):=by
   have:=tE l5 hF (by omega) (n:=(S.1.getD i.toNat default).length) (Nat.le_refl _)
   rwa [List.take_length] at this
  rw [hb]
  exact ⟨⟨hR,by omega,hR.small,a2,a1,a4,a5⟩,fun T _ _=>⟨fun _=>hR.small,fun _ _ _=>⟨fun _=>hS0,fun _ _ _=>⟨fun _=>by omega,fun _=>a1⟩⟩⟩⟩
def Cz r forum f day c_ i:=kk tok mixed Tryz.func6 [av r.cells,iv forum,av f.cells,iv day,av c_.cells,iv i] (fun x=>bv x) true (ep r forum f day c_ i) (jE r forum f day c_ i) (Bf r forum f day c_ i) (fun (x:Bool)=>(∀ x,x∈r.aI→(-9223372036854775808≤x.num∧x.num≤9223372036854775807)∧(-9223372036854775808≤x.den∧x.den≤9223372036854775807))→(x=true)) (qz r forum f day c_ i)
theorem Bg (r:ah) (forum:Int) (f:ai) (day:Int) (c_:Claim) (i:Int) (hw:∀ x,x∈r.aI→(-9223372036854775808≤x.num∧x.num≤9223372036854775807)∧(-9223372036854775808≤x.den∧x.den≤9223372036854775807)):eC Tryz.prog 6 [av r.cells,iv forum,av f.cells,iv day,av c_.cells,iv i] [] (bv (jE r forum f day c_ i)) []:=(Cz r forum f day c_ i).pf hw
theorem wW (RS:∀ (a0:ah) (a1:Int) (a2:ai) (a3:Int) (a4:Claim) (a5:Int),(∀ x,x∈a0.aI→(-9223372036854775808≤x.num∧x.num≤9223372036854775807)∧(-9223372036854775808≤x.den∧x.den≤9223372036854775807))→jE a0 a1 a2 a3 a4 a5=true) (zG:List (List D)) (h:Da TT [51,3,31,3,53,3] zG):eC Tryz.prog 6 (sy TT [51,3,31,3,53,3] zG) [] (.d (.v (.bool true))) []:=by
 obtain ⟨d0,d1,d2,d3,d4,d5,rfl⟩:∃ d0 d1 d2 d3 d4 d5,zG=[d0,d1,d2,d3,d4,d5]:=by
  match zG,h with
  | [d0,d1,d2,d3,d4,d5],_=>exact ⟨d0,d1,d2,d3,d4,d5,rfl⟩
 obtain ⟨h0,h1,h2,h3,h4,h5,-⟩:=h
 obtain ⟨x0,y0,w0⟩:=ah.of h0
 obtain ⟨x1,rfl,w1⟩:=h1.nZ rfl rfl
 obtain ⟨x2,y2,w2⟩:=ai.of h2
 obtain ⟨x3,rfl,w3⟩:=h3.nZ rfl rfl
 obtain ⟨x4,y4,w4⟩:=Claim.of h4
 obtain ⟨x5,rfl,w5⟩:=h5.nZ rfl rfl
 have hf:=Bg x0 x1 x2 x3 x4 x5 (fun x h=>⟨(w0.aI x h).num,(w0.aI x h).den⟩)
 rw [RS x0 x1 x2 x3 x4 x5 (fun x h=>⟨(w0.aI x h).num,(w0.aI x h).den⟩)] at hf
 exact eC.Mz hf ⟨lL.d y0.agg,lL.rfl',lL.d y2.agg,lL.rfl',lL.d y4.agg,lL.rfl',trivial⟩
theorem zQ (a0:ah) (a1:Int) (a2:ai) (a3:Int) (a4:Claim) (a5:Int) (h:∀ x,x∈a0.aI→(-9223372036854775808≤x.num∧x.num≤9223372036854775807)∧(-9223372036854775808≤x.den∧x.den≤9223372036854775807)):jE a0 a1 a2 a3 a4 a5=true :=
 qz a0 a1 a2 a3 a4 a5 h
end
end Go.Proofs.YtkbkoaoolojhaaaGreatDoor
