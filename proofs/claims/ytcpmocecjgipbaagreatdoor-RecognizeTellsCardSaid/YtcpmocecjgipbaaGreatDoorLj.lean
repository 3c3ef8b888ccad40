/- Functions, as sketches. -/
import Derived.Test.YtcpmocecjgipbaaGreatDoorLi
import Derived.Test.YtcpmocecjgipbaaGreatDoorLc
import Derived.Test.YtcpmocecjgipbaaGreatDoorLd
set_option linter.unusedSimpArgs false
set_option linter.unusedVariables false
set_option maxHeartbeats 1000000
set_option maxRecDepth 100000
namespace Go.Proofs.YtcpmocecjgipbaaGreatDoor
noncomputable section
open Go Go.Av
def wg (r:af) (b:jT) (seen:Int) (cE:Int):Sk (Int × Int) :=
 .r 2 (.dep ((pT r).c) fun x1=>.dep (.wh (x1 != 0) false ((Am r b.aJ).c)) fun x2=>.dep (.wh ((x1 != 0)||(!x2)) false ((Am r b.qC).c)) fun x3=>.wh (((x1 != 0)||(!x2))||(!x3)) false ((dF b.day).c)) fun Ew =>
 .br ((((Ew.1 != 0)||(!Ew.2.1))||(!Ew.2.2.1))||(!Ew.2.2.2))
 (.fin (0,1))
 (.r 4 (.wh ((((decide (b.aE.kind < 0))||(decide (b.aE.kind≥5)))||(decide (b.aE.unit < 0)))||(decide (b.aE.unit≥2))) false (.wh (seen != (-1)) true ((dF seen).c))) fun x5 =>
 .br (((((((decide (b.aE.kind < 0))||(decide (b.aE.kind≥5)))||(decide (b.aE.unit < 0)))||(decide (b.aE.unit≥2)))||((seen != (-1))&&(!x5)))||(decide (cE < 0)))||(decide (cE > 20000)))
 (.fin (0,1))
 (.r 6 ((Ce b.aE).c) fun x6 =>
 .br (x6&&(seen == (-1)))
 (.fin (0,4))
 (.bind false (fun _=>True)
 (.br (b.aE.kind == 4)
 (.r 9 ((re r b.aJ b.qC).c) fun x8 =>
 .br (x8.2 != 0)
 (.fin (.inl (0,4)))
 (.fin (.inr ())))
 (.fin (.inr ())))
 (fun (_:Unit)=>⟨[],[]⟩) fun _ =>
 .r 12 ((H6 r b seen).c) fun x9 =>
 .br ((decide (x9 < 0))||(decide ((ar (x9+cE)) > 100000)))
 (.fin (0,3))
 (.r 15 ((Ch r b.qC (ar (x9+cE))).c) fun C0 =>
 .fin (C0.1,C0.2)))))
def Ci r b seen cE:=(wg r b seen cE).val
theorem Qw (r:af) (b:jT) (seen:Int) (cE:Int) (gR:r.ba) (bG:r.Small):(wg r b seen cE).bE (fun _=>True):=by
 refine Sk.bm _ ?_
 unfold wg
 simp only [Sk.j2,Sk.aU,reduceCtorEq,ON,kk,kp,dF,pT,re,H6,Ce,Am,Ch,iG,JE,Ov,forall_eq,maxLen]
 intro _ h1 h2 _ _ _ h3
 simp only [LN] at h1 h2 h3
 have hk:0≤b.aE.kind∧b.aE.kind < 5:=by omega
 have hr:=Vk r b seen hk (by omega)
 rw [az (by omega) (by omega)] at h3 ⊢
 exact ⟨by omega,⟨by omega,by omega⟩,gR,bG⟩
def Ky r b seen cE:=kk tok mixed Tryz.func98 [av r.cells,av b.cells,iv seen,iv cE] (fun x=>.ef [iv x.1,iv x.2]) true (wg r b seen cE) (Ci r b seen cE) (u2 (Qw r b seen cE))
theorem OM {r:af} {aJ day:Int} (hc:0≤aJ∧aJ < (r.aC.length:Int)) (hd:0≤day∧day≤100001) (hh:r.ba) (hr:r.Small):la r aJ day=jN r aJ day:=by
 have h1:dc r (aV r aJ) (r.aC.getD aJ.toNat default) day (la r aJ day):=wK r aJ day ⟨hc,hd,hh,hr⟩
 have h2:=(tf r aJ day ⟨hc,hd,hh⟩).2
 exact h1.uniq h2
theorem Qx (r:af) (b:jT) (seen cE:Int):Ci r b seen cE =
  bif (((lC r != 0)||(!(yj r b.aJ)))||(!(yj r b.qC)))||(!(g8 b.day)) then (0,1)
  else bif ((((((decide (b.aE.kind < 0))||(decide (b.aE.kind≥5)))||(decide (b.aE.unit < 0)))||(decide (b.aE.unit≥2)))||((seen != (-1))&&(!(g8 seen))))||(decide (cE < 0)))||(decide (cE > 20000)) then (0,1)
  else bif wa b.aE&&(seen == (-1)) then (0,4)
  else dZ (bif b.aE.kind == 4 then (bif (fY r b.aJ b.qC).2 != 0 then .inl (0,4) else .inr ()) else .inr ()) fun _ =>
   bif (decide (l8 r b seen < 0))||(decide ((ar (l8 r b seen+cE)) > 100000)) then (0,3) else ((la r b.qC (ar (l8 r b seen+cE))).1,(la r b.qC (ar (l8 r b seen+cE))).2):=by kernel_rfl
theorem Ma (r:af) (b:jT) (seen cE:Int):yI r b seen cE =
  bif (((jx r != 0)||(!(nz r b.aJ)))||(!(nz r b.qC)))||(!(m5 b.day)) then (0,1)
  else bif (((decide (b.aE.kind < 0))||(decide (b.aE.kind≥5)))||(decide (b.aE.unit < 0)))||(decide (b.aE.unit≥2)) then (0,1)
  else bif (((seen != (-1))&&(!(m5 seen)))||(decide (cE < 0)))||(decide (cE > 20000)) then (0,1)
  else bif qN b.aE&&(seen == (-1)) then (0,4)
  else bif (kX r b seen).2 != 0 then (0,(kX r b seen).2)
  else bif (!(m5 (kX r b seen).1))||(decide ((ar ((kX r b seen).1+cE)) > 100000)) then (0,3)
  else ((jN r b.qC (ar ((kX r b seen).1+cE))).1,(jN r b.qC (ar ((kX r b seen).1+cE))).2):=by kernel_rfl
theorem JK (d n:Int):(ch d n).2=0∨(ch d n).2=3:=by
 by_cases h:0≤d∧d≤100000
 ·by_cases h2:0≤n∧n≤5000
  ·rw [we h2,if_pos h]
   unfold Cg H4
   split
   ·exact .inl rfl
   ·exact .inr rfl
  ·by_cases h3:n > 5000
   ·rw [pC (.inr h3)]; exact .inr rfl
   ·simp only [ch,dJ,Sk.bU,Sk.aZ,Sk.aN,eo.qB,kk,kp,bD.Br,fF,jo,iy,rZ]
    cases (((!(bB d))||(decide (n < (-5000))))||(decide (n > 5000))) with
    | true=>exact .inr rfl
    | false =>
     simp only [cond_false]
     rw [Ve]
     unfold H4
     split
     ·exact .inl rfl
     ·exact .inr rfl
 ·rw [pC (.inl h)]; exact .inr rfl
theorem Vo (r:af) (b:jT) (seen:Int) (hk:b.aE.kind≠4):(k9 r b seen).2=0∨(k9 r b seen).2=3:=by
 have ha:∀ d,(DL d b.aE).2=0∨(DL d b.aE).2=3:=fun d=>by
  unfold DL
  cases ((decide (b.aE.n < 0))||(decide (b.aE.n > 20000))) with
  | true=>exact .inr rfl
  | false =>
   cases (b.aE.unit == 1) with
   | true=>exact JK _ _
   | false=>exact .inl rfl
 unfold k9
 rw [beq_eq_false_iff_ne.2 hk]
 cases (b.aE.kind == 0) with
 | true=>exact .inl rfl
 | false =>
  cases (b.aE.kind == 1) with
  | true=>exact ha _
  | false =>
   cases (b.aE.kind == 2) with
   | true=>exact ha _
   | false=>exact .inl rfl
theorem Qy (r:af) (x y:Int):(cD r x y).2=0∨(cD r x y).2=4:=by
 rw [← Eb]
 have e1:fY r x y=walk (uf x y) (fun _=>(0,4)) r.aM ():=by
  simp only [fY,kg,Sk.cu,Sk.cS,Sk.bQ,Sk.aZ,Sk.bU,Sk.cw,Sk.aN]
  refine (a9 r.aM (fun s i=>i) (uf x y) id _ (fun s i hi=>?_) (fun s=>?_) (by simp) ()).trans rfl
  ·rw [decide_eq_true (by omega),cond_true]
   unfold uf
   cases (((r.aM.getD i default).from_ == x)&&((r.aM.getD i default).bZ == y)) <;> rfl
  ·rw [decide_eq_false (by omega),cond_false]
 rw [e1]
 generalize r.aM=l
 induction l with
 | nil=>exact .inr rfl
 | cons a t ih =>
  simp only [walk,uf]
  cases ((a.from_ == x)&&(a.bZ == y)) with
  | true=>exact .inl rfl
  | false=>exact ih
theorem Vp {r:af} (b:jT) (seen cE:Int) (h1:jx r=0) (h2:lC r=0) (hh:r.ba) (hr:r.Small):Ci r b seen cE=yI r b seen cE:=by
 have ec:∀ x,yj r x=(decide (x≥0)&&decide (x < (r.aC.length:Int))):=fun _=>rfl
 have ei:∀ x,nz r x=(decide (x≥0)&&decide (x < (r.aC.length:Int))):=fun _=>rfl
 have ed:∀ x,m5 x=(decide (x≥0)&&decide (x≤100000)):=fun _=>rfl
 have ev:∀ x,g8 x=(decide (x≥0)&&decide (x≤100000)):=fun _=>rfl
 have es:wa b.aE=((b.aE.kind == 0)||(b.aE.kind == 1)):=rfl
 have et:qN b.aE=((b.aE.kind == 0)||(b.aE.kind == 1)):=rfl
 have z:((0:Int) != 0)=false:=rfl
 rw [Qx,Ma,h1,h2,z,ec,ec,ei,ei,ed,ed,ed,ev,ev,es,et]
 simp only [Bool.false_or]
 have hu:∀ x y,fY r x y=cD r x y:=fun x y=>qx r x y
 by_cases c1:(0≤b.aJ∧b.aJ < (r.aC.length:Int))∧(0≤b.qC∧b.qC < (r.aC.length:Int))∧(0≤b.day∧b.day≤100000)
 ·have a1:(((!(decide (b.aJ≥0)&&decide (b.aJ < (r.aC.length:Int))))||(!(decide (b.qC≥0)&&decide (b.qC < (r.aC.length:Int)))))||(!(decide (b.day≥0)&&decide (b.day≤100000))))=false:=by simp only [LN]; omega
  rw [a1,cond_false,cond_false]
  by_cases c2:(0≤b.aE.kind∧b.aE.kind < 5)∧(0≤b.aE.unit∧b.aE.unit < 2)
  ·have a2:((((decide (b.aE.kind < 0))||(decide (b.aE.kind≥5)))||(decide (b.aE.unit < 0)))||(decide (b.aE.unit≥2)))=false:=by simp only [LN]; omega
   rw [a2,cond_false,Bool.false_or]
   cases c3:((((seen != (-1))&&(!(decide (seen≥0)&&decide (seen≤100000))))||(decide (cE < 0)))||(decide (cE > 20000))) with
   | true=>rfl
   | false =>
    simp only [cond_false]
    cases c4:(((b.aE.kind == 0)||(b.aE.kind == 1))&&(seen == (-1))) with
    | true=>rfl
    | false =>
     simp only [cond_false]
     have hg:0≤cE∧cE≤20000:=by simp only [LN] at c3; omega
     rw [H7 r b seen c2.1,WR,hu]
     have fin:(k9 r b seen).2=0∨(k9 r b seen).2=3→(bif (decide (yk (k9 r b seen) < 0))||(decide ((ar (yk (k9 r b seen)+cE)) > 100000)) then ((0:Int),(3:Int)) else ((la r b.qC (ar (yk (k9 r b seen)+cE))).1,(la r b.qC (ar (yk (k9 r b seen)+cE))).2)) =
       bif (k9 r b seen).2 != 0 then (0,(k9 r b seen).2) else bif (!(decide ((k9 r b seen).1≥0)&&decide ((k9 r b seen).1≤100000)))||(decide ((ar ((k9 r b seen).1+cE)) > 100000)) then (0,3) else ((jN r b.qC (ar ((k9 r b seen).1+cE))).1,(jN r b.qC (ar ((k9 r b seen).1+cE))).2):=fun he=>by
      generalize k9 r b seen=p at he
      unfold yk
      rcases he with he | he
      ·rw [he]
       have e0:((0:Int) != 0)=false:=rfl
       rw [e0,Bool.false_or,cond_false]
       by_cases c5:0≤p.1∧p.1≤100000
       ·have a5:(!(decide (p.1≥0)&&decide (p.1≤100000)))=false:=by simp only [LN]; omega
        have a6:decide (p.1 < 0)=false:=decide_eq_false (by omega)
        rw [a5,cond_false,Bool.false_or,a6,Bool.false_or,az (by omega) (by omega)]
        by_cases c6:p.1+cE > 100000
        ·rw [decide_eq_true c6]; rfl
        ·rw [decide_eq_false c6,OM c1.2.1 ⟨by omega,by omega⟩ hh hr]
       ·have a5:(!(decide (p.1≥0)&&decide (p.1≤100000)))=true:=by simp only [LN]; omega
        rw [a5]; rfl
      ·rw [he]; rfl
     by_cases c7:b.aE.kind=4
     ·have a7:(b.aE.kind == 4)=true:=beq_iff_eq.2 c7
      have eb:(k9 r b seen).2=(cD r b.aJ b.qC).2:=by unfold k9; rw [c7]; rfl
      rw [a7,cond_true]
      rcases Qy r b.aJ b.qC with hU | hU
      ·have:=fin (.inl (eb.trans hU))
       rw [hU]
       exact this
      ·rw [eb,hU]; rfl
     ·have a7:(b.aE.kind == 4)=false:=beq_eq_false_iff_ne.2 c7
      rw [a7,cond_false]
      exact fin (Vo r b seen c7)
  ·have a2:((((decide (b.aE.kind < 0))||(decide (b.aE.kind≥5)))||(decide (b.aE.unit < 0)))||(decide (b.aE.unit≥2)))=true:=by simp only [LN]; omega
   rw [a2]; rfl
 ·have a1:(((!(decide (b.aJ≥0)&&decide (b.aJ < (r.aC.length:Int))))||(!(decide (b.qC≥0)&&decide (b.qC < (r.aC.length:Int)))))||(!(decide (b.day≥0)&&decide (b.day≤100000))))=true:=by simp only [LN]; omega
  rw [a1]; rfl
def mF (r:af) (aj:Int) (f:aD) (day:Int):Sk (Int) :=
 .r 1 ((uV f day).c) fun x1 =>
 .br (((x1.ai.length:Nat):Int) == 0)
 (.fin (-1))
 (.r 4 (.dep ((H0 r aj 6 f day).c) fun x2=>(Cc x2).c) fun p8 =>
 .bind false (fun _=>True)
 (.br (p8.2 == (-1))
 (.fin (.inr 0))
 (.fin (.inr p8.2)))
 (fun (b4:Int)=>⟨[(10,iv b4)],[]⟩) fun b4 =>
 .r 7 (.dep ((H2 x1).c) fun x5=>(Ky r f.aA x5 b4).c) fun p7 =>
 .br (p7.2.2 != 0)
 (.fin (-1))
 (.fin p7.2.1))
def rh r aj f day:=(mF r aj f day).val
theorem Fe (r:af) (aj:Int) (f:aD) (day:Int) (cA:f.Small) (bG:r.Small) (db:r.ck) (lG:r.n7) (gR:r.ba):(mF r aj f day).bE (fun _=>True):=by
 simp only [aD.Small,af.Small,af.ck,af.ba] at cA
 simp only [aD.Small,af.Small,af.ck,af.ba] at bG
 simp only [aD.Small,af.Small,af.ck,af.ba] at db
 simp only [aD.Small,af.Small,af.ck,af.ba] at gR
 unfold mF
 try simp only [Ky,uV,H2,H0,Cc,aD.Small,af.Small,af.ck,af.ba]
 exact oj
def yl r aj f day:=kk tok mixed Tryz.func67 [av r.cells,iv aj,av f.cells,iv day] (fun x=>iv x) true (mF r aj f day) (rh r aj f day) (u5 (Fe r aj f day))
def Kz (p:List Int):Int:=p.getD (ar (((p.length:Nat):Int) - 1)).toNat default
def KA (p:List Int) (e:Int):lO:=⟨⟨false,0⟩,-1,p,e⟩
theorem Qz (r:af) (fo q:Int) (c:cy):Cb r fo q c =
  bif ((((dk r fo c).length:Nat):Int) == 0)||(!(nP q)) then KA [] 1
  else bif ((nR r fo q (dk r fo c)).2 != 0)||((((nR r fo q (dk r fo c)).1.length:Nat):Int) == 0) then KA (nR r fo q (dk r fo c)).1 (nR r fo q (dk r fo c)).2
  else ⟨(oT (r.al.getD (Kz (nR r fo q (dk r fo c)).1).toNat default) q (kf r c)).1,Kz (nR r fo q (dk r fo c)).1,(nR r fo q (dk r fo c)).1,
   (oT (r.al.getD (Kz (nR r fo q (dk r fo c)).1).toNat default) q (kf r c)).2⟩:=by kernel_rfl
theorem Cj (r:af) (fo q:Int) (c:cy):Bx r fo q c =
  bif (((dQ r c).2.length:Nat):Int) == 0 then (KA [] 1,[]) else bif !(cJ q).2 then (KA [] 1,[])
  else bif (fC r fo (dQ r c).1).isEmpty then (KA [] 1,[])
  else bif (bh r fo q (fC r fo (dQ r c).1)).2 == 0 then (⟨⟨false,0⟩,Kz (bh r fo q (fC r fo (dQ r c).1)).1,(bh r fo q (fC r fo (dQ r c).1)).1,(bh r fo q (fC r fo (dQ r c).1)).2⟩,(dQ r c).2)
  else (KA (bh r fo q (fC r fo (dQ r c).1)).1 (bh r fo q (fC r fo (dQ r c).1)).2,(dQ r c).2):=by kernel_rfl
theorem Fx (r:af) (fo q:Int) (c:cy):s7 r fo q c=(fun x:lO × List ah=>bif x.1.order != (-1) then (⟨(eP (r.al.getD x.1.order.toNat default) q x.2).1,x.1.order,x.1.path,(eP (r.al.getD x.1.order.toNat default) q x.2).2⟩:lO) else x.1) (Bx r fo q c):=by kernel_rfl
theorem OO {r:af} (hr:r.Small) (hb:r.ck) (hq:r.n7) (hC:r.GA) (fo q:Int) (c:cy):Cb r fo q c=s7 r fo q c:=by
 have hl:∀ p,nR r fo q p=bh r fo q p:=fun p=>B7 r fo q p ⟨hb,hr,hq⟩
 rw [Qz,Fx,Cj,hl,N4 hr.2.1 hC,vU r c hr.2.1,Ea]
 cases h0:((((dQ r c).2.length:Nat):Int) == 0) with
 | true=>rfl
 | false =>
  simp only [cond_false]
  by_cases Rk:0≤q∧q < 22
  ·obtain ⟨t1,t2,t3⟩:=RI Rk
   rw [decide_eq_true Rk,t2]
   simp only [Bool.not_true,Bool.or_false,cond_false]
   generalize fC r fo (dQ r c).1=P
   cases P with
   | nil=>rfl
   | cons y P =>
    have e1:((((y :: P).length:Nat):Int) == 0)=false:=by rw [beq_eq_false_iff_ne]; simp only [List.length_cons]; omega
    have e2:(y :: P).isEmpty=false:=rfl
    rw [e1,e2,cond_false,cond_false]
    have Ok:(bh r fo q (y :: P)).2=0→(bh r fo q (y :: P)).1.length≠0∧(∀ z,z∈(bh r fo q (y :: P)).1→0≤z∧z < r.al.length)∧(bh r fo q (y :: P)).1.length≤r.al.length+1:=sW r fo q (y :: P)
    generalize bh r fo q (y :: P)=L at Ok
    by_cases h2:L.2=0
    ·have hp:=Ok h2
     have e3:((L.2 != 0)||(((L.1.length:Nat):Int) == 0))=false:=by simp only [LN]; exact ⟨h2,by omega⟩
     have e4:(L.2 == 0)=true:=beq_iff_eq.2 h2
     rw [e3,e4,cond_false,cond_true]
     have ND:=Fs hp.1 hp.2.1 (ar (((L.1.length:Nat):Int) - 1)).toNat
     have e5:(Kz L.1 != (-1))=true:=by rw [bne_iff_ne]; unfold Kz; omega
     simp only [e5,cond_true,Oj]
    ·have e3:((L.2 != 0)||(((L.1.length:Nat):Int) == 0))=true:=by rw [bne_iff_ne.2 h2]; rfl
     have e4:(L.2 == 0)=false:=beq_eq_false_iff_ne.2 h2
     rw [e3,e4]
     rfl
  ·rw [Oi Rk,decide_eq_false Rk]
   simp
   rfl
theorem OP (s:lO):sq s=kS s:=by
 have e1:sq s=bif (s.err == 0)&&s.cell.known then s.cell.n else -1:=rfl
 have e2:kS s=bif (s.err != 0)||(!s.cell.known) then -1 else s.cell.n:=rfl
 rw [e1,e2]
 unfold bne
 cases (s.err == 0) <;> cases s.cell.known <;> rfl
theorem abd (r:af) (f:aD) (d s h de du:Int):dQ r ⟨{ bn f d with facts:=[] },s,h,de,du,d⟩=dQ r ⟨{ f with facts:=[] },s,h,de,du,d⟩:=by
 have e:∀ g:aD,dQ r ⟨g,s,h,de,du,d⟩=(⟨bn g d,s,h,de,du,d⟩,sV r ⟨bn g d,s,h,de,du,d⟩):=fun _=>rfl
 have ea:bn { bn f d with facts:=[] } d=bn { f with facts:=[] } d:=by
  rw [jE,jE f d,jE { f with facts:=[] } d]
  simp only [xC,Nr,List.filter_nil]
 rw [e,e,ea]
theorem WT (r:af) (fo q:Int) (f:aD) (d:Int):kR r fo q (bn f d) d=kR r fo q f d:=by
 have e:∀ g:aD,kR r fo q g d=s7 r fo q ⟨{ g with facts:=[] },0,-1,-1,-1,d⟩:=fun _=>rfl
 rw [e,e,Fx,Fx,Cj,Cj,abd]
theorem SY {r:af} (hr:r.Small) (hb:r.ck) (hq:r.n7) (hC:r.GA) (fo q:Int) (f:aD) (d:Int):yi r fo q f d=kR r fo q f d:=by
 have e:∀ g:aD,kR r fo q g d=s7 r fo q ⟨{ g with facts:=[] },0,-1,-1,-1,d⟩:=fun _=>rfl
 have e2:∀ g:aD,yi r fo q g d=Cb r fo q ⟨{ g with facts:=[] },0,-1,-1,-1,d⟩:=fun _=>rfl
 rw [e,e2,OO hr hb hq hC]
theorem Vq (r:af) (fo:Int) (f:aD) (d:Int) : -1≤kS (kR r fo 6 f d)∧kS (kR r fo 6 f d)≤20000:=by
 have e:kR r fo 6 f d=s7 r fo 6 ⟨{ f with facts:=[] },0,-1,-1,-1,d⟩:=rfl
 have e2:∀ s:lO,kS s=bif (s.err != 0)||(!s.cell.known) then -1 else s.cell.n:=fun _=>rfl
 have hA:∀ (o:Order) (cs:List ah),(eP o 6 cs).1.known=true→0≤(eP o 6 cs).1.n∧(eP o 6 cs).1.n≤20000:=fun o cs=>by
  have e2:eP o 6 cs=bif (iM o 6).2 != 0 then (⟨false,0⟩,(iM o 6).2) else
   (fun x:ah=>bif ((cJ 6).1 == 0)&&x.known then (⟨x.known,eG (cp x.n 0) 20000⟩,0) else (x,0)) (oz (iM o 6).1 cs):=by kernel_rfl
  have et:((cJ 6).1 == 0)=true:=by kernel_rfl
  rw [e2,et]
  cases ((iM o 6).2 != 0) with
  | true=>intro h; cases h
  | false =>
   simp only [cond_false,Bool.true_and]
   generalize oz (iM o 6).1 cs=x
   cases hk:x.known with
   | false=>intro h; simp only [cond_false] at h; rw [hk] at h; cases h
   | true =>
    intro _
    show 0≤eG (cp x.n 0) 20000∧eG (cp x.n 0) 20000≤20000
    unfold eG cp
    (repeat' split) <;> omega
 rw [e,Fx,e2]
 generalize hx:Bx r fo 6 ⟨{ f with facts:=[] },0,-1,-1,-1,d⟩=x
 have hun:x.1.cell.known=false:=by
  rw [← hx,Cj]
  cases (((dQ r ⟨{ f with facts:=[] },0,-1,-1,-1,d⟩).2.length:Nat):Int) == 0 with
  | true=>rfl
  | false =>
   cases (cJ 6).2 with
   | false=>rfl
   | true =>
    cases (fC r fo (dQ r ⟨{ f with facts:=[] },0,-1,-1,-1,d⟩).1).isEmpty with
    | true=>rfl
    | false =>
     cases ((bh r fo 6 (fC r fo (dQ r ⟨{ f with facts:=[] },0,-1,-1,-1,d⟩).1)).2 == 0) <;> rfl
 dsimp only
 cases (x.1.order != (-1)) with
 | false=>simp only [cond_false,hun,Bool.not_false,Bool.or_true,cond_true]; omega
 | true =>
  simp only [cond_true]
  cases hk:(eP (r.al.getD x.1.order.toNat default) 6 x.2).1.known with
  | false=>simp only [Bool.not_false,Bool.or_true,cond_true]; omega
  | true =>
   have:=hA _ _ hk
   cases ((eP (r.al.getD x.1.order.toNat default) 6 x.2).2 != 0) with
   | true=>simp only [Bool.true_or,cond_true]; omega
   | false=>simp only [Bool.not_true,Bool.or_self,cond_false]; omega
theorem QA (r:af) (fo:Int) (f:aD) (d:Int):rh r fo f d =
  bif (((sg f d).ai.length:Nat):Int) == 0 then -1 else
  dZ (bif sq (yi r fo 6 f d) == (-1) then .inr (0:Int) else .inr (sq (yi r fo 6 f d))) fun g =>
  bif (Ci r f.aA (u1 (sg f d)) g).2 != 0 then -1 else (Ci r f.aA (u1 (sg f d)) g).1:=by kernel_rfl
def af.yS (r:af):Prop:=r.Small∧r.ck∧r.n7∧r.GA∧r.ba∧jx r=0∧lC r=0
theorem JL {r:af} (h:r.yS) {f:aD} (hf:f.Small) (fo d:Int):rh r fo f d=nG r fo f d:=by
 obtain ⟨hr,hb,hq,hC,hh,h1,h2⟩:=h
 have ea:sg f d=bn f d:=ya f d
 have eb:(bn f d).aA=f.aA:=by rw [jE]
 rw [QA,NG,ea,WT,OP,SY hr hb hq hC,SV _ (UC hf d),eb]
 have hg:=Vq r fo f d
 generalize kS (kR r fo 6 f d)=n at hg ⊢
 have en:(bif n == (-1) then (Sum.inr 0:Int ⊕ Int) else .inr n)=.inr (cp n 0):=by
  unfold cp
  by_cases c:n = -1
  ·subst c; rfl
  ·rw [beq_eq_false_iff_ne.2 c]
   show Sum.inr n=_
   congr 1
   split <;> omega
 rw [en,cN,Vp _ _ _ h1 h2 hh hr]
def ri (r:af) (aj:Int) (aL:Int) (f:aD) (sign:Int) (day:Int):Sk (lO) :=
 .r 1 ((yl r aj f day).c) fun x1 =>
 .r 2 ((yQ r aj aL ({ file:=f,sign:=sign,cF:=sign,fL:=(-1),due:=x1,day:=day }:cy)).c) fun x2 =>
 .fin x2
def yT r aj aL f sign day:=(ri r aj aL f sign day).val
theorem Mb (r:af) (aj:Int) (aL:Int) (f:aD) (sign:Int) (day:Int) (cA:f.Small) (bG:r.Small) (db:r.ck) (lG:r.n7) (gR:r.ba):(ri r aj aL f sign day).bE (fun _=>True):=by
 simp only [aD.Small,af.Small,af.ck,af.ba] at cA
 simp only [aD.Small,af.Small,af.ck,af.ba] at bG
 simp only [aD.Small,af.Small,af.ck,af.ba] at db
 simp only [aD.Small,af.Small,af.ck,af.ba] at gR
 unfold ri
 try simp only [yQ,yl,aD.Small,af.Small,af.ck,af.ba]
 exact oj
def Ec r aj aL f sign day:=kk tok mixed Tryz.func38 [av r.cells,iv aj,iv aL,av f.cells,iv sign,iv day] (fun x=>av x.cells) false (ri r aj aL f sign day) (yT r aj aL f sign day) (u5 (Mb r aj aL f sign day))
theorem QB {r:af} (h:r.yS) {f:aD} (hf:f.Small) (fo q s d:Int):yT r fo q f s d=s7 r fo q ⟨f,s,s,-1,nG r fo f d,d⟩:=by
 have e:yT r fo q f s d=Cb r fo q ⟨f,s,s,-1,rh r fo f d,d⟩:=rfl
 rw [e,JL h hf,OO h.1 h.2.1 h.2.2.1 h.2.2.2.1]
def wj (s:lO):Sk (Int) :=
 .br ((s.err != 0)||(s.cell.known&&(s.cell.n == 0)))
 (.fin 0)
 (.br s.cell.known
 (.fin 1)
 (.fin 2))
def Fy s:=(wj s).val
theorem QC (s:lO):(wj s).bE (fun _=>True):=by
 unfold wj
 exact mY
def KB s:=kk tok mixed Tryz.func37 [av s.cells] (fun x=>iv x) true (wj s) (Fy s) (u0 (QC s))
theorem Vr (s:lO):Fy s=Ft s:=by
 have e1:Fy s=bif (s.err != 0)||(s.cell.known&&(s.cell.n == 0)) then 0 else bif s.cell.known then 1 else 2:=rfl
 have e2:Ft s=bif s.err != 0 then 0 else bif !s.cell.known then 2 else bif s.cell.n != 0 then 1 else 0:=rfl
 rw [e1,e2]
 unfold bne
 cases (s.err == 0) <;> cases s.cell.known <;> cases (s.cell.n == 0) <;> rfl
def kH (r:af) (aj:Int) (f:aD) (j:aQ) (day:Int):Sk (Int) :=
 .r 1 (.dep ((jA r f j).c) fun x1=>.wh (x1 != 0) false ((iC aj ((r.al.length:Nat):Int)).c)) fun p6 =>
 .br ((((p6.1 != 0)||(!p6.2))||(decide (day < j.day)))||(decide (day > 100000)))
 (.fin 0)
 (.br (j.fq == aj)
 (.fin 1)
 (.r 5 (.dep ((Ec r aj 19 f j.sign day).c) fun x3=>(KB x3).c) fun p5 =>
 .fin p5.2))
def ld r aj f j day:=(kH r aj f j day).val
theorem Ck (r:af) (aj:Int) (f:aD) (j:aQ) (day:Int) (cA:f.Small) (bG:r.Small) (db:r.ck) (lG:r.n7) (gR:r.ba):(kH r aj f j day).bE (fun _=>True):=by
 simp only [aD.Small,af.Small,af.ck,af.ba] at cA
 simp only [aD.Small,af.Small,af.ck,af.ba] at bG
 simp only [aD.Small,af.Small,af.ck,af.ba] at db
 simp only [aD.Small,af.Small,af.ck,af.ba] at gR
 unfold kH
 try simp only [KB,Ec,jA,iC,yM,aD.Small,af.Small,af.ck,af.ba]
 exact qJ
def jv r aj f j day:=kk tok mixed Tryz.func16 [av r.cells,iv aj,av f.cells,av j.cells,iv day] (fun x=>iv x) true (kH r aj f j day) (ld r aj f j day) (u5 (Ck r aj f j day))
def tH (r:af) (aj:Int) (f:aD) (j:aQ) (l:List aw) (day:Int):Sk (Int × Int) :=
 .r 1 ((k7 r f j l day).c) fun x1 =>
 .br (x1.2 != 0)
 (.fin (0,x1.2))
 (.r 4 ((iC aj ((r.al.length:Nat):Int)).c) fun x2 =>
 .br ((!x2)||(decide (day < j.day)))
 (.fin (0,1))
 (.r 6 ((jv r aj f j day).c) fun x3 =>
 .br (x3 == 0)
 (.fin (0,4))
 (.br (x3 == 2)
 (.fin (0,17))
 (.r 11 ((lY r.ak j.sum j.aq f.aA.aq j.day).c) fun x4 =>
 .br (x4.2 != 0)
 (.fin (0,x4.2))
 (.br (decide (x1.1≥x4.1))
 (.fin (0,0))
 (.fin (ar (x4.1 - x1.1),0)))))))
def sy r aj f j l day:=(tH r aj f j l day).val
theorem OQ (r:af) (aj:Int) (f:aD) (j:aQ) (l:List aw) (day:Int) (cA:f.Small) (bG:r.Small) (db:r.ck) (lG:r.n7) (gR:r.ba):(tH r aj f j l day).bE (fun _=>True):=by
 simp only [aD.Small,af.Small,af.ck,af.ba] at cA
 simp only [aD.Small,af.Small,af.ck,af.ba] at bG
 simp only [aD.Small,af.Small,af.ck,af.ba] at db
 simp only [aD.Small,af.Small,af.ck,af.ba] at gR
 unfold tH
 try simp only [lY,k7,jv,iC,yM,aD.Small,af.Small,af.ck,af.ba]
 exact qJ
def sz r aj f j l day:=kk tok mixed Tryz.func9 [av r.cells,iv aj,av f.cells,av j.cells,lv aw.cells l,iv day] (fun x=>.ef [iv x.1,iv x.2]) true (tH r aj f j l day) (sy r aj f j l day) (u5 (OQ r aj f j l day))
def nW (r:af) (aj:Int) (f:aD) (j:aQ) (l:List aw) (day:Int) (sum:Int):Sk ((List aw) × Int) :=
 .br ((decide (sum < 1))||(decide (sum > 1099511627776)))
 (.fin ([],1))
 (.r 3 ((sz r aj f j l day).c) fun x1 =>
 .br (x1.2 != 0)
 (.fin ([],x1.2))
 (.br (x1.1 == 0)
 (.fin ([],7))
 (.br (decide (((l.length:Nat):Int)≥200))
 (.fin ([],6))
 (.r 11 (.au (.o [.dy (gr aw.E ([]:List aw))]) (.au (.au (.o [.dy (nY aw.E ([]:List aw) l)]) (.au (.t (aw.E.src l)) (.p (zb (([]:List aw).length) l.length 48)))) (.au (.o [.dy (gr aw.E [({ aA:=j.aA,from_:=j.cm,bZ:=j.aP,sum:=eG x1.1 sum,aq:=f.aA.aq,day:=day }:aw)])]) (.au (.o [.dy (nY aw.E (([]:List aw)++l) [({ aA:=j.aA,from_:=j.cm,bZ:=j.aP,sum:=eG x1.1 sum,aq:=f.aA.aq,day:=day }:aw)])]) (.au (.t (aw.E.sE [({ aA:=j.aA,from_:=j.cm,bZ:=j.aP,sum:=eG x1.1 sum,aq:=f.aA.aq,day:=day }:aw)])) (.p (zb ((([]:List aw)++l).length) [({ aA:=j.aA,from_:=j.cm,bZ:=j.aP,sum:=eG x1.1 sum,aq:=f.aA.aq,day:=day }:aw)].length 48))))))) fun _ =>
 .fin ((([]:List aw)++l)++[({ aA:=j.aA,from_:=j.cm,bZ:=j.aP,sum:=eG x1.1 sum,aq:=f.aA.aq,day:=day }:aw)],0)))))
def ym r aj f j l day sum:=(nW r aj f j l day sum).val
theorem H9 (r:af) (aj:Int) (f:aD) (j:aQ) (l:List aw) (day:Int) (sum:Int) (cA:f.Small) (bG:r.Small) (db:r.ck) (lG:r.n7) (gR:r.ba):(nW r aj f j l day sum).bE (fun _=>True):=by
 simp only [aD.Small,af.Small,af.ck,af.ba] at cA
 simp only [aD.Small,af.Small,af.ck,af.ba] at bG
 simp only [aD.Small,af.Small,af.ck,af.ba] at db
 simp only [aD.Small,af.Small,af.ck,af.ba] at gR
 unfold nW
 try simp only [sz,aD.Small,af.Small,af.ck,af.ba]
 exact oj
def ug r aj f j l day sum:=kk tok mixed Tryz.func11 [av r.cells,iv aj,av f.cells,av j.cells,lv aw.cells l,iv day,iv sum] (fun x=>.ef [lv aw.cells x.1,iv x.2]) false (nW r aj f j l day sum) (ym r aj f j l day sum) (u5 (H9 r aj f j l day sum))
theorem SZ (r:af) (f:aD) (j:aQ):fa r f j=(bif (((!((((((aW j.fq r.al.length&&aW j.aA 50)&&aW j.sum 1099511627777)&&aW j.aq r.aX.length)&&aW j.day 100001)&&aW j.aP r.bg.length)&&(j.aP != j.cm)))||(!aW j.sign (bn f j.day).ai.length))||((((bn f j.day).ai.getD j.sign.toNat default).nX) != j.cm)) then 1 else 0):=by kernel_rfl
theorem Mc (r:af) (f:aD) (j:aQ):uW r f j =
  bif (((((((!(lM j.fq ((r.al.length:Nat):Int)))||(!(lM j.aA 50)))||(decide (j.sum < 0)))||(decide (j.sum > 1099511627776)))||(!(lM j.aq ((r.aX.length:Nat):Int))))||(decide (j.day < 0)))||(decide (j.day > 100000))) then 1 else
  bif ((((!(lM j.sign (((sg f j.day).ai.length:Nat):Int)))||(!(lM j.aP ((r.bg.length:Nat):Int))))||(j.aP == j.cm))||((((sg f j.day).ai.getD j.sign.toNat default).nX) != j.cm)) then 1 else 0:=by kernel_rfl
theorem wm (r:af) (f:aD) (j:aQ):uW r f j=fa r f j:=by
 have ea:sg f j.day=bn f j.day:=ya f j.day
 have hw:∀ i n:Int,aW i n=(decide (i≥0)&&decide (i < n)):=fun _ _=>rfl
 have hi:∀ i n:Int,lM i n=(decide (i≥0)&&decide (i < n)):=fun _ _=>rfl
 rw [Mc,SZ,ea]
 simp only [hw,hi]
 by_cases c:((0≤j.fq∧j.fq < (r.al.length:Int))∧(0≤j.aA∧j.aA < 50)∧(0≤j.sum∧j.sum≤1099511627776)∧(0≤j.aq∧j.aq < (r.aX.length:Int))∧(0≤j.day∧j.day≤100000)) ∧
   (0≤j.sign∧j.sign < ((bn f j.day).ai.length:Int))∧(0≤j.aP∧j.aP < (r.bg.length:Int))∧j.aP≠j.cm∧((bn f j.day).ai.getD j.sign.toNat default).nX=j.cm
 ·have a1:(((((((!(decide (j.fq≥0)&&decide (j.fq < (r.al.length:Int))))||(!(decide (j.aA≥0)&&decide (j.aA < 50))))||(decide (j.sum < 0)))||(decide (j.sum > 1099511627776)))||(!(decide (j.aq≥0)&&decide (j.aq < (r.aX.length:Int)))))||(decide (j.day < 0)))||(decide (j.day > 100000)))=false:=by
   simp only [LN]; omega
  have a2:((((!(decide (j.sign≥0)&&decide (j.sign < ((bn f j.day).ai.length:Int))))||(!(decide (j.aP≥0)&&decide (j.aP < (r.bg.length:Int)))))||(j.aP == j.cm))||((((bn f j.day).ai.getD j.sign.toNat default).nX) != j.cm))=false:=by
   simp only [LN]; exact ⟨⟨⟨by omega,by omega⟩,c.2.2.2.1⟩,c.2.2.2.2⟩
  have a3:(((!((((((((decide (j.fq≥0)&&decide (j.fq < (r.al.length:Int)))&&(decide (j.aA≥0)&&decide (j.aA < 50)))&&(decide (j.sum≥0)&&decide (j.sum < 1099511627777)))&&(decide (j.aq≥0)&&decide (j.aq < (r.aX.length:Int))))&&(decide (j.day≥0)&&decide (j.day < 100001)))&&(decide (j.aP≥0)&&decide (j.aP < (r.bg.length:Int))))&&(j.aP != j.cm))))||(!(decide (j.sign≥0)&&decide (j.sign < ((bn f j.day).ai.length:Int)))) )||((((bn f j.day).ai.getD j.sign.toNat default).nX) != j.cm))=false:=by
   simp only [LN]; exact ⟨⟨⟨by omega,c.2.2.2.1⟩,by omega⟩,c.2.2.2.2⟩
  rw [a1,a2,a3]; rfl
 ·by_cases c1:(0≤j.fq∧j.fq < (r.al.length:Int))∧(0≤j.aA∧j.aA < 50)∧(0≤j.sum∧j.sum≤1099511627776)∧(0≤j.aq∧j.aq < (r.aX.length:Int))∧(0≤j.day∧j.day≤100000)
  ·have hz:∀ (A B:Bool),A=true→B=true→(bif A then (1:Int) else bif B then 1 else 0)=1:=fun A B h1 h2=>by rw [h1]; rfl
   have a2:((((!(decide (j.sign≥0)&&decide (j.sign < ((bn f j.day).ai.length:Int))))||(!(decide (j.aP≥0)&&decide (j.aP < (r.bg.length:Int)))))||(j.aP == j.cm))||((((bn f j.day).ai.getD j.sign.toNat default).nX) != j.cm))=true:=by
    rw [← Bool.not_eq_false]
    intro h
    simp only [LN] at h
    exact c ⟨c1,by omega,by omega,h.1.2,h.2⟩
   have a3:(((!((((((((decide (j.fq≥0)&&decide (j.fq < (r.al.length:Int)))&&(decide (j.aA≥0)&&decide (j.aA < 50)))&&(decide (j.sum≥0)&&decide (j.sum < 1099511627777)))&&(decide (j.aq≥0)&&decide (j.aq < (r.aX.length:Int))))&&(decide (j.day≥0)&&decide (j.day < 100001)))&&(decide (j.aP≥0)&&decide (j.aP < (r.bg.length:Int))))&&(j.aP != j.cm))))||(!(decide (j.sign≥0)&&decide (j.sign < ((bn f j.day).ai.length:Int)))) )||((((bn f j.day).ai.getD j.sign.toNat default).nX) != j.cm))=true:=by
    rw [← Bool.not_eq_false]
    intro h
    simp only [LN] at h
    exact c ⟨c1,by omega,by omega,h.1.1.2,h.2⟩
   rw [a2,a3]
   cases (((((((!(decide (j.fq≥0)&&decide (j.fq < (r.al.length:Int))))||(!(decide (j.aA≥0)&&decide (j.aA < 50))))||(decide (j.sum < 0)))||(decide (j.sum > 1099511627776)))||(!(decide (j.aq≥0)&&decide (j.aq < (r.aX.length:Int)))))||(decide (j.day < 0)))||(decide (j.day > 100000))) <;> rfl
  ·have a1:(((((((!(decide (j.fq≥0)&&decide (j.fq < (r.al.length:Int))))||(!(decide (j.aA≥0)&&decide (j.aA < 50))))||(decide (j.sum < 0)))||(decide (j.sum > 1099511627776)))||(!(decide (j.aq≥0)&&decide (j.aq < (r.aX.length:Int)))))||(decide (j.day < 0)))||(decide (j.day > 100000)))=true:=by
    rw [← Bool.not_eq_false]
    intro h
    simp only [LN] at h
    exact c1 (by omega)
   have a3:(((!((((((((decide (j.fq≥0)&&decide (j.fq < (r.al.length:Int)))&&(decide (j.aA≥0)&&decide (j.aA < 50)))&&(decide (j.sum≥0)&&decide (j.sum < 1099511627777)))&&(decide (j.aq≥0)&&decide (j.aq < (r.aX.length:Int))))&&(decide (j.day≥0)&&decide (j.day < 100001)))&&(decide (j.aP≥0)&&decide (j.aP < (r.bg.length:Int))))&&(j.aP != j.cm))))||(!(decide (j.sign≥0)&&decide (j.sign < ((bn f j.day).ai.length:Int)))) )||((((bn f j.day).ai.getD j.sign.toNat default).nX) != j.cm))=true:=by
    rw [← Bool.not_eq_false]
    intro h
    simp only [LN] at h
    exact c1 (by omega)
   rw [a1,a3]; rfl
theorem S4 (r:af) (fo:Int) (f:aD) (j:aQ) (d:Int):fH r fo f j d=bif ((fa r f j != 0||!(aW fo (r.al.length:Int)))||decide (d < j.day))||decide (d > 100000) then 0 else bif fo == j.fq then 1 else Ft (s7 r fo 19 ⟨f,j.sign,j.sign,-1,nG r fo f d,d⟩):=by kernel_rfl
theorem Md (r:af) (fo:Int) (f:aD) (j:aQ) (d:Int):ld r fo f j d=bif ((uW r f j != 0||!(lM fo (r.al.length:Int)))||decide (d < j.day))||decide (d > 100000) then 0 else bif j.fq == fo then 1 else Fy (yT r fo 19 f j.sign d):=by kernel_rfl
theorem Ia {r:af} (h:r.yS) {f:aD} (hf:f.Small) (fo:Int) (j:aQ) (d:Int):ld r fo f j d=fH r fo f j d:=by
 have hi:lM fo (r.al.length:Int)=aW fo (r.al.length:Int):=rfl
 have hc:(j.fq == fo)=(fo == j.fq):=by rw [Bool.eq_iff_iff,beq_iff_eq,beq_iff_eq]; exact eq_comm
 rw [Md,S4,wm,hi,hc,QB h hf,Vr]
def Ib (r:af) (x:aw) (_:Unit):(Int × Int) ⊕ Unit:=bif !(m8 r x) then .inl (0,1) else .inr ()
theorem RM (r:af) (y:Int × Int):∀ (l:List aw),walk (Ib r) (fun _=>y) l ()=bif l.any (fun x=>!(m8 r x)) then (0,1) else y
 | []=>rfl
 | x :: t=>by
  simp only [walk,Ib,List.any_cons]
  cases (m8 r x) with
  | true=>exact RM r y t
  | false=>rfl
def DM (r:af) (f:aD) (j:aQ) (day:Int) (x:aw) (n:Int):(Int × Int) ⊕ Int :=
 bif ((x.aA == j.aA)&&(x.bZ == j.aP))&&decide (x.day≤day) then
  (bif (fc r.ak x.sum x.aq f.aA.aq x.day).2 != 0 then .inl (0,(fc r.ak x.sum x.aq f.aA.aq x.day).2)
  else .inr (ar (n+(fc r.ak x.sum x.aq f.aA.aq x.day).1))) else .inr n
theorem QD {r:af} (hR:∀ x,x∈r.ak→nN x) (f:aD) (j:aQ) (day:Int) (x:aw) (n:Int):DM r f j day x n=uR r f j day x n:=by
 unfold DM uR
 rw [B2 hR]
 by_cases c:(x.aA=j.aA∧x.bZ=j.aP)∧x.day≤day
 ·have a:(((x.aA == j.aA)&&(x.bZ == j.aP))&&decide (x.day≤day))=true:=by simp only [LN]; exact c
  have b:(((x.aA != j.aA)||(x.bZ != j.aP))||decide (x.day > day))=false:=by simp only [LN]; exact c
  rw [a,b,cond_true,cond_false]
 ·have a:(((x.aA == j.aA)&&(x.bZ == j.aP))&&decide (x.day≤day))=false:=by
   rw [← Bool.not_eq_true]; simp only [LN]; exact c
  have b:(((x.aA != j.aA)||(x.bZ != j.aP))||decide (x.day > day))=true:=by
   rw [← Bool.not_eq_false]; simp only [LN]; exact c
  rw [a,b,cond_true,cond_false]
theorem Ic (r:af) (f:aD) (j:aQ) (l:List aw) (day:Int):iD r f j l day =
  bif ((uW r f j != 0)||decide (day < 0))||decide (day > 100000) then (0,1) else bif decide ((l.length:Int) > 200) then (0,6) else walk (Ib r) (fun _=>walk (DM r f j day) (fun n=>(n,0)) l 0) l ():=by
 simp only [iD,jZ,Sk.bU,Sk.aZ,Sk.aN,Sk.cu,Sk.cS,eo.qB,kk,kp,jA]
 congr 1
 congr 1
 refine (a9 l (fun (s:Unit) i=>i) (Ib r) id _ (fun s i hi=>?_) (fun s=>?_) (by simp) ()).trans ?_
 ·simp only [Sk.bQ,Sk.aZ,Sk.bU,Sk.cw,Sk.aN,bD.tJ,eo.qB,kk,kp,yb]
  rw [decide_eq_true (by omega),cond_true]
  unfold Ib
  cases (m8 r (l.getD i default)) <;> rfl
 ·simp only [Sk.bQ,Sk.aZ,Sk.bU,Sk.cw,Sk.aN]
  rw [decide_eq_false (by omega),cond_false]
 ·congr 1
  funext u
  refine (a9 l (fun s i=>(s,i)) (DM r f j day) id _ (fun s i hi=>?_) (fun s=>?_) (by simp) 0).trans ?_
  ·simp only [Sk.bQ,Sk.aZ,Sk.bU,Sk.cw,Sk.aN,bD.tJ,eo.qB,kk,kp,lY]
   rw [decide_eq_true (by omega),cond_true]
   unfold DM
   cases (((l.getD i default).aA == j.aA&&(l.getD i default).bZ == j.aP)&&decide ((l.getD i default).day≤day)) with
   | false=>rfl
   | true=>cases ((fc r.ak (l.getD i default).sum (l.getD i default).aq f.aA.aq (l.getD i default).day).2 != 0) <;> rfl
  ·simp only [Sk.bQ,Sk.aZ,Sk.bU,Sk.cw,Sk.aN]
   rw [decide_eq_false (by omega),cond_false]
   rfl
  ·rfl
theorem Ie (r:af) (x:aw):m8 r x=kq r x:=by
 have e1:m8 r x=((((((lM x.from_ (r.bg.length:Int)&&lM x.bZ (r.bg.length:Int))&&decide (x.sum≥0))&&decide (x.sum≤1099511627776))&&lM x.aq (r.aX.length:Int))&&decide (x.day≥0))&&decide (x.day≤100000)):=by kernel_rfl
 have e2:kq r x=((((aW x.from_ (r.bg.length:Int)&&aW x.bZ (r.bg.length:Int))&&aW x.sum 1099511627777)&&aW x.aq (r.aX.length:Int))&&aW x.day 100001):=by kernel_rfl
 have hw:∀ i n:Int,aW i n=(decide (i≥0)&&decide (i < n)):=fun _ _=>rfl
 have hi:∀ i n:Int,lM i n=(decide (i≥0)&&decide (i < n)):=fun _ _=>rfl
 rw [e1,e2,Bool.eq_iff_iff]
 simp only [hw,hi]
 simp only [LN]
 omega
theorem Vs (r:af) (l:List aw):l.any (fun x=>!(m8 r x))=dw l r:=by
 have hp:dw l r=true↔∃ q,q < l.length∧bW (l.getD q default) r=true:=qK l r
 rw [Bool.eq_iff_iff,hp,List.any_eq_true]
 constructor
 ·rintro ⟨x,hx,h⟩
  obtain ⟨q,hq,e⟩:=List.getElem_of_mem hx
  refine ⟨q,hq,?_⟩
  have e2:l.getD q default=x:=by simp [List.getD,hq,e]
  rw [e2,Xx,← Ie]; exact h
 ·rintro ⟨q,hq,h⟩
  rw [Xx,← Ie] at h
  exact ⟨_,ic hq default,h⟩
theorem zJ {r:af} (hR:∀ x,x∈r.ak→nN x) (f:aD) (j:aQ) (l:List aw) (day:Int):iD r f j l day=bH r f j l day:=by
 have hd:(((fa r f j != 0)||decide (day < 0))||decide (day > 100000))=((fa r f j != 0)||!(aW day 100001)):=by
  have hw:aW day 100001=(decide (day≥0)&&decide (day < 100001)):=rfl
  rw [hw,Bool.or_assoc]
  congr 1
  rw [Bool.eq_iff_iff]
  simp only [LN]
  omega
 rw [Ic,D3,wm,hd,RM,Vs]
 unfold recv
 have e:DM r f j day=uR r f j day:=funext fun x=>funext fun n=>QD hR f j day x n
 rw [e]
theorem OS {s a b:Int} (hs:0≤s) (ha:1≤a) (hb:1≤b) (h:(Jm s a b).2=0):0≤(Jm s a b).1∧(Jm s a b).1≤1099511627776:=by
 unfold Jm at h ⊢
 by_cases c:s * a / b≤1099511627776
 ·rw [if_pos c]
  exact ⟨Int.ediv_nonneg (Int.mul_nonneg hs (by omega)) (by omega),c⟩
 ·rw [if_neg c] at h; exact absurd (show (3:Int)=0 from h) (by decide)
theorem Ed {ak:List bV} (hf:∀ x,x∈ak→nN x) {s a b on:Int} (h:(bF ak s a b on).2=0):0≤(bF ak s a b on).1∧(bF ak s a b on).1≤1099511627776:=by
 rw [wI hf] at h ⊢
 unfold NZ at h ⊢
 cases hc:WC ak.length s on with
 | true=>rw [hc] at h; exact absurd (show (1:Int)=0 from h) (by decide)
 | false =>
  rw [hc] at h
  have hs:0≤s∧s≤1099511627776:=by
   unfold WC at hc; simp only [LN] at hc; omega
  simp only [cond_false] at h ⊢
  cases hab:(a == b) with
  | true=>exact hs
  | false =>
   rw [hab] at h
   simp only [cond_false] at h ⊢
   unfold cv at h ⊢
   cases h1:(zF a b on ak).1 with
   | true =>
    rw [h1] at h
    have hr:=Fu hf h1
    exact OS hs.1 hr.1.1 hr.2.1 h
   | false =>
    rw [h1] at h
    simp only [cond_false] at h ⊢
    cases h2:(zF b a on ak).1 with
    | true =>
     rw [h2] at h
     have hr:=Fu hf h2
     exact OS hs.1 hr.2.1 hr.1.1 h
    | false=>rw [h2] at h; exact absurd (show (4:Int)=0 from h) (by decide)
theorem Ig {r:af} (hR:∀ x,x∈r.ak→nN x) {f:aD} {j:aQ} {day:Int}:∀ (l:List aw) (n:Int),0≤n→n+(l.length:Int) * 1099511627776≤9000000000000000000→(walk (uR r f j day) (fun n=>(n,(0:Int))) l n).2=0→0≤(walk (uR r f j day) (fun n=>(n,(0:Int))) l n).1∧(walk (uR r f j day) (fun n=>(n,(0:Int))) l n).1≤n+(l.length:Int) * 1099511627776
 | [],n,h0,_,_=>by simp only [walk,List.length_nil]; omega
 | x :: t,n,h0,hb,h=>by
  simp only [List.length_cons] at hb ⊢
  have mG:uR r f j day x n=.inr n∨((bF r.ak x.sum x.aq f.aA.aq x.day).2=0∧uR r f j day x n=.inr (ar (n+(bF r.ak x.sum x.aq f.aA.aq x.day).1)))∨∃ e,e≠0∧uR r f j day x n=.inl (0,e):=by
   unfold uR
   cases (((x.aA != j.aA)||(x.bZ != j.aP))||decide (x.day > day)) with
   | true=>exact .inl rfl
   | false =>
    by_cases c:(bF r.ak x.sum x.aq f.aA.aq x.day).2=0
    ·exact .inr (.inl ⟨c,by rw [bne_eq_false_iff_eq.2 c]; rfl⟩)
    ·exact .inr (.inr ⟨_,c,by rw [bne_iff_ne.2 c]; rfl⟩)
  rcases mG with e | ⟨c,e⟩ | ⟨z,hz,e⟩
  ·simp only [walk,e] at h ⊢
   have:=Ig hR t n h0 (by omega) h
   omega
  ·have hm:=Ed hR c
   simp only [walk,e] at h ⊢
   rw [az (by omega) (by omega)] at h ⊢
   have:=Ig hR t _ (by omega) (by omega) h
   omega
  ·simp only [walk,e] at h
   exact absurd h hz
theorem Ee {r:af} (hR:∀ x,x∈r.ak→nN x) {f:aD} {j:aQ} {l:List aw} {day:Int} (h:(bH r f j l day).2=0):l.length≤200∧0≤(bH r f j l day).1∧(bH r f j l day).1≤219902325555200:=by
 rw [D3] at h ⊢
 cases a1:((fa r f j != 0)||!(aW day 100001)) with
 | true=>rw [a1] at h; exact absurd (show (1:Int)=0 from h) (by decide)
 | false =>
  rw [a1] at h
  simp only [cond_false] at h ⊢
  by_cases a2:(l.length:Int) > 200
  ·rw [decide_eq_true a2] at h; exact absurd (show (6:Int)=0 from h) (by decide)
  ·rw [decide_eq_false a2] at h ⊢
   simp only [cond_false] at h ⊢
   cases a3:dw l r with
   | true=>rw [a3] at h; exact absurd (show (1:Int)=0 from h) (by decide)
   | false =>
    rw [a3] at h
    simp only [cond_false] at h ⊢
    have:=Ig hR (f:=f) (j:=j) (day:=day) l 0 (by omega) (by omega) h
    unfold recv
    omega
theorem QE (r:af) (fo:Int) (f:aD) (j:aQ) (l:List aw) (day:Int):sy r fo f j l day =
  bif (iD r f j l day).2 != 0 then (0,(iD r f j l day).2) else bif (!(lM fo r.al.length))||decide (day < j.day) then (0,1)
  else bif ld r fo f j day == 0 then (0,4) else bif ld r fo f j day == 2 then (0,17)
  else bif (fc r.ak j.sum j.aq f.aA.aq j.day).2 != 0 then (0,(fc r.ak j.sum j.aq f.aA.aq j.day).2)
  else bif decide ((iD r f j l day).1≥(fc r.ak j.sum j.aq f.aA.aq j.day).1) then (0,0) else (ar ((fc r.ak j.sum j.aq f.aA.aq j.day).1 - (iD r f j l day).1),0):=by kernel_rfl
theorem KC {r:af} (h:r.yS) (hR:∀ x,x∈r.ak→nN x) {f:aD} (hf:f.Small) (fo:Int) (j:aQ) (l:List aw) (day:Int):sy r fo f j l day=cU r fo f j l day:=by
 have hi:lM fo (r.al.length:Int)=aW fo (r.al.length:Int):=rfl
 rw [QE,Rs,zJ hR,Ia h hf,B2 hR,hi]
 by_cases c1:(bH r f j l day).2=0
 ·have hn:=Ee hR c1
  rw [bne_eq_false_iff_eq.2 c1,cond_false,cond_false]
  congr 1
  congr 1
  congr 1
  by_cases c2:(bF r.ak j.sum j.aq f.aA.aq j.day).2=0
  ·have hm:=Ed hR c2
   rw [bne_eq_false_iff_eq.2 c2,cond_false,cond_false,az (by omega) (by omega)]
   by_cases c3:(bH r f j l day).1≥(bF r.ak j.sum j.aq f.aA.aq j.day).1
   ·rw [decide_eq_true c3,cond_true]
    have:cp ((bF r.ak j.sum j.aq f.aA.aq j.day).1 - (bH r f j l day).1) 0=0:=by unfold cp; split <;> omega
    rw [this]
   ·rw [decide_eq_false c3,cond_false]
    have:cp ((bF r.ak j.sum j.aq f.aA.aq j.day).1 - (bH r f j l day).1) 0=(bF r.ak j.sum j.aq f.aA.aq j.day).1 - (bH r f j l day).1:=by unfold cp; split <;> omega
    rw [this]
  ·rw [bne_iff_ne.2 c2,cond_true,cond_true]
 ·rw [bne_iff_ne.2 c1,cond_true,cond_true]
theorem OT (r:af) (aj:Int) (f:aD) (j:aQ) (l:List aw) (day sum:Int):nH r aj f j l day sum =
  bif !(aW (ar (sum - 1)) 1099511627776) then ([],1) else bif (cU r aj f j l day).2 != 0 then ([],(cU r aj f j l day).2) else bif (cU r aj f j l day).1 == 0 then ([],7)
  else bif ((l.length:Nat):Int) == 200 then ([],6)
  else (jO l++[({ aA:=j.aA,from_:=j.cm,bZ:=j.aP,sum:=eG sum (cU r aj f j l day).1,aq:=f.aA.aq,day:=day }:aw)],0):=by kernel_rfl
theorem Ih (r:af) (aj:Int) (f:aD) (j:aQ) (l:List aw) (day sum:Int):ym r aj f j l day sum =
  bif (decide (sum < 1))||(decide (sum > 1099511627776)) then ([],1) else bif (sy r aj f j l day).2 != 0 then ([],(sy r aj f j l day).2) else bif (sy r aj f j l day).1 == 0 then ([],7)
  else bif decide (((l.length:Nat):Int)≥200) then ([],6)
  else (([]++l)++[({ aA:=j.aA,from_:=j.cm,bZ:=j.aP,sum:=eG (sy r aj f j l day).1 sum,aq:=f.aA.aq,day:=day }:aw)],0):=by kernel_rfl
theorem QF (l:List aw):jO l=l:=by
 simp [jO,fX]
theorem Vt {r:af} (hR:∀ x,x∈r.ak→nN x) {fo:Int} {f:aD} {j:aQ} {l:List aw} {day:Int} (h:(cU r fo f j l day).2=0):l.length≤200:=by
 rw [Rs] at h
 by_cases c1:(bH r f j l day).2=0
 ·exact (Ee hR c1).1
 ·rw [bne_iff_ne.2 c1] at h
  exact absurd h c1
theorem Me {r:af} (h:r.yS) (hR:∀ x,x∈r.ak→nN x) {f:aD} (hf:f.Small) (fo:Int) (j:aQ) (l:List aw) (day sum:Int) (hs : -9223372036854775808≤sum∧sum≤9223372036854775807):ym r fo f j l day sum=nH r fo f j l day sum:=by
 rw [Ih,OT,KC h hR hf,QF,List.nil_append]
 have hw:aW (ar (sum - 1)) 1099511627776=(decide (ar (sum - 1)≥0)&&decide (ar (sum - 1) < 1099511627776)):=rfl
 have hc:((decide (sum < 1))||(decide (sum > 1099511627776))) = !(aW (ar (sum - 1)) 1099511627776):=by
  rw [hw,Bool.eq_iff_iff]
  by_cases c:sum = -9223372036854775808
  ·subst c; decide
  ·rw [az (by omega) (by omega)]
   simp only [LN]
   omega
 rw [hc]
 congr 1
 by_cases c1:(cU r fo f j l day).2=0
 ·have hl:=Vt hR c1
  rw [bne_eq_false_iff_eq.2 c1,cond_false,cond_false]
  congr 1
  have e:decide (((l.length:Nat):Int)≥200)=(((l.length:Nat):Int) == 200):=by
   rw [Bool.eq_iff_iff]; simp only [LN]; omega
  have em:eG (cU r fo f j l day).1 sum=eG sum (cU r fo f j l day).1:=by unfold eG; (repeat' split) <;> omega
  rw [e,em]
 ·rw [bne_iff_ne.2 c1,cond_true,cond_true]
def qf (a:List aw) (b:List aw):Sk (Bool) :=
 .br (((a.length:Nat):Int) != ((b.length:Nat):Int))
 (.fin false)
 (.bt
 (.loop (default:Sum (Bool) (Unit)) (fun i2=>i2≤a.length) (fun i2=>a.length - i2) (0:Nat)
 (fun (i2:Nat)=>⟨[(5,iv (i2:Int))],[]⟩) fun i2 =>
 .lt 0 0 i2 a.length
 (.r 6 (.au (.p (bz (i2:Int) a.length)) (.p (bz (i2:Int) b.length))) fun _ =>
 .br (!((((a.getD i2 default).aA) == ((b.getD i2 default).aA))&&((((a.getD i2 default).from_) == ((b.getD i2 default).from_))&&((((a.getD i2 default).bZ) == ((b.getD i2 default).bZ))&&((((a.getD i2 default).sum) == ((b.getD i2 default).sum))&&((((a.getD i2 default).aq) == ((b.getD i2 default).aq))&&((((a.getD i2 default).day) == ((b.getD i2 default).day))&&true)))))))
 (.fin (.inl (.inl false)))
 (.nx 5 5 i2 (i2+1)))
 (.fin (.inl (.inr ()))))
 (fun (_:Unit)=>⟨[],[]⟩) fun _ =>
 .fin true)
def Ii a b:=(qf a b).val
theorem OU (a:List aw) (b:List aw):(qf a b).bE (fun _=>True):=by
 unfold qf
 exact oj
def Ar a b:=kk tok mixed Tryz.func12 [lv aw.cells a,lv aw.cells b] (fun x=>bv x) true (qf a b) (Ii a b) (u0 (OU a b))
theorem S5 (l:List aw):Ii l l=true:=by
 have rA:(((l.length:Nat):Int) != ((l.length:Nat):Int))=false:=bne_self_eq_false _
 simp only [Ii,qf,Sk.aZ,Sk.cu,Sk.cS,Sk.aN]
 rw [rA,cond_false]
 refine (a9 l (fun (s:Unit) i=>i) (fun x (_:Unit)=>(.inr ():Bool ⊕ Unit)) id _ (fun s i hi=>?_) (fun s=>?_) (by simp) ()).trans ?_
 ·simp only [Sk.bQ,Sk.aZ,Sk.bU,Sk.cw,Sk.aN,beq_self_eq_true,Bool.and_self,Bool.not_true,cond_false]
  rw [decide_eq_true (by omega),cond_true]
 ·simp only [Sk.bQ,Sk.aZ,Sk.bU,Sk.cw,Sk.aN]
  rw [decide_eq_false (by omega),cond_false]
 ·rw [gZ]
theorem OV {r:af} (h:lC r=0):oH r=0∧sf r=0:=by
 have e:lC r=dZ (bif oH r == 0 then .inr (yJ r) else .inr (oH r)) fun b2=>dZ (bif b2 == 0 then .inr (sf r) else .inr b2) fun b4=>dZ (bif b4 == 0 then .inr (D4 r) else .inr b4) fun b6=>bif b6 == 0 then Hp r else b6:=by kernel_rfl
 rw [e] at h
 have z:∀ x:Int,x≠0→(x == 0)=false:=fun x hx=>beq_eq_false_iff_ne.2 hx
 by_cases c1:oH r=0
 ·refine ⟨c1,?_⟩
  rw [c1] at h
  simp only [beq_self_eq_true,cond_true,cN] at h
  by_cases c2:yJ r=0
  ·rw [c2] at h
   simp only [beq_self_eq_true,cond_true,cN] at h
   by_cases c3:sf r=0
   ·exact c3
   ·simp only [z _ c3,cond_false,cN] at h
    exact absurd h c3
  ·simp only [z _ c2,cond_false,cN] at h
   exact absurd h c2
 ·simp only [z _ c1,cond_false,cN] at h
  exact absurd h c1
theorem JM {r:af} {b:jT} (h:pj r b=0):jx r=0:=by
 by_cases c:jx r=0
 ·exact c
 ·simp only [pj,gD,Sk.bU,Sk.aZ,Sk.aN,eo.qB,kk,kp,iO] at h
  rw [bne_iff_ne.2 c] at h
  exact absurd h c
theorem Ef {r:af} {f:aD} (h:m7 r f=0):jx r=0:=by
 by_cases c:pj r f.aA=0
 ·exact JM c
 ·simp only [m7,gN,Sk.bU,Sk.aZ,Sk.aN,eo.qB,kk,kp,mB] at h
  rw [bne_iff_ne.2 c] at h
  cases hb:((((decide (((f.ai.length:Nat):Int) > 40))||(decide (((f.a8.length:Nat):Int) > 4)))||(decide (((f.bo.length:Nat):Int) > 100)))||(decide (((f.facts.length:Nat):Int) > 200))) with
  | true=>rw [hb] at h; exact absurd (show (6:Int)=0 from h) (by decide)
  | false=>rw [hb] at h; exact absurd h c
theorem OW {r:af} (hs:r.Small) (hh:r.ba) (h1:jx r=0) (h2:lC r=0):r.yS:=by
 obtain ⟨hc,ho⟩:=OV h2
 have pc:=E0 r hc
 have po:=E1 r ho
 exact ⟨hs,po.1,po.2.2.2,pc.2.2,hh,h1,h2⟩
theorem Vu {r:af} (h:r.zZ):∀ x,x∈r.ak→nN x:=fun x hx=>by
 obtain ⟨i,hi,rfl⟩:=List.getElem_of_mem hx
 have:=h i hi
 rw [show r.ak.getD i default=r.ak[i] by simp [List.getD,hi]] at this
 exact this
theorem zK {r:af} {f:aD} (h:xY r f=true):lC r=0∧m7 r f=0:=by
 have e:xY r f=((Rv r f&&(lC r == 0))&&(m7 r f == 0)):=rfl
 rw [e] at h
 simp only [LN] at h
 exact ⟨h.1.2,h.2⟩
def dK (r:af) (aj:Int) (f:aD) (j:aQ) (l:List aw) (day:Int) (sum:Int):Sk (Bool) :=
 .r 1 Ad.c fun x1 =>
 .r 2 ((uc r f).c) fun x2 =>
 .br ((!x2)||(decide (((l.length:Nat):Int) > 210)))
 (.fin x1)
 (.r 4 ((eu r f j l day).c) fun x3 =>
 .r 5 ((k7 r f j l day).c) fun x4 =>
 .r 6 ((cX r aj f j l day).c) fun x5 =>
 .r 7 ((sz r aj f j l day).c) fun x6 =>
 .r 8 ((gm r aj f j l day sum).c) fun x7 =>
 .r 9 ((ug r aj f j l day sum).c) fun x8 =>
 .r 10 (.wh ((((x3.1 != x4.1)||(x3.2 != x4.2))||(x5.1 != x6.1))||(x5.2 != x6.2)) false ((Ar x7.1 x8.1).c)) fun x9 =>
 .br ((((((x3.1 != x4.1)||(x3.2 != x4.2))||(x5.1 != x6.1))||(x5.2 != x6.2))||(!x9))||(x7.2 != x8.2))
 (.fin false)
 (.r 12 (.dep (.wh x1 true ((cB r f j).c)) fun C0=>.dep (.wh x1 true ((jA r f j).c)) fun Ri=>.dep (.wh (x1&&(C0 == Ri)) true ((ca r aj f j day).c)) fun _=>.wh (x1&&(C0 == Ri)) true ((jv r aj f j day).c)) fun UP =>
 .fin ((x1&&(UP.1 == UP.2.1))&&(UP.2.2.1 == UP.2.2.2))))
def gS r aj f j l day sum:=(dK r aj f j l day sum).val
theorem wo (r:af) (aj:Int) (f:aD) (j:aQ) (l:List aw) (day:Int) (sum:Int) (hP : -9223372036854775808≤sum∧sum≤9223372036854775807):(dK r aj f j l day sum).dz (fun (x:Bool)=>x=true):=by
 refine Sk.bq _ ?_
 unfold dK
 simp only [Sk.cV,Sk.aU,reduceCtorEq,ON,kk,kp,uc,Ad,jA,ug,k7,jv,sz,Ar,cB,gm,eu,ca,cX,maxLen]
 intro x1 _ h1 x2 ZJ hb
 refine ⟨fun _=>h1,fun hc=>?_⟩
 have uj:x2=true:=by simp only [LN] at hc; exact hc.1
 have hB:=hb uj
 rw [ZJ] at uj
 obtain ⟨hA,hP2⟩:=zK uj
 have hf:f.Small:=hB.2.2.2.2.2.1.small
 have hT:=OW hB.1 hB.2.2.1 (Ef hP2) hA
 have hR:=Vu hB.2.2.2.2.1
 intro x3 e3 x4 e4 x5 e5 x6 e6 x7 e7 x8 e8 x9 e9
 rw [zJ hR] at e4
 rw [KC hT hR hf] at e6
 rw [Me hT hR hf _ _ _ _ _ hP] at e8
 subst e3 e4 e5 e6 e7 e8
 rw [S5] at e9
 subst e9
 refine ⟨fun h=>?_,fun _ y hy=>?_⟩
 ·simp only [bne_self_eq_false,Bool.or_self,Bool.not_true] at h
  exact absurd h (by decide)
 ·subst hy
  rw [wm,Ia hT hf,h1]
  simp only [beq_self_eq_true,Bool.and_self]
theorem na (r:af) (aj:Int) (f:aD) (j:aQ) (l:List aw) (day:Int) (sum:Int):(fun (x:Bool)=>(-9223372036854775808≤sum∧sum≤9223372036854775807)→(x=true)) (gS r aj f j l day sum):=fun hP=>have h:=Sk.dA _ (wo r aj f j l day sum hP); h
theorem wT (r:af) (aj:Int) (f:aD) (j:aQ) (l:List aw) (day:Int) (sum:Int):(dK r aj f j l day sum).bE (fun _=>True):=by
 refine Sk.bm _ ?_
 unfold dK
 simp only [Sk.j2,Sk.aU,reduceCtorEq,ON,kk,kp,uc,Ad,jA,ug,k7,jv,sz,Ar,cB,gm,eu,ca,cX,maxLen]
 intro x1 _ _ x2 ZJ hb hc
 have uj:x2=true:=by simp only [LN] at hc; exact hc.1
 have hl:l.length≤1000000:=by simp only [LN] at hc; omega
 have hB:=hb uj
 rw [ZJ] at uj
 obtain ⟨hA,hP2⟩:=zK uj
 have hf:f.Small:=hB.2.2.2.2.2.1.small
 have hT:=OW hB.1 hB.2.2.1 (Ef hP2) hA
 obtain ⟨hS,hBy,adL,-,hH,-,-⟩:=hT
 (repeat' first | assumption | (apply And.intro) | (intro h))
def yn r aj f j l day sum:=kk tok mixed Tryz.func3 [av r.cells,iv aj,av f.cells,av j.cells,lv aw.cells l,iv day,iv sum] (fun x=>bv x) true (dK r aj f j l day sum) (gS r aj f j l day sum) (u0 (wT r aj f j l day sum)) (fun (x:Bool)=>(-9223372036854775808≤sum∧sum≤9223372036854775807)→(x=true)) (na r aj f j l day sum)
theorem wU (r:af) (aj:Int) (f:aD) (j:aQ) (l:List aw) (day:Int) (sum:Int):iU Tryz.prog 3 [av r.cells,iv aj,av f.cells,av j.cells,lv aw.cells l,iv day,iv sum] [] (bv (gS r aj f j l day sum)) []:=(yn r aj f j l day sum).pf trivial
theorem Mf {ds:List D} (h:dr TT 9 ds):∃ c:ByteArray,aO ds (gV c)∧(fun s:ByteArray=>s.size≤maxLen) c:=by
 obtain ⟨x,rfl,w⟩:=h.Wg rfl rfl
 exact ⟨x,aO.refl _,w⟩
theorem Ze {ds:List D} (h:dr TT 22 ds):∃ l:List ByteArray,aO ds [mS gV l]∧(fun l=>∀ x,x∈l→(fun s:ByteArray=>s.size≤maxLen) x) l:=by
 obtain ⟨n,f,rfl,g⟩:=h.eV rfl rfl
 obtain ⟨l,y,-,w⟩:=iV gV (fun s:ByteArray=>s.size≤maxLen) (fun ds h=>Mf h) g
 exact ⟨l,aO.one y,w⟩
theorem bu {ds:List D} (h:dr TT 3 ds):∃ c:Int,aO ds (cM c)∧(fun n=>cQ n) c:=by
 obtain ⟨x,rfl,w⟩:=h.yA rfl rfl
 exact ⟨x,aO.refl _,Q3 w⟩
theorem QG {ds:List D} (h:dr TT 79 ds):∃ l:List Int,aO ds [mS cM l]∧(fun l=>∀ x,x∈l→(fun n=>cQ n) x) l:=by
 obtain ⟨n,f,rfl,g⟩:=h.eV rfl rfl
 obtain ⟨l,y,-,w⟩:=iV cM (fun n=>cQ n) (fun ds h=>bu h) g
 exact ⟨l,aO.one y,w⟩
structure dL.ok (c:dL):Prop where
 name:(fun s:ByteArray=>s.size≤maxLen) c.name
 order:(fun n=>cQ n) c.order
 aq:(fun n=>cQ n) c.aq
 rest:(fun l=>∀ x,x∈l→(fun n=>cQ n) x) c.rest
 dM:(fun l=>∀ x,x∈l→(fun n=>cQ n) x) c.dM
 shut:(fun l=>∀ x,x∈l→(fun n=>cQ n) x) c.shut
theorem dL.of {ds:List D} (h:dr TT 96 ds):∃ c:dL,aO ds c.cells∧c.ok:=by
 have q0:=h.cP rfl rfl
 obtain ⟨p0,r0,rfl,h0,q1⟩:=q0.cons_inv
 obtain ⟨x0,y0,w0⟩:=Mf h0
 obtain ⟨p1,r1,rfl,h1,q2⟩:=q1.cons_inv
 obtain ⟨x1,y1,w1⟩:=bu h1
 obtain ⟨p2,r2,rfl,h2,q3⟩:=q2.cons_inv
 obtain ⟨x2,y2,w2⟩:=bu h2
 obtain ⟨p3,r3,rfl,h3,q4⟩:=q3.cons_inv
 obtain ⟨x3,y3,w3⟩:=QG h3
 obtain ⟨p4,r4,rfl,h4,q5⟩:=q4.cons_inv
 obtain ⟨x4,y4,w4⟩:=QG h4
 obtain ⟨p5,r5,rfl,h5,q6⟩:=q5.cons_inv
 obtain ⟨x5,y5,w5⟩:=QG h5
 cases q6.gq
 refine ⟨⟨x0,x1,x2,x3,x4,x5⟩,?_,⟨w0,w1,w2,w3,w4,w5⟩⟩
 have hh:=(aO.append y0 (aO.append y1 (aO.append y2 (aO.append y3 (aO.append y4 (aO.append y5 aO.nil))))))
 simpa only [dL.cells,cM,gV,lI,List.append_assoc,List.cons_append,List.nil_append,List.append_nil] using hh
theorem Zf {ds:List D} (h:dr TT 23 ds):∃ l:List dL,aO ds [mS dL.cells l]∧(fun l=>∀ x,x∈l→dL.ok x) l:=by
 obtain ⟨n,f,rfl,g⟩:=h.eV rfl rfl
 obtain ⟨l,y,-,w⟩:=iV dL.cells dL.ok (fun ds h=>dL.of h) g
 exact ⟨l,aO.one y,w⟩
structure gW.ok (c:gW):Prop where
 Gy:(fun n=>cQ n) c.Gy
theorem gW.of {ds:List D} (h:dr TT 98 ds):∃ c:gW,aO ds c.cells∧c.ok:=by
 have q0:=h.cP rfl rfl
 obtain ⟨p0,r0,rfl,h0,q1⟩:=q0.cons_inv
 obtain ⟨x0,y0,w0⟩:=bu h0
 cases q1.gq
 refine ⟨⟨x0⟩,?_,⟨w0⟩⟩
 have hh:=(aO.append y0 aO.nil)
 simpa only [gW.cells,cM,gV,lI,List.append_assoc,List.cons_append,List.nil_append,List.append_nil] using hh
theorem Zg {ds:List D} (h:dr TT 24 ds):∃ l:List gW,aO ds [mS gW.cells l]∧(fun l=>∀ x,x∈l→gW.ok x) l:=by
 obtain ⟨n,f,rfl,g⟩:=h.eV rfl rfl
 obtain ⟨l,y,-,w⟩:=iV gW.cells gW.ok (fun ds h=>gW.of h) g
 exact ⟨l,aO.one y,w⟩
structure pJ.ok (c:pJ):Prop where
 name:(fun s:ByteArray=>s.size≤maxLen) c.name
 aJ:(fun n=>cQ n) c.aJ
 group:(fun n=>cQ n) c.group
theorem pJ.of {ds:List D} (h:dr TT 100 ds):∃ c:pJ,aO ds c.cells∧c.ok:=by
 have q0:=h.cP rfl rfl
 obtain ⟨p0,r0,rfl,h0,q1⟩:=q0.cons_inv
 obtain ⟨x0,y0,w0⟩:=Mf h0
 obtain ⟨p1,r1,rfl,h1,q2⟩:=q1.cons_inv
 obtain ⟨x1,y1,w1⟩:=bu h1
 obtain ⟨p2,r2,rfl,h2,q3⟩:=q2.cons_inv
 obtain ⟨x2,y2,w2⟩:=bu h2
 cases q3.gq
 refine ⟨⟨x0,x1,x2⟩,?_,⟨w0,w1,w2⟩⟩
 have hh:=(aO.append y0 (aO.append y1 (aO.append y2 aO.nil)))
 simpa only [pJ.cells,cM,gV,lI,List.append_assoc,List.cons_append,List.nil_append,List.append_nil] using hh
theorem Zh {ds:List D} (h:dr TT 25 ds):∃ l:List pJ,aO ds [mS pJ.cells l]∧(fun l=>∀ x,x∈l→pJ.ok x) l:=by
 obtain ⟨n,f,rfl,g⟩:=h.eV rfl rfl
 obtain ⟨l,y,-,w⟩:=iV pJ.cells pJ.ok (fun ds h=>pJ.of h) g
 exact ⟨l,aO.one y,w⟩
theorem RN {ds:List D} (h:dr TT 4 ds):∃ c:Bool,aO ds (lI c)∧True:=by
 obtain ⟨x,rfl⟩:=h.Ug rfl rfl
 exact ⟨x,aO.refl _,trivial⟩
structure Choice.ok (c:Choice):Prop where
 ask:(fun n=>cQ n) c.ask
 wA:(fun n=>cQ n) c.wA
 whole:(fun _=>True) c.whole
theorem Choice.of {ds:List D} (h:dr TT 169 ds):∃ c:Choice,aO ds c.cells∧c.ok:=by
 have q0:=h.cP rfl rfl
 obtain ⟨p0,r0,rfl,h0,q1⟩:=q0.cons_inv
 obtain ⟨x0,y0,w0⟩:=bu h0
 obtain ⟨p1,r1,rfl,h1,q2⟩:=q1.cons_inv
 obtain ⟨x1,y1,w1⟩:=bu h1
 obtain ⟨p2,r2,rfl,h2,q3⟩:=q2.cons_inv
 obtain ⟨x2,y2,w2⟩:=RN h2
 cases q3.gq
 refine ⟨⟨x0,x1,x2⟩,?_,⟨w0,w1,w2⟩⟩
 have hh:=(aO.append y0 (aO.append y1 (aO.append y2 aO.nil)))
 simpa only [Choice.cells,cM,gV,lI,List.append_assoc,List.cons_append,List.nil_append,List.append_nil] using hh
theorem Zi {ds:List D} (h:dr TT 86 ds):∃ l:List Choice,aO ds [mS Choice.cells l]∧(fun l=>∀ x,x∈l→Choice.ok x) l:=by
 obtain ⟨n,f,rfl,g⟩:=h.eV rfl rfl
 obtain ⟨l,y,-,w⟩:=iV Choice.cells Choice.ok (fun ds h=>Choice.of h) g
 exact ⟨l,aO.one y,w⟩
theorem Term.WU {t:Nat} {ds:List D} (h:dr TT t ds):(t=92→∃ c:Term,aO ds c.jD)∧(t=90→∃ l:List Term,aO ds [mS Term.jD l]):=by
 refine dr.rec (motive_1:=fun t ds _=>(t=92→∃ c:Term,aO ds c.jD)∧(t=90→∃ l:List Term,aO ds [mS Term.jD l]))
  (motive_2:=fun ts ds _=>(ts=[]→ds=[])∧(ts=[90]→∃ l:List Term,aO ds [mS Term.jD l])∧(ts=[3,90]→∃ (n:Int) (l:List Term),aO ds [dI n,mS Term.jD l])∧(ts=[3,3,90]→∃ (m n:Int) (l:List Term),aO ds [dI m,dI n,mS Term.jD l])) ?_ ?_ ?_ ?_ ?_ ?_ ?_ h
 ·intro t i k hi hk n hw
  exact ⟨fun e=>(by subst e; cases hi; cases hk),fun e=>(by subst e; cases hi; cases hk)⟩
 ·intro t i hi hk b
  exact ⟨fun e=>(by subst e; cases hi; cases hk),fun e=>(by subst e; cases hi; cases hk)⟩
 ·intro t i hi hk s hw
  exact ⟨fun e=>(by subst e; cases hi; cases hk),fun e=>(by subst e; cases hi; cases hk)⟩
 ·intro t e i hi hk n f hh ih
  refine ⟨fun e=>(by subst e; cases hi; cases hk),fun e=>?_⟩
  subst e
  cases hi
  cases hk
  classical
  let g:Nat→Term:=fun j=>if hj:j < n then ((ih j hj).1 rfl).choose else default
  have hg:∀ j,j < n→aO (f j) (g j).jD:=fun j hj=>by
   simp only [g,hj,dif_pos]
   exact ((ih j hj).1 rfl).choose_spec
  refine ⟨(List.range n).map g,aO.one ?_⟩
  have e:mS Term.jD ((List.range n).map g)=.sl n fun i=>Term.jD (((List.range n).map g).getD i default):=by simp [mS]
  rw [e]
  refine qg.Xm fun i hi=>?_
  have:((List.range n).map g).getD i default=g i:=by simp [List.getD,hi]
  rw [this]
  exact hg i hi
 ·intro t i fs hi hk ds hs ih
  refine ⟨fun e=>?_,fun e=>(by subst e; cases hi; cases hk)⟩
  subst e
  cases hi
  cases hk
  obtain ⟨m,n,l,hl⟩:=ih.2.2.2 rfl
  refine ⟨⟨m,n,l⟩,?_⟩
  have h2:=(Term.Nk ⟨m,n,l⟩).2
  have:aO [dI m,dI n,mS Term.jD l] (Term.jD ⟨m,n,l⟩):=aO.cons qg.rfl' (aO.cons qg.rfl' (aO.one h2))
  exact ⟨hl.1.trans this.1,fun j hj=>(hl.2 j hj).trans (this.2 j (by rw [← hl.1]; exact hj))⟩
 ·exact ⟨fun _=>rfl,fun e=>(by cases e),fun e=>(by cases e),fun e=>(by cases e)⟩
 ·intro t ts p ds hp hs ih1 ih2
  refine ⟨fun e=>(by cases e),fun e=>?_,fun e=>?_,fun e=>?_⟩
  ·cases e
   obtain ⟨l,hl⟩:=ih1.2 rfl
   have:=ih2.1 rfl
   subst this
   exact ⟨l,by simpa using hl⟩
  ·cases e
   obtain ⟨x,rfl,w⟩:=hp.yA rfl rfl
   obtain ⟨l,hl⟩:=ih2.2.1 rfl
   exact ⟨x,l,aO.append (aO.refl _) hl⟩
  ·cases e
   obtain ⟨x,rfl,w⟩:=hp.yA rfl rfl
   obtain ⟨n,l,hl⟩:=ih2.2.2.1 rfl
   exact ⟨x,n,l,aO.append (aO.refl _) hl⟩
theorem Term.ofR {ds:List D} (h:dr TT 92 ds):∃ c:Term,aO ds c.jD∧True:=by
 obtain ⟨c,hc⟩:=(Term.WU h).1 rfl
 exact ⟨c,hc,trivial⟩
theorem Term.of {ds:List D} (h:dr TT 92 ds):∃ c:Term,aO ds c.cells∧True:=by
 obtain ⟨c,hc,_⟩:=Term.ofR h
 have hu:=c.zY
 exact ⟨c,⟨hc.1.trans hu.1,fun j hj=>(hc.2 j hj).trans (hu.2 j (by rw [← hc.1]; exact hj))⟩,trivial⟩
structure lj.ok (c:lj):Prop where
 ask:(fun n=>cQ n) c.ask
 term:(fun _=>True) c.term
theorem lj.of {ds:List D} (h:dr TT 94 ds):∃ c:lj,aO ds c.cells∧c.ok:=by
 have q0:=h.cP rfl rfl
 obtain ⟨p0,r0,rfl,h0,q1⟩:=q0.cons_inv
 obtain ⟨x0,y0,w0⟩:=bu h0
 obtain ⟨p1,r1,rfl,h1,q2⟩:=q1.cons_inv
 obtain ⟨x1,y1,w1⟩:=Term.of h1
 cases q2.gq
 refine ⟨⟨x0,x1⟩,?_,⟨w0,w1⟩⟩
 have hh:=(aO.append y0 (aO.append y1 aO.nil))
 simpa only [lj.cells,cM,gV,lI,List.append_assoc,List.cons_append,List.nil_append,List.append_nil] using hh
theorem Zj {ds:List D} (h:dr TT 87 ds):∃ l:List lj,aO ds [mS lj.cells l]∧(fun l=>∀ x,x∈l→lj.ok x) l:=by
 obtain ⟨n,f,rfl,g⟩:=h.eV rfl rfl
 obtain ⟨l,y,-,w⟩:=iV lj.cells lj.ok (fun ds h=>lj.of h) g
 exact ⟨l,aO.one y,w⟩
structure Order.ok (c:Order):Prop where
 name:(fun s:ByteArray=>s.size≤maxLen) c.name
 mb:(fun _=>True) c.mb
 aF:(fun l=>∀ x,x∈l→Choice.ok x) c.aF
 rules:(fun l=>∀ x,x∈l→lj.ok x) c.rules
theorem Order.of {ds:List D} (h:dr TT 89 ds):∃ c:Order,aO ds c.cells∧c.ok:=by
 have q0:=h.cP rfl rfl
 obtain ⟨p0,r0,rfl,h0,q1⟩:=q0.cons_inv
 obtain ⟨x0,y0,w0⟩:=Mf h0
 obtain ⟨p1,r1,rfl,h1,q2⟩:=q1.cons_inv
 obtain ⟨x1,y1,w1⟩:=RN h1
 obtain ⟨p2,r2,rfl,h2,q3⟩:=q2.cons_inv
 obtain ⟨x2,y2,w2⟩:=Zi h2
 obtain ⟨p3,r3,rfl,h3,q4⟩:=q3.cons_inv
 obtain ⟨x3,y3,w3⟩:=Zj h3
 cases q4.gq
 refine ⟨⟨x0,x1,x2,x3⟩,?_,⟨w0,w1,w2,w3⟩⟩
 have hh:=(aO.append y0 (aO.append y1 (aO.append y2 (aO.append y3 aO.nil))))
 simpa only [Order.cells,cM,gV,lI,List.append_assoc,List.cons_append,List.nil_append,List.append_nil] using hh
theorem Zk {ds:List D} (h:dr TT 26 ds):∃ l:List Order,aO ds [mS Order.cells l]∧(fun l=>∀ x,x∈l→Order.ok x) l:=by
 obtain ⟨n,f,rfl,g⟩:=h.eV rfl rfl
 obtain ⟨l,y,-,w⟩:=iV Order.cells Order.ok (fun ds h=>Order.of h) g
 exact ⟨l,aO.one y,w⟩
structure dh.ok (c:dh):Prop where
 from_:(fun n=>cQ n) c.from_
 bZ:(fun n=>cQ n) c.bZ
 days:(fun n=>cQ n) c.days
theorem dh.of {ds:List D} (h:dr TT 136 ds):∃ c:dh,aO ds c.cells∧c.ok:=by
 have q0:=h.cP rfl rfl
 obtain ⟨p0,r0,rfl,h0,q1⟩:=q0.cons_inv
 obtain ⟨x0,y0,w0⟩:=bu h0
 obtain ⟨p1,r1,rfl,h1,q2⟩:=q1.cons_inv
 obtain ⟨x1,y1,w1⟩:=bu h1
 obtain ⟨p2,r2,rfl,h2,q3⟩:=q2.cons_inv
 obtain ⟨x2,y2,w2⟩:=bu h2
 cases q3.gq
 refine ⟨⟨x0,x1,x2⟩,?_,⟨w0,w1,w2⟩⟩
 have hh:=(aO.append y0 (aO.append y1 (aO.append y2 aO.nil)))
 simpa only [dh.cells,cM,gV,lI,List.append_assoc,List.cons_append,List.nil_append,List.append_nil] using hh
theorem Zl {ds:List D} (h:dr TT 27 ds):∃ l:List dh,aO ds [mS dh.cells l]∧(fun l=>∀ x,x∈l→dh.ok x) l:=by
 obtain ⟨n,f,rfl,g⟩:=h.eV rfl rfl
 obtain ⟨l,y,-,w⟩:=iV dh.cells dh.ok (fun ds h=>dh.of h) g
 exact ⟨l,aO.one y,w⟩
structure bV.ok (c:bV):Prop where
 from_:(fun n=>cQ n) c.from_
 bZ:(fun n=>cQ n) c.bZ
 num:(fun n=>cQ n) c.num
 den:(fun n=>cQ n) c.den
 since:(fun n=>cQ n) c.since
theorem bV.of {ds:List D} (h:dr TT 102 ds):∃ c:bV,aO ds c.cells∧c.ok:=by
 have q0:=h.cP rfl rfl
 obtain ⟨p0,r0,rfl,h0,q1⟩:=q0.cons_inv
 obtain ⟨x0,y0,w0⟩:=bu h0
 obtain ⟨p1,r1,rfl,h1,q2⟩:=q1.cons_inv
 obtain ⟨x1,y1,w1⟩:=bu h1
 obtain ⟨p2,r2,rfl,h2,q3⟩:=q2.cons_inv
 obtain ⟨x2,y2,w2⟩:=bu h2
 obtain ⟨p3,r3,rfl,h3,q4⟩:=q3.cons_inv
 obtain ⟨x3,y3,w3⟩:=bu h3
 obtain ⟨p4,r4,rfl,h4,q5⟩:=q4.cons_inv
 obtain ⟨x4,y4,w4⟩:=bu h4
 cases q5.gq
 refine ⟨⟨x0,x1,x2,x3,x4⟩,?_,⟨w0,w1,w2,w3,w4⟩⟩
 have hh:=(aO.append y0 (aO.append y1 (aO.append y2 (aO.append y3 (aO.append y4 aO.nil)))))
 simpa only [bV.cells,cM,gV,lI,List.append_assoc,List.cons_append,List.nil_append,List.append_nil] using hh
theorem Zm {ds:List D} (h:dr TT 28 ds):∃ l:List bV,aO ds [mS bV.cells l]∧(fun l=>∀ x,x∈l→bV.ok x) l:=by
 obtain ⟨n,f,rfl,g⟩:=h.eV rfl rfl
 obtain ⟨l,y,-,w⟩:=iV bV.cells bV.ok (fun ds h=>bV.of h) g
 exact ⟨l,aO.one y,w⟩
structure Halt.ok (c:Halt):Prop where
 order:(fun n=>cQ n) c.order
 from_:(fun n=>cQ n) c.from_
 bZ:(fun n=>cQ n) c.bZ
theorem Halt.of {ds:List D} (h:dr TT 138 ds):∃ c:Halt,aO ds c.cells∧c.ok:=by
 have q0:=h.cP rfl rfl
 obtain ⟨p0,r0,rfl,h0,q1⟩:=q0.cons_inv
 obtain ⟨x0,y0,w0⟩:=bu h0
 obtain ⟨p1,r1,rfl,h1,q2⟩:=q1.cons_inv
 obtain ⟨x1,y1,w1⟩:=bu h1
 obtain ⟨p2,r2,rfl,h2,q3⟩:=q2.cons_inv
 obtain ⟨x2,y2,w2⟩:=bu h2
 cases q3.gq
 refine ⟨⟨x0,x1,x2⟩,?_,⟨w0,w1,w2⟩⟩
 have hh:=(aO.append y0 (aO.append y1 (aO.append y2 aO.nil)))
 simpa only [Halt.cells,cM,gV,lI,List.append_assoc,List.cons_append,List.nil_append,List.append_nil] using hh
theorem Zn {ds:List D} (h:dr TT 29 ds):∃ l:List Halt,aO ds [mS Halt.cells l]∧(fun l=>∀ x,x∈l→Halt.ok x) l:=by
 obtain ⟨n,f,rfl,g⟩:=h.eV rfl rfl
 obtain ⟨l,y,-,w⟩:=iV Halt.cells Halt.ok (fun ds h=>Halt.of h) g
 exact ⟨l,aO.one y,w⟩
structure af.ok (c:af):Prop where
 aX:(fun l=>∀ x,x∈l→(fun s:ByteArray=>s.size≤maxLen) x) c.aX
 aC:(fun l=>∀ x,x∈l→dL.ok x) c.aC
 fh:(fun l=>∀ x,x∈l→gW.ok x) c.fh
 bg:(fun l=>∀ x,x∈l→pJ.ok x) c.bg
 al:(fun l=>∀ x,x∈l→Order.ok x) c.al
 aM:(fun l=>∀ x,x∈l→dh.ok x) c.aM
 ak:(fun l=>∀ x,x∈l→bV.ok x) c.ak
 bJ:(fun l=>∀ x,x∈l→Halt.ok x) c.bJ
theorem af.of {ds:List D} (h:dr TT 31 ds):∃ c:af,aO ds c.cells∧c.ok:=by
 have q0:=h.cP rfl rfl
 obtain ⟨p0,r0,rfl,h0,q1⟩:=q0.cons_inv
 obtain ⟨x0,y0,w0⟩:=Ze h0
 obtain ⟨p1,r1,rfl,h1,q2⟩:=q1.cons_inv
 obtain ⟨x1,y1,w1⟩:=Zf h1
 obtain ⟨p2,r2,rfl,h2,q3⟩:=q2.cons_inv
 obtain ⟨x2,y2,w2⟩:=Zg h2
 obtain ⟨p3,r3,rfl,h3,q4⟩:=q3.cons_inv
 obtain ⟨x3,y3,w3⟩:=Zh h3
 obtain ⟨p4,r4,rfl,h4,q5⟩:=q4.cons_inv
 obtain ⟨x4,y4,w4⟩:=Zk h4
 obtain ⟨p5,r5,rfl,h5,q6⟩:=q5.cons_inv
 obtain ⟨x5,y5,w5⟩:=Zl h5
 obtain ⟨p6,r6,rfl,h6,q7⟩:=q6.cons_inv
 obtain ⟨x6,y6,w6⟩:=Zm h6
 obtain ⟨p7,r7,rfl,h7,q8⟩:=q7.cons_inv
 obtain ⟨x7,y7,w7⟩:=Zn h7
 cases q8.gq
 refine ⟨⟨x0,x1,x2,x3,x4,x5,x6,x7⟩,?_,⟨w0,w1,w2,w3,w4,w5,w6,w7⟩⟩
 have hh:=(aO.append y0 (aO.append y1 (aO.append y2 (aO.append y3 (aO.append y4 (aO.append y5 (aO.append y6 (aO.append y7 aO.nil))))))))
 simpa only [af.cells,cM,gV,lI,List.append_assoc,List.cons_append,List.nil_append,List.append_nil] using hh
structure mZ.ok (c:mZ):Prop where
 kind:(fun n=>cQ n) c.kind
 n:(fun n=>cQ n) c.n
 unit:(fun n=>cQ n) c.unit
theorem mZ.of {ds:List D} (h:dr TT 33 ds):∃ c:mZ,aO ds c.cells∧c.ok:=by
 have q0:=h.cP rfl rfl
 obtain ⟨p0,r0,rfl,h0,q1⟩:=q0.cons_inv
 obtain ⟨x0,y0,w0⟩:=bu h0
 obtain ⟨p1,r1,rfl,h1,q2⟩:=q1.cons_inv
 obtain ⟨x1,y1,w1⟩:=bu h1
 obtain ⟨p2,r2,rfl,h2,q3⟩:=q2.cons_inv
 obtain ⟨x2,y2,w2⟩:=bu h2
 cases q3.gq
 refine ⟨⟨x0,x1,x2⟩,?_,⟨w0,w1,w2⟩⟩
 have hh:=(aO.append y0 (aO.append y1 (aO.append y2 aO.nil)))
 simpa only [mZ.cells,cM,gV,lI,List.append_assoc,List.cons_append,List.nil_append,List.append_nil] using hh
structure jT.ok (c:jT):Prop where
 CV:(fun n=>cQ n) c.CV
 vo:(fun n=>cQ n) c.vo
 gU:(fun n=>cQ n) c.gU
 sum:(fun n=>cQ n) c.sum
 aq:(fun n=>cQ n) c.aq
 aE:mZ.ok c.aE
 day:(fun n=>cQ n) c.day
 aJ:(fun n=>cQ n) c.aJ
 qC:(fun n=>cQ n) c.qC
 need:(fun n=>cQ n) c.need
 zd:(fun n=>cQ n) c.zd
 flags:(fun n=>cQ n) c.flags
 parts:(fun n=>cQ n) c.parts
theorem jT.of {ds:List D} (h:dr TT 35 ds):∃ c:jT,aO ds c.cells∧c.ok:=by
 have q0:=h.cP rfl rfl
 obtain ⟨p0,r0,rfl,h0,q1⟩:=q0.cons_inv
 obtain ⟨x0,y0,w0⟩:=bu h0
 obtain ⟨p1,r1,rfl,h1,q2⟩:=q1.cons_inv
 obtain ⟨x1,y1,w1⟩:=bu h1
 obtain ⟨p2,r2,rfl,h2,q3⟩:=q2.cons_inv
 obtain ⟨x2,y2,w2⟩:=bu h2
 obtain ⟨p3,r3,rfl,h3,q4⟩:=q3.cons_inv
 obtain ⟨x3,y3,w3⟩:=bu h3
 obtain ⟨p4,r4,rfl,h4,q5⟩:=q4.cons_inv
 obtain ⟨x4,y4,w4⟩:=bu h4
 obtain ⟨p5,r5,rfl,h5,q6⟩:=q5.cons_inv
 obtain ⟨x5,y5,w5⟩:=mZ.of h5
 obtain ⟨p6,r6,rfl,h6,q7⟩:=q6.cons_inv
 obtain ⟨x6,y6,w6⟩:=bu h6
 obtain ⟨p7,r7,rfl,h7,q8⟩:=q7.cons_inv
 obtain ⟨x7,y7,w7⟩:=bu h7
 obtain ⟨p8,r8,rfl,h8,q9⟩:=q8.cons_inv
 obtain ⟨x8,y8,w8⟩:=bu h8
 obtain ⟨p9,r9,rfl,h9,q10⟩:=q9.cons_inv
 obtain ⟨x9,y9,w9⟩:=bu h9
 obtain ⟨Sv,r10,rfl,h10,q11⟩:=q10.cons_inv
 obtain ⟨C0,y10,w10⟩:=bu h10
 obtain ⟨Ew,r11,rfl,h11,q12⟩:=q11.cons_inv
 obtain ⟨Ri,y11,w11⟩:=bu h11
 obtain ⟨GM,r12,rfl,h12,q13⟩:=q12.cons_inv
 obtain ⟨YY,y12,w12⟩:=bu h12
 cases q13.gq
 refine ⟨⟨x0,x1,x2,x3,x4,x5,x6,x7,x8,x9,C0,Ri,YY⟩,?_,⟨w0,w1,w2,w3,w4,w5,w6,w7,w8,w9,w10,w11,w12⟩⟩
 have hh:=(aO.append y0 (aO.append y1 (aO.append y2 (aO.append y3 (aO.append y4 (aO.append y5 (aO.append y6 (aO.append y7 (aO.append y8 (aO.append y9 (aO.append y10 (aO.append y11 (aO.append y12 aO.nil)))))))))))))
 simpa only [jT.cells,cM,gV,lI,List.append_assoc,List.cons_append,List.nil_append,List.append_nil] using hh
structure Sign.ok (c:Sign):Prop where
 kind:(fun n=>cQ n) c.kind
 part:(fun n=>cQ n) c.part
 nX:(fun n=>cQ n) c.nX
 for_:(fun n=>cQ n) c.for_
 bZ:(fun n=>cQ n) c.bZ
 sum:(fun n=>cQ n) c.sum
 day:(fun n=>cQ n) c.day
 aJ:(fun n=>cQ n) c.aJ
 flags:(fun n=>cQ n) c.flags
theorem Sign.of {ds:List D} (h:dr TT 74 ds):∃ c:Sign,aO ds c.cells∧c.ok:=by
 have q0:=h.cP rfl rfl
 obtain ⟨p0,r0,rfl,h0,q1⟩:=q0.cons_inv
 obtain ⟨x0,y0,w0⟩:=bu h0
 obtain ⟨p1,r1,rfl,h1,q2⟩:=q1.cons_inv
 obtain ⟨x1,y1,w1⟩:=bu h1
 obtain ⟨p2,r2,rfl,h2,q3⟩:=q2.cons_inv
 obtain ⟨x2,y2,w2⟩:=bu h2
 obtain ⟨p3,r3,rfl,h3,q4⟩:=q3.cons_inv
 obtain ⟨x3,y3,w3⟩:=bu h3
 obtain ⟨p4,r4,rfl,h4,q5⟩:=q4.cons_inv
 obtain ⟨x4,y4,w4⟩:=bu h4
 obtain ⟨p5,r5,rfl,h5,q6⟩:=q5.cons_inv
 obtain ⟨x5,y5,w5⟩:=bu h5
 obtain ⟨p6,r6,rfl,h6,q7⟩:=q6.cons_inv
 obtain ⟨x6,y6,w6⟩:=bu h6
 obtain ⟨p7,r7,rfl,h7,q8⟩:=q7.cons_inv
 obtain ⟨x7,y7,w7⟩:=bu h7
 obtain ⟨p8,r8,rfl,h8,q9⟩:=q8.cons_inv
 obtain ⟨x8,y8,w8⟩:=bu h8
 cases q9.gq
 refine ⟨⟨x0,x1,x2,x3,x4,x5,x6,x7,x8⟩,?_,⟨w0,w1,w2,w3,w4,w5,w6,w7,w8⟩⟩
 have hh:=(aO.append y0 (aO.append y1 (aO.append y2 (aO.append y3 (aO.append y4 (aO.append y5 (aO.append y6 (aO.append y7 (aO.append y8 aO.nil)))))))))
 simpa only [Sign.cells,cM,gV,lI,List.append_assoc,List.cons_append,List.nil_append,List.append_nil] using hh
theorem Zo {ds:List D} (h:dr TT 36 ds):∃ l:List Sign,aO ds [mS Sign.cells l]∧(fun l=>∀ x,x∈l→Sign.ok x) l:=by
 obtain ⟨n,f,rfl,g⟩:=h.eV rfl rfl
 obtain ⟨l,y,-,w⟩:=iV Sign.cells Sign.ok (fun ds h=>Sign.of h) g
 exact ⟨l,aO.one y,w⟩
structure cK.ok (c:cK):Prop where
 at_:(fun n=>cQ n) c.at_
 sum:(fun n=>cQ n) c.sum
theorem cK.of {ds:List D} (h:dr TT 111 ds):∃ c:cK,aO ds c.cells∧c.ok:=by
 have q0:=h.cP rfl rfl
 obtain ⟨p0,r0,rfl,h0,q1⟩:=q0.cons_inv
 obtain ⟨x0,y0,w0⟩:=bu h0
 obtain ⟨p1,r1,rfl,h1,q2⟩:=q1.cons_inv
 obtain ⟨x1,y1,w1⟩:=bu h1
 cases q2.gq
 refine ⟨⟨x0,x1⟩,?_,⟨w0,w1⟩⟩
 have hh:=(aO.append y0 (aO.append y1 aO.nil))
 simpa only [cK.cells,cM,gV,lI,List.append_assoc,List.cons_append,List.nil_append,List.append_nil] using hh
theorem Zp {ds:List D} (h:dr TT 37 ds):∃ l:List cK,aO ds [mS cK.cells l]∧(fun l=>∀ x,x∈l→cK.ok x) l:=by
 obtain ⟨n,f,rfl,g⟩:=h.eV rfl rfl
 obtain ⟨l,y,-,w⟩:=iV cK.cells cK.ok (fun ds h=>cK.of h) g
 exact ⟨l,aO.one y,w⟩
structure fB.ok (c:fB):Prop where
 kind:(fun n=>cQ n) c.kind
 nX:(fun n=>cQ n) c.nX
 bZ:(fun n=>cQ n) c.bZ
 part:(fun n=>cQ n) c.part
 at_:(fun n=>cQ n) c.at_
 sum:(fun n=>cQ n) c.sum
 day:(fun n=>cQ n) c.day
 aJ:(fun n=>cQ n) c.aJ
 form:(fun n=>cQ n) c.form
theorem fB.of {ds:List D} (h:dr TT 123 ds):∃ c:fB,aO ds c.cells∧c.ok:=by
 have q0:=h.cP rfl rfl
 obtain ⟨p0,r0,rfl,h0,q1⟩:=q0.cons_inv
 obtain ⟨x0,y0,w0⟩:=bu h0
 obtain ⟨p1,r1,rfl,h1,q2⟩:=q1.cons_inv
 obtain ⟨x1,y1,w1⟩:=bu h1
 obtain ⟨p2,r2,rfl,h2,q3⟩:=q2.cons_inv
 obtain ⟨x2,y2,w2⟩:=bu h2
 obtain ⟨p3,r3,rfl,h3,q4⟩:=q3.cons_inv
 obtain ⟨x3,y3,w3⟩:=bu h3
 obtain ⟨p4,r4,rfl,h4,q5⟩:=q4.cons_inv
 obtain ⟨x4,y4,w4⟩:=bu h4
 obtain ⟨p5,r5,rfl,h5,q6⟩:=q5.cons_inv
 obtain ⟨x5,y5,w5⟩:=bu h5
 obtain ⟨p6,r6,rfl,h6,q7⟩:=q6.cons_inv
 obtain ⟨x6,y6,w6⟩:=bu h6
 obtain ⟨p7,r7,rfl,h7,q8⟩:=q7.cons_inv
 obtain ⟨x7,y7,w7⟩:=bu h7
 obtain ⟨p8,r8,rfl,h8,q9⟩:=q8.cons_inv
 obtain ⟨x8,y8,w8⟩:=bu h8
 cases q9.gq
 refine ⟨⟨x0,x1,x2,x3,x4,x5,x6,x7,x8⟩,?_,⟨w0,w1,w2,w3,w4,w5,w6,w7,w8⟩⟩
 have hh:=(aO.append y0 (aO.append y1 (aO.append y2 (aO.append y3 (aO.append y4 (aO.append y5 (aO.append y6 (aO.append y7 (aO.append y8 aO.nil)))))))))
 simpa only [fB.cells,cM,gV,lI,List.append_assoc,List.cons_append,List.nil_append,List.append_nil] using hh
theorem Zq {ds:List D} (h:dr TT 38 ds):∃ l:List fB,aO ds [mS fB.cells l]∧(fun l=>∀ x,x∈l→fB.ok x) l:=by
 obtain ⟨n,f,rfl,g⟩:=h.eV rfl rfl
 obtain ⟨l,y,-,w⟩:=iV fB.cells fB.ok (fun ds h=>fB.of h) g
 exact ⟨l,aO.one y,w⟩
structure Fact.ok (c:Fact):Prop where
 kind:(fun n=>cQ n) c.kind
 at_:(fun n=>cQ n) c.at_
 n:(fun n=>cQ n) c.n
theorem Fact.of {ds:List D} (h:dr TT 104 ds):∃ c:Fact,aO ds c.cells∧c.ok:=by
 have q0:=h.cP rfl rfl
 obtain ⟨p0,r0,rfl,h0,q1⟩:=q0.cons_inv
 obtain ⟨x0,y0,w0⟩:=bu h0
 obtain ⟨p1,r1,rfl,h1,q2⟩:=q1.cons_inv
 obtain ⟨x1,y1,w1⟩:=bu h1
 obtain ⟨p2,r2,rfl,h2,q3⟩:=q2.cons_inv
 obtain ⟨x2,y2,w2⟩:=bu h2
 cases q3.gq
 refine ⟨⟨x0,x1,x2⟩,?_,⟨w0,w1,w2⟩⟩
 have hh:=(aO.append y0 (aO.append y1 (aO.append y2 aO.nil)))
 simpa only [Fact.cells,cM,gV,lI,List.append_assoc,List.cons_append,List.nil_append,List.append_nil] using hh
theorem Zr {ds:List D} (h:dr TT 39 ds):∃ l:List Fact,aO ds [mS Fact.cells l]∧(fun l=>∀ x,x∈l→Fact.ok x) l:=by
 obtain ⟨n,f,rfl,g⟩:=h.eV rfl rfl
 obtain ⟨l,y,-,w⟩:=iV Fact.cells Fact.ok (fun ds h=>Fact.of h) g
 exact ⟨l,aO.one y,w⟩
structure aD.ok (c:aD):Prop where
 aA:jT.ok c.aA
 ai:(fun l=>∀ x,x∈l→Sign.ok x) c.ai
 a8:(fun l=>∀ x,x∈l→cK.ok x) c.a8
 bo:(fun l=>∀ x,x∈l→fB.ok x) c.bo
 facts:(fun l=>∀ x,x∈l→Fact.ok x) c.facts
theorem aD.of {ds:List D} (h:dr TT 41 ds):∃ c:aD,aO ds c.cells∧c.ok:=by
 have q0:=h.cP rfl rfl
 obtain ⟨p0,r0,rfl,h0,q1⟩:=q0.cons_inv
 obtain ⟨x0,y0,w0⟩:=jT.of h0
 obtain ⟨p1,r1,rfl,h1,q2⟩:=q1.cons_inv
 obtain ⟨x1,y1,w1⟩:=Zo h1
 obtain ⟨p2,r2,rfl,h2,q3⟩:=q2.cons_inv
 obtain ⟨x2,y2,w2⟩:=Zp h2
 obtain ⟨p3,r3,rfl,h3,q4⟩:=q3.cons_inv
 obtain ⟨x3,y3,w3⟩:=Zq h3
 obtain ⟨p4,r4,rfl,h4,q5⟩:=q4.cons_inv
 obtain ⟨x4,y4,w4⟩:=Zr h4
 cases q5.gq
 refine ⟨⟨x0,x1,x2,x3,x4⟩,?_,⟨w0,w1,w2,w3,w4⟩⟩
 have hh:=(aO.append y0 (aO.append y1 (aO.append y2 (aO.append y3 (aO.append y4 aO.nil)))))
 simpa only [aD.cells,cM,gV,lI,List.append_assoc,List.cons_append,List.nil_append,List.append_nil] using hh
structure aQ.ok (c:aQ):Prop where
 fq:(fun n=>cQ n) c.fq
 aA:(fun n=>cQ n) c.aA
 sign:(fun n=>cQ n) c.sign
 cm:(fun n=>cQ n) c.cm
 aP:(fun n=>cQ n) c.aP
 sum:(fun n=>cQ n) c.sum
 aq:(fun n=>cQ n) c.aq
 day:(fun n=>cQ n) c.day
theorem aQ.of {ds:List D} (h:dr TT 43 ds):∃ c:aQ,aO ds c.cells∧c.ok:=by
 have q0:=h.cP rfl rfl
 obtain ⟨p0,r0,rfl,h0,q1⟩:=q0.cons_inv
 obtain ⟨x0,y0,w0⟩:=bu h0
 obtain ⟨p1,r1,rfl,h1,q2⟩:=q1.cons_inv
 obtain ⟨x1,y1,w1⟩:=bu h1
 obtain ⟨p2,r2,rfl,h2,q3⟩:=q2.cons_inv
 obtain ⟨x2,y2,w2⟩:=bu h2
 obtain ⟨p3,r3,rfl,h3,q4⟩:=q3.cons_inv
 obtain ⟨x3,y3,w3⟩:=bu h3
 obtain ⟨p4,r4,rfl,h4,q5⟩:=q4.cons_inv
 obtain ⟨x4,y4,w4⟩:=bu h4
 obtain ⟨p5,r5,rfl,h5,q6⟩:=q5.cons_inv
 obtain ⟨x5,y5,w5⟩:=bu h5
 obtain ⟨p6,r6,rfl,h6,q7⟩:=q6.cons_inv
 obtain ⟨x6,y6,w6⟩:=bu h6
 obtain ⟨p7,r7,rfl,h7,q8⟩:=q7.cons_inv
 obtain ⟨x7,y7,w7⟩:=bu h7
 cases q8.gq
 refine ⟨⟨x0,x1,x2,x3,x4,x5,x6,x7⟩,?_,⟨w0,w1,w2,w3,w4,w5,w6,w7⟩⟩
 have hh:=(aO.append y0 (aO.append y1 (aO.append y2 (aO.append y3 (aO.append y4 (aO.append y5 (aO.append y6 (aO.append y7 aO.nil))))))))
 simpa only [aQ.cells,cM,gV,lI,List.append_assoc,List.cons_append,List.nil_append,List.append_nil] using hh
structure aw.ok (c:aw):Prop where
 aA:(fun n=>cQ n) c.aA
 from_:(fun n=>cQ n) c.from_
 bZ:(fun n=>cQ n) c.bZ
 sum:(fun n=>cQ n) c.sum
 aq:(fun n=>cQ n) c.aq
 day:(fun n=>cQ n) c.day
theorem aw.of {ds:List D} (h:dr TT 63 ds):∃ c:aw,aO ds c.cells∧c.ok:=by
 have q0:=h.cP rfl rfl
 obtain ⟨p0,r0,rfl,h0,q1⟩:=q0.cons_inv
 obtain ⟨x0,y0,w0⟩:=bu h0
 obtain ⟨p1,r1,rfl,h1,q2⟩:=q1.cons_inv
 obtain ⟨x1,y1,w1⟩:=bu h1
 obtain ⟨p2,r2,rfl,h2,q3⟩:=q2.cons_inv
 obtain ⟨x2,y2,w2⟩:=bu h2
 obtain ⟨p3,r3,rfl,h3,q4⟩:=q3.cons_inv
 obtain ⟨x3,y3,w3⟩:=bu h3
 obtain ⟨p4,r4,rfl,h4,q5⟩:=q4.cons_inv
 obtain ⟨x4,y4,w4⟩:=bu h4
 obtain ⟨p5,r5,rfl,h5,q6⟩:=q5.cons_inv
 obtain ⟨x5,y5,w5⟩:=bu h5
 cases q6.gq
 refine ⟨⟨x0,x1,x2,x3,x4,x5⟩,?_,⟨w0,w1,w2,w3,w4,w5⟩⟩
 have hh:=(aO.append y0 (aO.append y1 (aO.append y2 (aO.append y3 (aO.append y4 (aO.append y5 aO.nil))))))
 simpa only [aw.cells,cM,gV,lI,List.append_assoc,List.cons_append,List.nil_append,List.append_nil] using hh
theorem sH (Yw:∀ (a0:af) (a1:Int) (a2:aD) (a3:aQ) (a4:List aw) (a5:Int) (a6:Int),(-9223372036854775808≤a6∧a6≤9223372036854775807)→gS a0 a1 a2 a3 a4 a5 a6=true) (O1:List (List D)) (h:K4 TT [31,3,41,43,44,3,3] O1):iU Tryz.prog 3 (vn TT [31,3,41,43,44,3,3] O1) [] (.d (.v (.bool true))) []:=by
 obtain ⟨d0,d1,d2,d3,d4,d5,d6,rfl⟩:∃ d0 d1 d2 d3 d4 d5 d6,O1=[d0,d1,d2,d3,d4,d5,d6]:=by
  match O1,h with
  | [d0,d1,d2,d3,d4,d5,d6],_=>exact ⟨d0,d1,d2,d3,d4,d5,d6,rfl⟩
 obtain ⟨h0,h1,h2,h3,h4,h5,h6,-⟩:=h
 obtain ⟨x0,y0,w0⟩:=af.of h0
 obtain ⟨x1,rfl,w1⟩:=h1.yA rfl rfl
 obtain ⟨x2,y2,w2⟩:=aD.of h2
 obtain ⟨x3,y3,w3⟩:=aQ.of h3
 obtain ⟨n4,f4,rfl,g4⟩:=h4.eV rfl rfl
 obtain ⟨x4,y4,-,w4⟩:=iV aw.cells aw.ok (fun ds h=>aw.of h) g4
 obtain ⟨x5,rfl,w5⟩:=h5.yA rfl rfl
 obtain ⟨x6,rfl,w6⟩:=h6.yA rfl rfl
 have hf:=wU x0 x1 x2 x3 x4 x5 x6
 rw [Yw x0 x1 x2 x3 x4 x5 x6 (Q3 w6)] at hf
 exact iU.Q2 hf ⟨qk.d y0.agg,qk.rfl',qk.d y2.agg,qk.d y3.agg,qk.d y4,qk.rfl',qk.rfl',trivial⟩
theorem wq (a0:af) (a1:Int) (a2:aD) (a3:aQ) (a4:List aw) (a5:Int) (a6:Int) (h : -9223372036854775808≤a6∧a6≤9223372036854775807):gS a0 a1 a2 a3 a4 a5 a6=true :=
 na a0 a1 a2 a3 a4 a5 a6 h
end
end Go.Proofs.YtcpmocecjgipbaaGreatDoor
