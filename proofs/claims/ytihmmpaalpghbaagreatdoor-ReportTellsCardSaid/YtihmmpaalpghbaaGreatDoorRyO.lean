/- Arguments as typed data. -/
import Derived.Test.YtihmmpaalpghbaaGreatDoorLi
import Derived.Test.YtihmmpaalpghbaaGreatDoorLc
namespace Go.Proofs.YtihmmpaalpghbaaGreatDoor
open Go Go.Av
set_option linter.unusedSimpArgs false
set_option linter.unusedVariables false
set_option maxHeartbeats 1000000
set_option maxRecDepth 100000
theorem Kx {ds:List D} (h:dy TT 9 ds):∃ c:ByteArray,aH ds (fZ c)∧(fun s:ByteArray=>s.size≤maxLen) c:=by
 obtain ⟨x,rfl,w⟩:=h.PG rfl rfl
 exact ⟨x,aH.refl _,w⟩
theorem ZJ {ds:List D} (h:dy TT 47 ds):∃ l:List ByteArray,aH ds [qO fZ l]∧(fun l=>∀ x,x∈l→(fun s:ByteArray=>s.size≤maxLen) x) l:=by
 obtain ⟨n,f,rfl,g⟩:=h.gh rfl rfl
 obtain ⟨l,y,-,w⟩:=lj fZ (fun s:ByteArray=>s.size≤maxLen) (fun ds h=>Kx h) g
 exact ⟨l,aH.one y,w⟩
theorem bm {ds:List D} (h:dy TT 3 ds):∃ c:Int,aH ds (cw c)∧(fun n=>cP n) c:=by
 obtain ⟨x,rfl,w⟩:=h.zc rfl rfl
 exact ⟨x,aH.refl _,VN w⟩
theorem Pm {ds:List D} (h:dy TT 43 ds):∃ l:List Int,aH ds [qO cw l]∧(fun l=>∀ x,x∈l→(fun n=>cP n) x) l:=by
 obtain ⟨n,f,rfl,g⟩:=h.gh rfl rfl
 obtain ⟨l,y,-,w⟩:=lj cw (fun n=>cP n) (fun ds h=>bm h) g
 exact ⟨l,aH.one y,w⟩
structure nj.ok (c:nj):Prop where
 name:(fun s:ByteArray=>s.size≤maxLen) c.name
 order:(fun n=>cP n) c.order
 bh:(fun n=>cP n) c.bh
 rest:(fun l=>∀ x,x∈l→(fun n=>cP n) x) c.rest
 cK:(fun l=>∀ x,x∈l→(fun n=>cP n) x) c.cK
 shut:(fun l=>∀ x,x∈l→(fun n=>cP n) x) c.shut
theorem nj.of {ds:List D} (h:dy TT 105 ds):∃ c:nj,aH ds c.cells∧c.ok:=by
 have q0:=h.cC rfl rfl
 obtain ⟨p0,r0,rfl,h0,q1⟩:=q0.cons_inv
 obtain ⟨x0,y0,w0⟩:=Kx h0
 obtain ⟨p1,r1,rfl,h1,q2⟩:=q1.cons_inv
 obtain ⟨x1,y1,w1⟩:=bm h1
 obtain ⟨p2,r2,rfl,h2,q3⟩:=q2.cons_inv
 obtain ⟨x2,y2,w2⟩:=bm h2
 obtain ⟨p3,r3,rfl,h3,q4⟩:=q3.cons_inv
 obtain ⟨x3,y3,w3⟩:=Pm h3
 obtain ⟨p4,r4,rfl,h4,q5⟩:=q4.cons_inv
 obtain ⟨x4,y4,w4⟩:=Pm h4
 obtain ⟨p5,r5,rfl,h5,q6⟩:=q5.cons_inv
 obtain ⟨x5,y5,w5⟩:=Pm h5
 cases q6.fy
 refine ⟨⟨x0,x1,x2,x3,x4,x5⟩,?_,⟨w0,w1,w2,w3,w4,w5⟩⟩
 have hh:=(aH.append y0 (aH.append y1 (aH.append y2 (aH.append y3 (aH.append y4 (aH.append y5 aH.nil))))))
 simpa only [nj.cells,cw,fZ,lQ,List.append_assoc,List.cons_append,List.nil_append,List.append_nil] using hh
theorem ZK {ds:List D} (h:dy TT 48 ds):∃ l:List nj,aH ds [qO nj.cells l]∧(fun l=>∀ x,x∈l→nj.ok x) l:=by
 obtain ⟨n,f,rfl,g⟩:=h.gh rfl rfl
 obtain ⟨l,y,-,w⟩:=lj nj.cells nj.ok (fun ds h=>nj.of h) g
 exact ⟨l,aH.one y,w⟩
structure kK.ok (c:kK):Prop where
 BW:(fun n=>cP n) c.BW
theorem kK.of {ds:List D} (h:dy TT 163 ds):∃ c:kK,aH ds c.cells∧c.ok:=by
 have q0:=h.cC rfl rfl
 obtain ⟨p0,r0,rfl,h0,q1⟩:=q0.cons_inv
 obtain ⟨x0,y0,w0⟩:=bm h0
 cases q1.fy
 refine ⟨⟨x0⟩,?_,⟨w0⟩⟩
 have hh:=(aH.append y0 aH.nil)
 simpa only [kK.cells,cw,fZ,lQ,List.append_assoc,List.cons_append,List.nil_append,List.append_nil] using hh
theorem ZL {ds:List D} (h:dy TT 49 ds):∃ l:List kK,aH ds [qO kK.cells l]∧(fun l=>∀ x,x∈l→kK.ok x) l:=by
 obtain ⟨n,f,rfl,g⟩:=h.gh rfl rfl
 obtain ⟨l,y,-,w⟩:=lj kK.cells kK.ok (fun ds h=>kK.of h) g
 exact ⟨l,aH.one y,w⟩
structure wY.ok (c:wY):Prop where
 name:(fun s:ByteArray=>s.size≤maxLen) c.name
 bn:(fun n=>cP n) c.bn
 group:(fun n=>cP n) c.group
theorem wY.of {ds:List D} (h:dy TT 165 ds):∃ c:wY,aH ds c.cells∧c.ok:=by
 have q0:=h.cC rfl rfl
 obtain ⟨p0,r0,rfl,h0,q1⟩:=q0.cons_inv
 obtain ⟨x0,y0,w0⟩:=Kx h0
 obtain ⟨p1,r1,rfl,h1,q2⟩:=q1.cons_inv
 obtain ⟨x1,y1,w1⟩:=bm h1
 obtain ⟨p2,r2,rfl,h2,q3⟩:=q2.cons_inv
 obtain ⟨x2,y2,w2⟩:=bm h2
 cases q3.fy
 refine ⟨⟨x0,x1,x2⟩,?_,⟨w0,w1,w2⟩⟩
 have hh:=(aH.append y0 (aH.append y1 (aH.append y2 aH.nil)))
 simpa only [wY.cells,cw,fZ,lQ,List.append_assoc,List.cons_append,List.nil_append,List.append_nil] using hh
theorem ZM {ds:List D} (h:dy TT 50 ds):∃ l:List wY,aH ds [qO wY.cells l]∧(fun l=>∀ x,x∈l→wY.ok x) l:=by
 obtain ⟨n,f,rfl,g⟩:=h.gh rfl rfl
 obtain ⟨l,y,-,w⟩:=lj wY.cells wY.ok (fun ds h=>wY.of h) g
 exact ⟨l,aH.one y,w⟩
theorem Qn {ds:List D} (h:dy TT 4 ds):∃ c:Bool,aH ds (lQ c)∧True:=by
 obtain ⟨x,rfl⟩:=h.Tn rfl rfl
 exact ⟨x,aH.refl _,trivial⟩
structure Choice.ok (c:Choice):Prop where
 ask:(fun n=>cP n) c.ask
 H2:(fun n=>cP n) c.H2
 whole:(fun _=>True) c.whole
theorem Choice.of {ds:List D} (h:dy TT 205 ds):∃ c:Choice,aH ds c.cells∧c.ok:=by
 have q0:=h.cC rfl rfl
 obtain ⟨p0,r0,rfl,h0,q1⟩:=q0.cons_inv
 obtain ⟨x0,y0,w0⟩:=bm h0
 obtain ⟨p1,r1,rfl,h1,q2⟩:=q1.cons_inv
 obtain ⟨x1,y1,w1⟩:=bm h1
 obtain ⟨p2,r2,rfl,h2,q3⟩:=q2.cons_inv
 obtain ⟨x2,y2,w2⟩:=Qn h2
 cases q3.fy
 refine ⟨⟨x0,x1,x2⟩,?_,⟨w0,w1,w2⟩⟩
 have hh:=(aH.append y0 (aH.append y1 (aH.append y2 aH.nil)))
 simpa only [Choice.cells,cw,fZ,lQ,List.append_assoc,List.cons_append,List.nil_append,List.append_nil] using hh
theorem W0 {ds:List D} (h:dy TT 106 ds):∃ l:List Choice,aH ds [qO Choice.cells l]∧(fun l=>∀ x,x∈l→Choice.ok x) l:=by
 obtain ⟨n,f,rfl,g⟩:=h.gh rfl rfl
 obtain ⟨l,y,-,w⟩:=lj Choice.cells Choice.ok (fun ds h=>Choice.of h) g
 exact ⟨l,aH.one y,w⟩
theorem Term.W6 {t:Nat} {ds:List D} (h:dy TT t ds):(t=208→∃ c:Term,aH ds c.iD)∧(t=206→∃ l:List Term,aH ds [qO Term.iD l]):=by
 refine dy.rec (motive_1:=fun t ds _=>(t=208→∃ c:Term,aH ds c.iD)∧(t=206→∃ l:List Term,aH ds [qO Term.iD l]))
  (motive_2:=fun ts ds _=>(ts=[]→ds=[])∧(ts=[206]→∃ l:List Term,aH ds [qO Term.iD l])∧(ts=[3,206]→∃ (n:Int) (l:List Term),aH ds [dI n,qO Term.iD l])∧(ts=[3,3,206]→∃ (m n:Int) (l:List Term),aH ds [dI m,dI n,qO Term.iD l])) ?_ ?_ ?_ ?_ ?_ ?_ ?_ h
 ·intro t i k hi hk n hw
  exact ⟨fun e=>(by subst e; cases hi; cases hk),fun e=>(by subst e; cases hi; cases hk)⟩
 ·intro t i hi hk b
  exact ⟨fun e=>(by subst e; cases hi; cases hk),fun e=>(by subst e; cases hi; cases hk)⟩
 ·intro t i hi hk s hw
  exact ⟨fun e=>(by subst e; cases hi; cases hk),fun e=>(by subst e; cases hi; cases hk)⟩
 ·intro t e i hi hk n f hh ih
  refine ⟨fun e=>(by subst e; cases hi; cases hk),fun e=>?_⟩
  subst e
  cases hi
  cases hk
  classical
  let g:Nat→Term:=fun j=>if hj:j < n then ((ih j hj).1 rfl).choose else default
  have hg:∀ j,j < n→aH (f j) (g j).iD:=fun j hj=>by
   simp only [g,hj,dif_pos]
   exact ((ih j hj).1 rfl).choose_spec
  refine ⟨(List.range n).map g,aH.one ?_⟩
  have e:qO Term.iD ((List.range n).map g)=.sl n fun i=>Term.iD (((List.range n).map g).getD i default):=by simp [qO]
  rw [e]
  refine oS.Xw fun i hi=>?_
  have:((List.range n).map g).getD i default=g i:=by simp [List.getD,hi]
  rw [this]
  exact hg i hi
 ·intro t i fs hi hk ds hs ih
  refine ⟨fun e=>?_,fun e=>(by subst e; cases hi; cases hk)⟩
  subst e
  cases hi
  cases hk
  obtain ⟨m,n,l,hl⟩:=ih.2.2.2 rfl
  refine ⟨⟨m,n,l⟩,?_⟩
  have h2:=(Term.LZ ⟨m,n,l⟩).2
  have:aH [dI m,dI n,qO Term.iD l] (Term.iD ⟨m,n,l⟩):=aH.cons oS.rfl' (aH.cons oS.rfl' (aH.one h2))
  exact ⟨hl.1.trans this.1,fun j hj=>(hl.2 j hj).trans (this.2 j (by rw [← hl.1]; exact hj))⟩
 ·exact ⟨fun _=>rfl,fun e=>(by cases e),fun e=>(by cases e),fun e=>(by cases e)⟩
 ·intro t ts p ds hp hs ih1 ih2
  refine ⟨fun e=>(by cases e),fun e=>?_,fun e=>?_,fun e=>?_⟩
  ·cases e
   obtain ⟨l,hl⟩:=ih1.2 rfl
   have:=ih2.1 rfl
   subst this
   exact ⟨l,by simpa using hl⟩
  ·cases e
   obtain ⟨x,rfl,w⟩:=hp.zc rfl rfl
   obtain ⟨l,hl⟩:=ih2.2.1 rfl
   exact ⟨x,l,aH.append (aH.refl _) hl⟩
  ·cases e
   obtain ⟨x,rfl,w⟩:=hp.zc rfl rfl
   obtain ⟨n,l,hl⟩:=ih2.2.2.1 rfl
   exact ⟨x,n,l,aH.append (aH.refl _) hl⟩
theorem Term.ofR {ds:List D} (h:dy TT 208 ds):∃ c:Term,aH ds c.iD∧True:=by
 obtain ⟨c,hc⟩:=(Term.W6 h).1 rfl
 exact ⟨c,hc,trivial⟩
theorem Term.of {ds:List D} (h:dy TT 208 ds):∃ c:Term,aH ds c.cells∧True:=by
 obtain ⟨c,hc,_⟩:=Term.ofR h
 have hu:=c.Y4
 exact ⟨c,⟨hc.1.trans hu.1,fun j hj=>(hc.2 j hj).trans (hu.2 j (by rw [← hc.1]; exact hj))⟩,trivial⟩
structure wZ.ok (c:wZ):Prop where
 ask:(fun n=>cP n) c.ask
 term:(fun _=>True) c.term
theorem wZ.of {ds:List D} (h:dy TT 210 ds):∃ c:wZ,aH ds c.cells∧c.ok:=by
 have q0:=h.cC rfl rfl
 obtain ⟨p0,r0,rfl,h0,q1⟩:=q0.cons_inv
 obtain ⟨x0,y0,w0⟩:=bm h0
 obtain ⟨p1,r1,rfl,h1,q2⟩:=q1.cons_inv
 obtain ⟨x1,y1,w1⟩:=Term.of h1
 cases q2.fy
 refine ⟨⟨x0,x1⟩,?_,⟨w0,w1⟩⟩
 have hh:=(aH.append y0 (aH.append y1 aH.nil))
 simpa only [wZ.cells,cw,fZ,lQ,List.append_assoc,List.cons_append,List.nil_append,List.append_nil] using hh
theorem W7 {ds:List D} (h:dy TT 107 ds):∃ l:List wZ,aH ds [qO wZ.cells l]∧(fun l=>∀ x,x∈l→wZ.ok x) l:=by
 obtain ⟨n,f,rfl,g⟩:=h.gh rfl rfl
 obtain ⟨l,y,-,w⟩:=lj wZ.cells wZ.ok (fun ds h=>wZ.of h) g
 exact ⟨l,aH.one y,w⟩
structure Order.ok (c:Order):Prop where
 name:(fun s:ByteArray=>s.size≤maxLen) c.name
 Jr:(fun _=>True) c.Jr
 aN:(fun l=>∀ x,x∈l→Choice.ok x) c.aN
 rules:(fun l=>∀ x,x∈l→wZ.ok x) c.rules
theorem Order.of {ds:List D} (h:dy TT 109 ds):∃ c:Order,aH ds c.cells∧c.ok:=by
 have q0:=h.cC rfl rfl
 obtain ⟨p0,r0,rfl,h0,q1⟩:=q0.cons_inv
 obtain ⟨x0,y0,w0⟩:=Kx h0
 obtain ⟨p1,r1,rfl,h1,q2⟩:=q1.cons_inv
 obtain ⟨x1,y1,w1⟩:=Qn h1
 obtain ⟨p2,r2,rfl,h2,q3⟩:=q2.cons_inv
 obtain ⟨x2,y2,w2⟩:=W0 h2
 obtain ⟨p3,r3,rfl,h3,q4⟩:=q3.cons_inv
 obtain ⟨x3,y3,w3⟩:=W7 h3
 cases q4.fy
 refine ⟨⟨x0,x1,x2,x3⟩,?_,⟨w0,w1,w2,w3⟩⟩
 have hh:=(aH.append y0 (aH.append y1 (aH.append y2 (aH.append y3 aH.nil))))
 simpa only [Order.cells,cw,fZ,lQ,List.append_assoc,List.cons_append,List.nil_append,List.append_nil] using hh
theorem ZO {ds:List D} (h:dy TT 51 ds):∃ l:List Order,aH ds [qO Order.cells l]∧(fun l=>∀ x,x∈l→Order.ok x) l:=by
 obtain ⟨n,f,rfl,g⟩:=h.gh rfl rfl
 obtain ⟨l,y,-,w⟩:=lj Order.cells Order.ok (fun ds h=>Order.of h) g
 exact ⟨l,aH.one y,w⟩
structure dc.ok (c:dc):Prop where
 from_:(fun n=>cP n) c.from_
 cH:(fun n=>cP n) c.cH
 days:(fun n=>cP n) c.days
theorem dc.of {ds:List D} (h:dy TT 168 ds):∃ c:dc,aH ds c.cells∧c.ok:=by
 have q0:=h.cC rfl rfl
 obtain ⟨p0,r0,rfl,h0,q1⟩:=q0.cons_inv
 obtain ⟨x0,y0,w0⟩:=bm h0
 obtain ⟨p1,r1,rfl,h1,q2⟩:=q1.cons_inv
 obtain ⟨x1,y1,w1⟩:=bm h1
 obtain ⟨p2,r2,rfl,h2,q3⟩:=q2.cons_inv
 obtain ⟨x2,y2,w2⟩:=bm h2
 cases q3.fy
 refine ⟨⟨x0,x1,x2⟩,?_,⟨w0,w1,w2⟩⟩
 have hh:=(aH.append y0 (aH.append y1 (aH.append y2 aH.nil)))
 simpa only [dc.cells,cw,fZ,lQ,List.append_assoc,List.cons_append,List.nil_append,List.append_nil] using hh
theorem ZP {ds:List D} (h:dy TT 52 ds):∃ l:List dc,aH ds [qO dc.cells l]∧(fun l=>∀ x,x∈l→dc.ok x) l:=by
 obtain ⟨n,f,rfl,g⟩:=h.gh rfl rfl
 obtain ⟨l,y,-,w⟩:=lj dc.cells dc.ok (fun ds h=>dc.of h) g
 exact ⟨l,aH.one y,w⟩
structure pj.ok (c:pj):Prop where
 from_:(fun n=>cP n) c.from_
 cH:(fun n=>cP n) c.cH
 num:(fun n=>cP n) c.num
 den:(fun n=>cP n) c.den
 since:(fun n=>cP n) c.since
theorem pj.of {ds:List D} (h:dy TT 170 ds):∃ c:pj,aH ds c.cells∧c.ok:=by
 have q0:=h.cC rfl rfl
 obtain ⟨p0,r0,rfl,h0,q1⟩:=q0.cons_inv
 obtain ⟨x0,y0,w0⟩:=bm h0
 obtain ⟨p1,r1,rfl,h1,q2⟩:=q1.cons_inv
 obtain ⟨x1,y1,w1⟩:=bm h1
 obtain ⟨p2,r2,rfl,h2,q3⟩:=q2.cons_inv
 obtain ⟨x2,y2,w2⟩:=bm h2
 obtain ⟨p3,r3,rfl,h3,q4⟩:=q3.cons_inv
 obtain ⟨x3,y3,w3⟩:=bm h3
 obtain ⟨p4,r4,rfl,h4,q5⟩:=q4.cons_inv
 obtain ⟨x4,y4,w4⟩:=bm h4
 cases q5.fy
 refine ⟨⟨x0,x1,x2,x3,x4⟩,?_,⟨w0,w1,w2,w3,w4⟩⟩
 have hh:=(aH.append y0 (aH.append y1 (aH.append y2 (aH.append y3 (aH.append y4 aH.nil)))))
 simpa only [pj.cells,cw,fZ,lQ,List.append_assoc,List.cons_append,List.nil_append,List.append_nil] using hh
theorem ZQ {ds:List D} (h:dy TT 53 ds):∃ l:List pj,aH ds [qO pj.cells l]∧(fun l=>∀ x,x∈l→pj.ok x) l:=by
 obtain ⟨n,f,rfl,g⟩:=h.gh rfl rfl
 obtain ⟨l,y,-,w⟩:=lj pj.cells pj.ok (fun ds h=>pj.of h) g
 exact ⟨l,aH.one y,w⟩
structure Halt.ok (c:Halt):Prop where
 order:(fun n=>cP n) c.order
 from_:(fun n=>cP n) c.from_
 cH:(fun n=>cP n) c.cH
theorem Halt.of {ds:List D} (h:dy TT 172 ds):∃ c:Halt,aH ds c.cells∧c.ok:=by
 have q0:=h.cC rfl rfl
 obtain ⟨p0,r0,rfl,h0,q1⟩:=q0.cons_inv
 obtain ⟨x0,y0,w0⟩:=bm h0
 obtain ⟨p1,r1,rfl,h1,q2⟩:=q1.cons_inv
 obtain ⟨x1,y1,w1⟩:=bm h1
 obtain ⟨p2,r2,rfl,h2,q3⟩:=q2.cons_inv
 obtain ⟨x2,y2,w2⟩:=bm h2
 cases q3.fy
 refine ⟨⟨x0,x1,x2⟩,?_,⟨w0,w1,w2⟩⟩
 have hh:=(aH.append y0 (aH.append y1 (aH.append y2 aH.nil)))
 simpa only [Halt.cells,cw,fZ,lQ,List.append_assoc,List.cons_append,List.nil_append,List.append_nil] using hh
theorem ZR {ds:List D} (h:dy TT 54 ds):∃ l:List Halt,aH ds [qO Halt.cells l]∧(fun l=>∀ x,x∈l→Halt.ok x) l:=by
 obtain ⟨n,f,rfl,g⟩:=h.gh rfl rfl
 obtain ⟨l,y,-,w⟩:=lj Halt.cells Halt.ok (fun ds h=>Halt.of h) g
 exact ⟨l,aH.one y,w⟩
structure ai.ok (c:ai):Prop where
 aM:(fun l=>∀ x,x∈l→(fun s:ByteArray=>s.size≤maxLen) x) c.aM
 aL:(fun l=>∀ x,x∈l→nj.ok x) c.aL
 ch:(fun l=>∀ x,x∈l→kK.ok x) c.ch
 aQ:(fun l=>∀ x,x∈l→wY.ok x) c.aQ
 aG:(fun l=>∀ x,x∈l→Order.ok x) c.aG
 aI:(fun l=>∀ x,x∈l→dc.ok x) c.aI
 dL:(fun l=>∀ x,x∈l→pj.ok x) c.dL
 e9:(fun l=>∀ x,x∈l→Halt.ok x) c.e9
theorem ai.of {ds:List D} (h:dy TT 56 ds):∃ c:ai,aH ds c.cells∧c.ok:=by
 have q0:=h.cC rfl rfl
 obtain ⟨p0,r0,rfl,h0,q1⟩:=q0.cons_inv
 obtain ⟨x0,y0,w0⟩:=ZJ h0
 obtain ⟨p1,r1,rfl,h1,q2⟩:=q1.cons_inv
 obtain ⟨x1,y1,w1⟩:=ZK h1
 obtain ⟨p2,r2,rfl,h2,q3⟩:=q2.cons_inv
 obtain ⟨x2,y2,w2⟩:=ZL h2
 obtain ⟨p3,r3,rfl,h3,q4⟩:=q3.cons_inv
 obtain ⟨x3,y3,w3⟩:=ZM h3
 obtain ⟨p4,r4,rfl,h4,q5⟩:=q4.cons_inv
 obtain ⟨x4,y4,w4⟩:=ZO h4
 obtain ⟨p5,r5,rfl,h5,q6⟩:=q5.cons_inv
 obtain ⟨x5,y5,w5⟩:=ZP h5
 obtain ⟨p6,r6,rfl,h6,q7⟩:=q6.cons_inv
 obtain ⟨x6,y6,w6⟩:=ZQ h6
 obtain ⟨p7,r7,rfl,h7,q8⟩:=q7.cons_inv
 obtain ⟨x7,y7,w7⟩:=ZR h7
 cases q8.fy
 refine ⟨⟨x0,x1,x2,x3,x4,x5,x6,x7⟩,?_,⟨w0,w1,w2,w3,w4,w5,w6,w7⟩⟩
 have hh:=(aH.append y0 (aH.append y1 (aH.append y2 (aH.append y3 (aH.append y4 (aH.append y5 (aH.append y6 (aH.append y7 aH.nil))))))))
 simpa only [ai.cells,cw,fZ,lQ,List.append_assoc,List.cons_append,List.nil_append,List.append_nil] using hh
structure fc.ok (c:fc):Prop where
 kind:(fun n=>cP n) c.kind
 n:(fun n=>cP n) c.n
 unit:(fun n=>cP n) c.unit
theorem fc.of {ds:List D} (h:dy TT 23 ds):∃ c:fc,aH ds c.cells∧c.ok:=by
 have q0:=h.cC rfl rfl
 obtain ⟨p0,r0,rfl,h0,q1⟩:=q0.cons_inv
 obtain ⟨x0,y0,w0⟩:=bm h0
 obtain ⟨p1,r1,rfl,h1,q2⟩:=q1.cons_inv
 obtain ⟨x1,y1,w1⟩:=bm h1
 obtain ⟨p2,r2,rfl,h2,q3⟩:=q2.cons_inv
 obtain ⟨x2,y2,w2⟩:=bm h2
 cases q3.fy
 refine ⟨⟨x0,x1,x2⟩,?_,⟨w0,w1,w2⟩⟩
 have hh:=(aH.append y0 (aH.append y1 (aH.append y2 aH.nil)))
 simpa only [fc.cells,cw,fZ,lQ,List.append_assoc,List.cons_append,List.nil_append,List.append_nil] using hh
structure dV.ok (c:dV):Prop where
 cD:(fun n=>cP n) c.cD
 cL:(fun n=>cP n) c.cL
 cE:(fun n=>cP n) c.cE
 sum:(fun n=>cP n) c.sum
 bh:(fun n=>cP n) c.bh
 bp:fc.ok c.bp
 day:(fun n=>cP n) c.day
 bn:(fun n=>cP n) c.bn
 tE:(fun n=>cP n) c.tE
 need:(fun n=>cP n) c.need
 iR:(fun n=>cP n) c.iR
 flags:(fun n=>cP n) c.flags
 parts:(fun n=>cP n) c.parts
theorem dV.of {ds:List D} (h:dy TT 25 ds):∃ c:dV,aH ds c.cells∧c.ok:=by
 have q0:=h.cC rfl rfl
 obtain ⟨p0,r0,rfl,h0,q1⟩:=q0.cons_inv
 obtain ⟨x0,y0,w0⟩:=bm h0
 obtain ⟨p1,r1,rfl,h1,q2⟩:=q1.cons_inv
 obtain ⟨x1,y1,w1⟩:=bm h1
 obtain ⟨p2,r2,rfl,h2,q3⟩:=q2.cons_inv
 obtain ⟨x2,y2,w2⟩:=bm h2
 obtain ⟨p3,r3,rfl,h3,q4⟩:=q3.cons_inv
 obtain ⟨x3,y3,w3⟩:=bm h3
 obtain ⟨p4,r4,rfl,h4,q5⟩:=q4.cons_inv
 obtain ⟨x4,y4,w4⟩:=bm h4
 obtain ⟨p5,r5,rfl,h5,q6⟩:=q5.cons_inv
 obtain ⟨x5,y5,w5⟩:=fc.of h5
 obtain ⟨p6,r6,rfl,h6,q7⟩:=q6.cons_inv
 obtain ⟨x6,y6,w6⟩:=bm h6
 obtain ⟨p7,r7,rfl,h7,q8⟩:=q7.cons_inv
 obtain ⟨x7,y7,w7⟩:=bm h7
 obtain ⟨p8,r8,rfl,h8,q9⟩:=q8.cons_inv
 obtain ⟨x8,y8,w8⟩:=bm h8
 obtain ⟨p9,r9,rfl,h9,q10⟩:=q9.cons_inv
 obtain ⟨x9,y9,w9⟩:=bm h9
 obtain ⟨EV,r10,rfl,h10,q11⟩:=q10.cons_inv
 obtain ⟨OP,y10,w10⟩:=bm h10
 obtain ⟨Gt,r11,rfl,h11,q12⟩:=q11.cons_inv
 obtain ⟨JK,y11,w11⟩:=bm h11
 obtain ⟨Cw,r12,rfl,h12,q13⟩:=q12.cons_inv
 obtain ⟨Wn,y12,w12⟩:=bm h12
 cases q13.fy
 refine ⟨⟨x0,x1,x2,x3,x4,x5,x6,x7,x8,x9,OP,JK,Wn⟩,?_,⟨w0,w1,w2,w3,w4,w5,w6,w7,w8,w9,w10,w11,w12⟩⟩
 have hh:=(aH.append y0 (aH.append y1 (aH.append y2 (aH.append y3 (aH.append y4 (aH.append y5 (aH.append y6 (aH.append y7 (aH.append y8 (aH.append y9 (aH.append y10 (aH.append y11 (aH.append y12 aH.nil)))))))))))))
 simpa only [dV.cells,cw,fZ,lQ,List.append_assoc,List.cons_append,List.nil_append,List.append_nil] using hh
structure Sign.ok (c:Sign):Prop where
 kind:(fun n=>cP n) c.kind
 part:(fun n=>cP n) c.part
 fu:(fun n=>cP n) c.fu
 for_:(fun n=>cP n) c.for_
 cH:(fun n=>cP n) c.cH
 sum:(fun n=>cP n) c.sum
 day:(fun n=>cP n) c.day
 bn:(fun n=>cP n) c.bn
 flags:(fun n=>cP n) c.flags
theorem Sign.of {ds:List D} (h:dy TT 27 ds):∃ c:Sign,aH ds c.cells∧c.ok:=by
 have q0:=h.cC rfl rfl
 obtain ⟨p0,r0,rfl,h0,q1⟩:=q0.cons_inv
 obtain ⟨x0,y0,w0⟩:=bm h0
 obtain ⟨p1,r1,rfl,h1,q2⟩:=q1.cons_inv
 obtain ⟨x1,y1,w1⟩:=bm h1
 obtain ⟨p2,r2,rfl,h2,q3⟩:=q2.cons_inv
 obtain ⟨x2,y2,w2⟩:=bm h2
 obtain ⟨p3,r3,rfl,h3,q4⟩:=q3.cons_inv
 obtain ⟨x3,y3,w3⟩:=bm h3
 obtain ⟨p4,r4,rfl,h4,q5⟩:=q4.cons_inv
 obtain ⟨x4,y4,w4⟩:=bm h4
 obtain ⟨p5,r5,rfl,h5,q6⟩:=q5.cons_inv
 obtain ⟨x5,y5,w5⟩:=bm h5
 obtain ⟨p6,r6,rfl,h6,q7⟩:=q6.cons_inv
 obtain ⟨x6,y6,w6⟩:=bm h6
 obtain ⟨p7,r7,rfl,h7,q8⟩:=q7.cons_inv
 obtain ⟨x7,y7,w7⟩:=bm h7
 obtain ⟨p8,r8,rfl,h8,q9⟩:=q8.cons_inv
 obtain ⟨x8,y8,w8⟩:=bm h8
 cases q9.fy
 refine ⟨⟨x0,x1,x2,x3,x4,x5,x6,x7,x8⟩,?_,⟨w0,w1,w2,w3,w4,w5,w6,w7,w8⟩⟩
 have hh:=(aH.append y0 (aH.append y1 (aH.append y2 (aH.append y3 (aH.append y4 (aH.append y5 (aH.append y6 (aH.append y7 (aH.append y8 aH.nil)))))))))
 simpa only [Sign.cells,cw,fZ,lQ,List.append_assoc,List.cons_append,List.nil_append,List.append_nil] using hh
structure cd.ok (c:cd):Prop where
 kind:(fun n=>cP n) c.kind
 fu:(fun n=>cP n) c.fu
 cH:(fun n=>cP n) c.cH
 part:(fun n=>cP n) c.part
 at_:(fun n=>cP n) c.at_
 sum:(fun n=>cP n) c.sum
 day:(fun n=>cP n) c.day
 bn:(fun n=>cP n) c.bn
 form:(fun n=>cP n) c.form
theorem cd.of {ds:List D} (h:dy TT 29 ds):∃ c:cd,aH ds c.cells∧c.ok:=by
 have q0:=h.cC rfl rfl
 obtain ⟨p0,r0,rfl,h0,q1⟩:=q0.cons_inv
 obtain ⟨x0,y0,w0⟩:=bm h0
 obtain ⟨p1,r1,rfl,h1,q2⟩:=q1.cons_inv
 obtain ⟨x1,y1,w1⟩:=bm h1
 obtain ⟨p2,r2,rfl,h2,q3⟩:=q2.cons_inv
 obtain ⟨x2,y2,w2⟩:=bm h2
 obtain ⟨p3,r3,rfl,h3,q4⟩:=q3.cons_inv
 obtain ⟨x3,y3,w3⟩:=bm h3
 obtain ⟨p4,r4,rfl,h4,q5⟩:=q4.cons_inv
 obtain ⟨x4,y4,w4⟩:=bm h4
 obtain ⟨p5,r5,rfl,h5,q6⟩:=q5.cons_inv
 obtain ⟨x5,y5,w5⟩:=bm h5
 obtain ⟨p6,r6,rfl,h6,q7⟩:=q6.cons_inv
 obtain ⟨x6,y6,w6⟩:=bm h6
 obtain ⟨p7,r7,rfl,h7,q8⟩:=q7.cons_inv
 obtain ⟨x7,y7,w7⟩:=bm h7
 obtain ⟨p8,r8,rfl,h8,q9⟩:=q8.cons_inv
 obtain ⟨x8,y8,w8⟩:=bm h8
 cases q9.fy
 refine ⟨⟨x0,x1,x2,x3,x4,x5,x6,x7,x8⟩,?_,⟨w0,w1,w2,w3,w4,w5,w6,w7,w8⟩⟩
 have hh:=(aH.append y0 (aH.append y1 (aH.append y2 (aH.append y3 (aH.append y4 (aH.append y5 (aH.append y6 (aH.append y7 (aH.append y8 aH.nil)))))))))
 simpa only [cd.cells,cw,fZ,lQ,List.append_assoc,List.cons_append,List.nil_append,List.append_nil] using hh
structure bB.ok (c:bB):Prop where
 at_:(fun n=>cP n) c.at_
 sum:(fun n=>cP n) c.sum
theorem bB.of {ds:List D} (h:dy TT 31 ds):∃ c:bB,aH ds c.cells∧c.ok:=by
 have q0:=h.cC rfl rfl
 obtain ⟨p0,r0,rfl,h0,q1⟩:=q0.cons_inv
 obtain ⟨x0,y0,w0⟩:=bm h0
 obtain ⟨p1,r1,rfl,h1,q2⟩:=q1.cons_inv
 obtain ⟨x1,y1,w1⟩:=bm h1
 cases q2.fy
 refine ⟨⟨x0,x1⟩,?_,⟨w0,w1⟩⟩
 have hh:=(aH.append y0 (aH.append y1 aH.nil))
 simpa only [bB.cells,cw,fZ,lQ,List.append_assoc,List.cons_append,List.nil_append,List.append_nil] using hh
structure Fact.ok (c:Fact):Prop where
 kind:(fun n=>cP n) c.kind
 at_:(fun n=>cP n) c.at_
 n:(fun n=>cP n) c.n
theorem Fact.of {ds:List D} (h:dy TT 33 ds):∃ c:Fact,aH ds c.cells∧c.ok:=by
 have q0:=h.cC rfl rfl
 obtain ⟨p0,r0,rfl,h0,q1⟩:=q0.cons_inv
 obtain ⟨x0,y0,w0⟩:=bm h0
 obtain ⟨p1,r1,rfl,h1,q2⟩:=q1.cons_inv
 obtain ⟨x1,y1,w1⟩:=bm h1
 obtain ⟨p2,r2,rfl,h2,q3⟩:=q2.cons_inv
 obtain ⟨x2,y2,w2⟩:=bm h2
 cases q3.fy
 refine ⟨⟨x0,x1,x2⟩,?_,⟨w0,w1,w2⟩⟩
 have hh:=(aH.append y0 (aH.append y1 (aH.append y2 aH.nil)))
 simpa only [Fact.cells,cw,fZ,lQ,List.append_assoc,List.cons_append,List.nil_append,List.append_nil] using hh
structure Body.ok (c:Body):Prop where
 kind:(fun n=>cP n) c.kind
 bill:(fun n=>cP n) c.bill
 index:(fun n=>cP n) c.index
 aw:dV.ok c.aw
 sign:Sign.ok c.sign
 act:cd.ok c.act
 alter:bB.ok c.alter
 fact:Fact.ok c.fact
theorem Body.of {ds:List D} (h:dy TT 35 ds):∃ c:Body,aH ds c.cells∧c.ok:=by
 have q0:=h.cC rfl rfl
 obtain ⟨p0,r0,rfl,h0,q1⟩:=q0.cons_inv
 obtain ⟨x0,y0,w0⟩:=bm h0
 obtain ⟨p1,r1,rfl,h1,q2⟩:=q1.cons_inv
 obtain ⟨x1,y1,w1⟩:=bm h1
 obtain ⟨p2,r2,rfl,h2,q3⟩:=q2.cons_inv
 obtain ⟨x2,y2,w2⟩:=bm h2
 obtain ⟨p3,r3,rfl,h3,q4⟩:=q3.cons_inv
 obtain ⟨x3,y3,w3⟩:=dV.of h3
 obtain ⟨p4,r4,rfl,h4,q5⟩:=q4.cons_inv
 obtain ⟨x4,y4,w4⟩:=Sign.of h4
 obtain ⟨p5,r5,rfl,h5,q6⟩:=q5.cons_inv
 obtain ⟨x5,y5,w5⟩:=cd.of h5
 obtain ⟨p6,r6,rfl,h6,q7⟩:=q6.cons_inv
 obtain ⟨x6,y6,w6⟩:=bB.of h6
 obtain ⟨p7,r7,rfl,h7,q8⟩:=q7.cons_inv
 obtain ⟨x7,y7,w7⟩:=Fact.of h7
 cases q8.fy
 refine ⟨⟨x0,x1,x2,x3,x4,x5,x6,x7⟩,?_,⟨w0,w1,w2,w3,w4,w5,w6,w7⟩⟩
 have hh:=(aH.append y0 (aH.append y1 (aH.append y2 (aH.append y3 (aH.append y4 (aH.append y5 (aH.append y6 (aH.append y7 aH.nil))))))))
 simpa only [Body.cells,cw,fZ,lQ,List.append_assoc,List.cons_append,List.nil_append,List.append_nil] using hh
structure ae.ok (c:ae):Prop where
 reporter:(fun n=>cP n) c.reporter
 no:(fun n=>cP n) c.no
 day:(fun n=>cP n) c.day
 body:Body.ok c.body
theorem ae.of {ds:List D} (h:dy TT 37 ds):∃ c:ae,aH ds c.cells∧c.ok:=by
 have q0:=h.cC rfl rfl
 obtain ⟨p0,r0,rfl,h0,q1⟩:=q0.cons_inv
 obtain ⟨x0,y0,w0⟩:=bm h0
 obtain ⟨p1,r1,rfl,h1,q2⟩:=q1.cons_inv
 obtain ⟨x1,y1,w1⟩:=bm h1
 obtain ⟨p2,r2,rfl,h2,q3⟩:=q2.cons_inv
 obtain ⟨x2,y2,w2⟩:=bm h2
 obtain ⟨p3,r3,rfl,h3,q4⟩:=q3.cons_inv
 obtain ⟨x3,y3,w3⟩:=Body.of h3
 cases q4.fy
 refine ⟨⟨x0,x1,x2,x3⟩,?_,⟨w0,w1,w2,w3⟩⟩
 have hh:=(aH.append y0 (aH.append y1 (aH.append y2 (aH.append y3 aH.nil))))
 simpa only [ae.cells,cw,fZ,lQ,List.append_assoc,List.cons_append,List.nil_append,List.append_nil] using hh
structure ah.ok (c:ah):Prop where
 aX:(fun n=>cP n) c.aX
 day:(fun n=>cP n) c.day
 report:ae.ok c.report
theorem ah.of {ds:List D} (h:dy TT 70 ds):∃ c:ah,aH ds c.cells∧c.ok:=by
 have q0:=h.cC rfl rfl
 obtain ⟨p0,r0,rfl,h0,q1⟩:=q0.cons_inv
 obtain ⟨x0,y0,w0⟩:=bm h0
 obtain ⟨p1,r1,rfl,h1,q2⟩:=q1.cons_inv
 obtain ⟨x1,y1,w1⟩:=bm h1
 obtain ⟨p2,r2,rfl,h2,q3⟩:=q2.cons_inv
 obtain ⟨x2,y2,w2⟩:=ae.of h2
 cases q3.fy
 refine ⟨⟨x0,x1,x2⟩,?_,⟨w0,w1,w2⟩⟩
 have hh:=(aH.append y0 (aH.append y1 (aH.append y2 aH.nil)))
 simpa only [ah.cells,cw,fZ,lQ,List.append_assoc,List.cons_append,List.nil_append,List.append_nil] using hh
theorem Ky {x:ae} (w0:x.ok):x.dT:=(by
  have hI:∀ n,cP n→yb (dI n)=true:=fun n h=>decide_eq_true h
  unfold ae.dT
  simp only [ae.cells,Body.cells,dV.cells,fc.cells,Sign.cells,cd.cells,bB.cells,Fact.cells,List.all_append,List.all_cons,List.all_nil,Bool.and_true,hI _ w0.reporter,hI _ w0.no,hI _ w0.day,hI _ w0.body.kind,hI _ w0.body.bill,hI _ w0.body.index,hI _ w0.body.aw.cD,hI _ w0.body.aw.cL,hI _ w0.body.aw.cE,hI _ w0.body.aw.sum,hI _ w0.body.aw.bh,hI _ w0.body.aw.bp.kind,hI _ w0.body.aw.bp.n,hI _ w0.body.aw.bp.unit,hI _ w0.body.aw.day,hI _ w0.body.aw.bn,hI _ w0.body.aw.tE,hI _ w0.body.aw.need,hI _ w0.body.aw.iR,hI _ w0.body.aw.flags,hI _ w0.body.aw.parts,hI _ w0.body.sign.kind,hI _ w0.body.sign.part,hI _ w0.body.sign.fu,hI _ w0.body.sign.for_,hI _ w0.body.sign.cH,hI _ w0.body.sign.sum,hI _ w0.body.sign.day,hI _ w0.body.sign.bn,hI _ w0.body.sign.flags,hI _ w0.body.act.kind,hI _ w0.body.act.fu,hI _ w0.body.act.cH,hI _ w0.body.act.part,hI _ w0.body.act.at_,hI _ w0.body.act.sum,hI _ w0.body.act.day,hI _ w0.body.act.bn,hI _ w0.body.act.form,hI _ w0.body.alter.at_,hI _ w0.body.alter.sum,hI _ w0.body.fact.kind,hI _ w0.body.fact.at_,hI _ w0.body.fact.n])
theorem uG (YL:∀ (a0:ai) (a1:List ah) (a2:Int) (a3:Int) (a4:ae) (a5:ByteArray),(∀ a,a∈a1→a.report.dT)→a4.dT→jc a0 a1 a2 a3 a4 a5=true) (Nx:List (List D)) (h:Jg TT [56,68,3,3,37,9] Nx):kE Tryz.prog 5 (tZ TT [56,68,3,3,37,9] Nx) [] (.d (.v (.bool true))) []:=by
 obtain ⟨d0,d1,d2,d3,d4,d5,rfl⟩:∃ d0 d1 d2 d3 d4 d5,Nx=[d0,d1,d2,d3,d4,d5]:=by
  match Nx,h with
  | [d0,d1,d2,d3,d4,d5],_=>exact ⟨d0,d1,d2,d3,d4,d5,rfl⟩
 obtain ⟨h0,h1,h2,h3,h4,h5,-⟩:=h
 obtain ⟨x0,y0,w0⟩:=ai.of h0
 obtain ⟨n1,f1,rfl,g1⟩:=h1.gh rfl rfl
 obtain ⟨x1,y1,-,w1⟩:=lj ah.cells ah.ok (fun ds h=>ah.of h) g1
 obtain ⟨x2,rfl,w2⟩:=h2.zc rfl rfl
 obtain ⟨x3,rfl,w3⟩:=h3.zc rfl rfl
 obtain ⟨x4,y4,w4⟩:=ae.of h4
 obtain ⟨x5,rfl,w5⟩:=h5.PG rfl rfl
 have hf:=yD x0 x1 x2 x3 x4 x5 (fun a h=>Ky (w1 a h).report) (Ky w4)
 rw [YL x0 x1 x2 x3 x4 x5 (fun a h=>Ky (w1 a h).report) (Ky w4)] at hf
 exact kE.PF hf ⟨pF.d y0.agg,pF.d y1,pF.rfl',pF.rfl',pF.d y4.agg,pF.rfl',trivial⟩
end Go.Proofs.YtihmmpaalpghbaaGreatDoor
