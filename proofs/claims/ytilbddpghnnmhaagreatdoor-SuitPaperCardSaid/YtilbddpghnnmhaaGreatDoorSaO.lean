/- Arguments as typed data. -/
import Derived.Test.YtilbddpghnnmhaaGreatDoorSa17
import Derived.Test.YtilbddpghnnmhaaGreatDoorAvY
namespace Go.Proofs.YtilbddpghnnmhaaGreatDoor
open Go Go.Av
set_option linter.unusedSimpArgs false
set_option linter.unusedVariables false
set_option maxHeartbeats 1000000
set_option maxRecDepth 100000
theorem zky {ds:List D} (h:qb TT 9 ds):∃ c:ByteArray,js ds (vU c)∧(fun s:ByteArray=>s.size≤maxLen) c:=by
 obtain ⟨x,rfl,w⟩:=h.str_inv rfl rfl
 exact ⟨x,js.refl _,w⟩
theorem zsf {ds:List D} (h:qb TT 34 ds):∃ l:List ByteArray,js ds [slD vU l]∧(fun l=>∀ x,x∈l→(fun s:ByteArray=>s.size≤maxLen) x) l:=by
 obtain ⟨n,f,rfl,g⟩:=h.slice_inv rfl rfl
 obtain ⟨l,y,-,w⟩:=vX vU (fun s:ByteArray=>s.size≤maxLen) (fun ds h=>zky h) g
 exact ⟨l,js.one y,w⟩
theorem jH {ds:List D} (h:qb TT 3 ds):∃ c:Int,js ds (jC c)∧(fun n=>kK n) c:=by
 obtain ⟨x,rfl,w⟩:=h.int_inv rfl rfl
 exact ⟨x,js.refl _,zq9 w⟩
theorem znm {ds:List D} (h:qb TT 25 ds):∃ l:List Int,js ds [slD jC l]∧(fun l=>∀ x,x∈l→(fun n=>kK n) x) l:=by
 obtain ⟨n,f,rfl,g⟩:=h.slice_inv rfl rfl
 obtain ⟨l,y,-,w⟩:=vX jC (fun n=>kK n) (fun ds h=>jH h) g
 exact ⟨l,js.one y,w⟩
structure zk.ok (c:zk):Prop where
 name:(fun s:ByteArray=>s.size≤maxLen) c.name
 order:(fun n=>kK n) c.order
 currency:(fun n=>kK n) c.currency
 rest:(fun l=>∀ x,x∈l→(fun n=>kK n) x) c.rest
 feasts:(fun l=>∀ x,x∈l→(fun n=>kK n) x) c.feasts
 shut:(fun l=>∀ x,x∈l→(fun n=>kK n) x) c.shut
theorem zk.of {ds:List D} (h:qb TT 132 ds):∃ c:zk,js ds c.cells∧c.ok:=by
 have q0:=h.struct_inv rfl rfl
 obtain ⟨p0,r0,rfl,h0,q1⟩:=q0.cons_inv
 obtain ⟨x0,y0,w0⟩:=zky h0
 obtain ⟨p1,r1,rfl,h1,q2⟩:=q1.cons_inv
 obtain ⟨x1,y1,w1⟩:=jH h1
 obtain ⟨p2,r2,rfl,h2,q3⟩:=q2.cons_inv
 obtain ⟨x2,y2,w2⟩:=jH h2
 obtain ⟨p3,r3,rfl,h3,q4⟩:=q3.cons_inv
 obtain ⟨x3,y3,w3⟩:=znm h3
 obtain ⟨p4,r4,rfl,h4,q5⟩:=q4.cons_inv
 obtain ⟨x4,y4,w4⟩:=znm h4
 obtain ⟨p5,r5,rfl,h5,q6⟩:=q5.cons_inv
 obtain ⟨x5,y5,w5⟩:=znm h5
 cases q6.nil_inv
 refine ⟨⟨x0,x1,x2,x3,x4,x5⟩,?_,⟨w0,w1,w2,w3,w4,w5⟩⟩
 have hh:=(js.append y0 (js.append y1 (js.append y2 (js.append y3 (js.append y4 (js.append y5 js.nil))))))
 simpa only [zk.cells,jC,vU,Qq,List.append_assoc,List.cons_append,List.nil_append,List.append_nil] using hh
theorem zsw {ds:List D} (h:qb TT 35 ds):∃ l:List zk,js ds [slD zk.cells l]∧(fun l=>∀ x,x∈l→zk.ok x) l:=by
 obtain ⟨n,f,rfl,g⟩:=h.slice_inv rfl rfl
 obtain ⟨l,y,-,w⟩:=vX zk.cells zk.ok (fun ds h=>zk.of h) g
 exact ⟨l,js.one y,w⟩
structure yf.ok (c:yf):Prop where
 grade:(fun n=>kK n) c.grade
theorem yf.of {ds:List D} (h:qb TT 135 ds):∃ c:yf,js ds c.cells∧c.ok:=by
 have q0:=h.struct_inv rfl rfl
 obtain ⟨p0,r0,rfl,h0,q1⟩:=q0.cons_inv
 obtain ⟨x0,y0,w0⟩:=jH h0
 cases q1.nil_inv
 refine ⟨⟨x0⟩,?_,⟨w0⟩⟩
 have hh:=(js.append y0 js.nil)
 simpa only [yf.cells,jC,vU,Qq,List.append_assoc,List.cons_append,List.nil_append,List.append_nil] using hh
theorem zr7 {ds:List D} (h:qb TT 36 ds):∃ l:List yf,js ds [slD yf.cells l]∧(fun l=>∀ x,x∈l→yf.ok x) l:=by
 obtain ⟨n,f,rfl,g⟩:=h.slice_inv rfl rfl
 obtain ⟨l,y,-,w⟩:=vX yf.cells yf.ok (fun ds h=>yf.of h) g
 exact ⟨l,js.one y,w⟩
structure WF.ok (c:WF):Prop where
 name:(fun s:ByteArray=>s.size≤maxLen) c.name
 city:(fun n=>kK n) c.city
 group:(fun n=>kK n) c.group
theorem WF.of {ds:List D} (h:qb TT 137 ds):∃ c:WF,js ds c.cells∧c.ok:=by
 have q0:=h.struct_inv rfl rfl
 obtain ⟨p0,r0,rfl,h0,q1⟩:=q0.cons_inv
 obtain ⟨x0,y0,w0⟩:=zky h0
 obtain ⟨p1,r1,rfl,h1,q2⟩:=q1.cons_inv
 obtain ⟨x1,y1,w1⟩:=jH h1
 obtain ⟨p2,r2,rfl,h2,q3⟩:=q2.cons_inv
 obtain ⟨x2,y2,w2⟩:=jH h2
 cases q3.nil_inv
 refine ⟨⟨x0,x1,x2⟩,?_,⟨w0,w1,w2⟩⟩
 have hh:=(js.append y0 (js.append y1 (js.append y2 js.nil)))
 simpa only [WF.cells,jC,vU,Qq,List.append_assoc,List.cons_append,List.nil_append,List.append_nil] using hh
theorem zsl {ds:List D} (h:qb TT 37 ds):∃ l:List WF,js ds [slD WF.cells l]∧(fun l=>∀ x,x∈l→WF.ok x) l:=by
 obtain ⟨n,f,rfl,g⟩:=h.slice_inv rfl rfl
 obtain ⟨l,y,-,w⟩:=vX WF.cells WF.ok (fun ds h=>WF.of h) g
 exact ⟨l,js.one y,w⟩
theorem zoA {ds:List D} (h:qb TT 4 ds):∃ c:Bool,js ds (Qq c)∧True:=by
 obtain ⟨x,rfl⟩:=h.bool_inv rfl rfl
 exact ⟨x,js.refl _,trivial⟩
structure yi.ok (c:yi):Prop where
 ask:(fun n=>kK n) c.ask
 by_:(fun n=>kK n) c.by_
 whole:(fun _=>True) c.whole
theorem yi.of {ds:List D} (h:qb TT 179 ds):∃ c:yi,js ds c.cells∧c.ok:=by
 have q0:=h.struct_inv rfl rfl
 obtain ⟨p0,r0,rfl,h0,q1⟩:=q0.cons_inv
 obtain ⟨x0,y0,w0⟩:=jH h0
 obtain ⟨p1,r1,rfl,h1,q2⟩:=q1.cons_inv
 obtain ⟨x1,y1,w1⟩:=jH h1
 obtain ⟨p2,r2,rfl,h2,q3⟩:=q2.cons_inv
 obtain ⟨x2,y2,w2⟩:=zoA h2
 cases q3.nil_inv
 refine ⟨⟨x0,x1,x2⟩,?_,⟨w0,w1,w2⟩⟩
 have hh:=(js.append y0 (js.append y1 (js.append y2 js.nil)))
 simpa only [yi.cells,jC,vU,Qq,List.append_assoc,List.cons_append,List.nil_append,List.append_nil] using hh
theorem zqZ {ds:List D} (h:qb TT 126 ds):∃ l:List yi,js ds [slD yi.cells l]∧(fun l=>∀ x,x∈l→yi.ok x) l:=by
 obtain ⟨n,f,rfl,g⟩:=h.slice_inv rfl rfl
 obtain ⟨l,y,-,w⟩:=vX yi.cells yi.ok (fun ds h=>yi.of h) g
 exact ⟨l,js.one y,w⟩
theorem jm.ofR_all {t:Nat} {ds:List D} (h:qb TT t ds):(t=172→∃ c:jm,js ds c.cellsR)∧(t=170→∃ l:List jm,js ds [slD jm.cellsR l]):=by
 refine qb.rec (motive_1:=fun t ds _=>(t=172→∃ c:jm,js ds c.cellsR)∧(t=170→∃ l:List jm,js ds [slD jm.cellsR l]))
  (motive_2:=fun ts ds _=>(ts=[]→ds=[])∧(ts=[170]→∃ l:List jm,js ds [slD jm.cellsR l])∧(ts=[3,170]→∃ (n:Int) (l:List jm),js ds [dI n,slD jm.cellsR l])∧(ts=[3,3,170]→∃ (m n:Int) (l:List jm),js ds [dI m,dI n,slD jm.cellsR l])) ?_ ?_ ?_ ?_ ?_ ?_ ?_ h
 ·intro t i k hi hk n hw
  exact ⟨fun e=>(by subst e; cases hi; cases hk),fun e=>(by subst e; cases hi; cases hk)⟩
 ·intro t i hi hk b
  exact ⟨fun e=>(by subst e; cases hi; cases hk),fun e=>(by subst e; cases hi; cases hk)⟩
 ·intro t i hi hk s hw
  exact ⟨fun e=>(by subst e; cases hi; cases hk),fun e=>(by subst e; cases hi; cases hk)⟩
 ·intro t e i hi hk n f hh ih
  refine ⟨fun e=>(by subst e; cases hi; cases hk),fun e=>?_⟩
  subst e
  cases hi
  cases hk
  classical
  let g:Nat→jm:=fun j=>if hj:j < n then ((ih j hj).1 rfl).choose else default
  have hg:∀ j,j < n→js (f j) (g j).cellsR:=fun j hj=>by
   simp only [g,hj,dif_pos]
   exact ((ih j hj).1 rfl).choose_spec
  refine ⟨(List.range n).map g,js.one ?_⟩
  have e:slD jm.cellsR ((List.range n).map g)=.sl n fun i=>jm.cellsR (((List.range n).map g).getD i default):=by simp [slD]
  rw [e]
  refine DLe.slAll fun i hi=>?_
  have:((List.range n).map g).getD i default=g i:=by simp [List.getD,hi]
  rw [this]
  exact hg i hi
 ·intro t i fs hi hk ds hs ih
  refine ⟨fun e=>?_,fun e=>(by subst e; cases hi; cases hk)⟩
  subst e
  cases hi
  cases hk
  obtain ⟨m,n,l,hl⟩:=ih.2.2.2 rfl
  refine ⟨⟨m,n,l⟩,?_⟩
  have h2:=(jm.argsR_le ⟨m,n,l⟩).2
  have:js [dI m,dI n,slD jm.cellsR l] (jm.cellsR ⟨m,n,l⟩):=js.cons DLe.rfl' (js.cons DLe.rfl' (js.one h2))
  exact ⟨hl.1.trans this.1,fun j hj=>(hl.2 j hj).trans (this.2 j (by rw [← hl.1]; exact hj))⟩
 ·exact ⟨fun _=>rfl,fun e=>(by cases e),fun e=>(by cases e),fun e=>(by cases e)⟩
 ·intro t ts p ds hp hs ih1 ih2
  refine ⟨fun e=>(by cases e),fun e=>?_,fun e=>?_,fun e=>?_⟩
  ·cases e
   obtain ⟨l,hl⟩:=ih1.2 rfl
   have:=ih2.1 rfl
   subst this
   exact ⟨l,by simpa using hl⟩
  ·cases e
   obtain ⟨x,rfl,w⟩:=hp.int_inv rfl rfl
   obtain ⟨l,hl⟩:=ih2.2.1 rfl
   exact ⟨x,l,js.append (js.refl _) hl⟩
  ·cases e
   obtain ⟨x,rfl,w⟩:=hp.int_inv rfl rfl
   obtain ⟨n,l,hl⟩:=ih2.2.2.1 rfl
   exact ⟨x,n,l,js.append (js.refl _) hl⟩
theorem jm.ofR {ds:List D} (h:qb TT 172 ds):∃ c:jm,js ds c.cellsR∧True:=by
 obtain ⟨c,hc⟩:=(jm.ofR_all h).1 rfl
 exact ⟨c,hc,trivial⟩
theorem jm.of {ds:List D} (h:qb TT 172 ds):∃ c:jm,js ds c.cells∧True:=by
 obtain ⟨c,hc,_⟩:=jm.ofR h
 have hu:=c.unroll
 exact ⟨c,⟨hc.1.trans hu.1,fun j hj=>(hc.2 j hj).trans (hu.2 j (by rw [← hc.1]; exact hj))⟩,trivial⟩
structure Kq.ok (c:Kq):Prop where
 ask:(fun n=>kK n) c.ask
 term:(fun _=>True) c.term
theorem Kq.of {ds:List D} (h:qb TT 174 ds):∃ c:Kq,js ds c.cells∧c.ok:=by
 have q0:=h.struct_inv rfl rfl
 obtain ⟨p0,r0,rfl,h0,q1⟩:=q0.cons_inv
 obtain ⟨x0,y0,w0⟩:=jH h0
 obtain ⟨p1,r1,rfl,h1,q2⟩:=q1.cons_inv
 obtain ⟨x1,y1,w1⟩:=jm.of h1
 cases q2.nil_inv
 refine ⟨⟨x0,x1⟩,?_,⟨w0,w1⟩⟩
 have hh:=(js.append y0 (js.append y1 js.nil))
 simpa only [Kq.cells,jC,vU,Qq,List.append_assoc,List.cons_append,List.nil_append,List.append_nil] using hh
theorem zro {ds:List D} (h:qb TT 127 ds):∃ l:List Kq,js ds [slD Kq.cells l]∧(fun l=>∀ x,x∈l→Kq.ok x) l:=by
 obtain ⟨n,f,rfl,g⟩:=h.slice_inv rfl rfl
 obtain ⟨l,y,-,w⟩:=vX Kq.cells Kq.ok (fun ds h=>Kq.of h) g
 exact ⟨l,js.one y,w⟩
structure qv.ok (c:qv):Prop where
 name:(fun s:ByteArray=>s.size≤maxLen) c.name
 accepts:(fun _=>True) c.accepts
 choices:(fun l=>∀ x,x∈l→yi.ok x) c.choices
 rules:(fun l=>∀ x,x∈l→Kq.ok x) c.rules
theorem qv.of {ds:List D} (h:qb TT 129 ds):∃ c:qv,js ds c.cells∧c.ok:=by
 have q0:=h.struct_inv rfl rfl
 obtain ⟨p0,r0,rfl,h0,q1⟩:=q0.cons_inv
 obtain ⟨x0,y0,w0⟩:=zky h0
 obtain ⟨p1,r1,rfl,h1,q2⟩:=q1.cons_inv
 obtain ⟨x1,y1,w1⟩:=zoA h1
 obtain ⟨p2,r2,rfl,h2,q3⟩:=q2.cons_inv
 obtain ⟨x2,y2,w2⟩:=zqZ h2
 obtain ⟨p3,r3,rfl,h3,q4⟩:=q3.cons_inv
 obtain ⟨x3,y3,w3⟩:=zro h3
 cases q4.nil_inv
 refine ⟨⟨x0,x1,x2,x3⟩,?_,⟨w0,w1,w2,w3⟩⟩
 have hh:=(js.append y0 (js.append y1 (js.append y2 (js.append y3 js.nil))))
 simpa only [qv.cells,jC,vU,Qq,List.append_assoc,List.cons_append,List.nil_append,List.append_nil] using hh
theorem zse {ds:List D} (h:qb TT 38 ds):∃ l:List qv,js ds [slD qv.cells l]∧(fun l=>∀ x,x∈l→qv.ok x) l:=by
 obtain ⟨n,f,rfl,g⟩:=h.slice_inv rfl rfl
 obtain ⟨l,y,-,w⟩:=vX qv.cells qv.ok (fun ds h=>qv.of h) g
 exact ⟨l,js.one y,w⟩
structure kZ.ok (c:kZ):Prop where
 from_:(fun n=>kK n) c.from_
 to_:(fun n=>kK n) c.to_
 days:(fun n=>kK n) c.days
theorem kZ.of {ds:List D} (h:qb TT 139 ds):∃ c:kZ,js ds c.cells∧c.ok:=by
 have q0:=h.struct_inv rfl rfl
 obtain ⟨p0,r0,rfl,h0,q1⟩:=q0.cons_inv
 obtain ⟨x0,y0,w0⟩:=jH h0
 obtain ⟨p1,r1,rfl,h1,q2⟩:=q1.cons_inv
 obtain ⟨x1,y1,w1⟩:=jH h1
 obtain ⟨p2,r2,rfl,h2,q3⟩:=q2.cons_inv
 obtain ⟨x2,y2,w2⟩:=jH h2
 cases q3.nil_inv
 refine ⟨⟨x0,x1,x2⟩,?_,⟨w0,w1,w2⟩⟩
 have hh:=(js.append y0 (js.append y1 (js.append y2 js.nil)))
 simpa only [kZ.cells,jC,vU,Qq,List.append_assoc,List.cons_append,List.nil_append,List.append_nil] using hh
theorem zsj {ds:List D} (h:qb TT 39 ds):∃ l:List kZ,js ds [slD kZ.cells l]∧(fun l=>∀ x,x∈l→kZ.ok x) l:=by
 obtain ⟨n,f,rfl,g⟩:=h.slice_inv rfl rfl
 obtain ⟨l,y,-,w⟩:=vX kZ.cells kZ.ok (fun ds h=>kZ.of h) g
 exact ⟨l,js.one y,w⟩
structure uR.ok (c:uR):Prop where
 from_:(fun n=>kK n) c.from_
 to_:(fun n=>kK n) c.to_
 num:(fun n=>kK n) c.num
 den:(fun n=>kK n) c.den
 since:(fun n=>kK n) c.since
theorem uR.of {ds:List D} (h:qb TT 141 ds):∃ c:uR,js ds c.cells∧c.ok:=by
 have q0:=h.struct_inv rfl rfl
 obtain ⟨p0,r0,rfl,h0,q1⟩:=q0.cons_inv
 obtain ⟨x0,y0,w0⟩:=jH h0
 obtain ⟨p1,r1,rfl,h1,q2⟩:=q1.cons_inv
 obtain ⟨x1,y1,w1⟩:=jH h1
 obtain ⟨p2,r2,rfl,h2,q3⟩:=q2.cons_inv
 obtain ⟨x2,y2,w2⟩:=jH h2
 obtain ⟨p3,r3,rfl,h3,q4⟩:=q3.cons_inv
 obtain ⟨x3,y3,w3⟩:=jH h3
 obtain ⟨p4,r4,rfl,h4,q5⟩:=q4.cons_inv
 obtain ⟨x4,y4,w4⟩:=jH h4
 cases q5.nil_inv
 refine ⟨⟨x0,x1,x2,x3,x4⟩,?_,⟨w0,w1,w2,w3,w4⟩⟩
 have hh:=(js.append y0 (js.append y1 (js.append y2 (js.append y3 (js.append y4 js.nil)))))
 simpa only [uR.cells,jC,vU,Qq,List.append_assoc,List.cons_append,List.nil_append,List.append_nil] using hh
theorem zsr {ds:List D} (h:qb TT 40 ds):∃ l:List uR,js ds [slD uR.cells l]∧(fun l=>∀ x,x∈l→uR.ok x) l:=by
 obtain ⟨n,f,rfl,g⟩:=h.slice_inv rfl rfl
 obtain ⟨l,y,-,w⟩:=vX uR.cells uR.ok (fun ds h=>uR.of h) g
 exact ⟨l,js.one y,w⟩
structure Halt.ok (c:Halt):Prop where
 order:(fun n=>kK n) c.order
 from_:(fun n=>kK n) c.from_
 to_:(fun n=>kK n) c.to_
theorem Halt.of {ds:List D} (h:qb TT 143 ds):∃ c:Halt,js ds c.cells∧c.ok:=by
 have q0:=h.struct_inv rfl rfl
 obtain ⟨p0,r0,rfl,h0,q1⟩:=q0.cons_inv
 obtain ⟨x0,y0,w0⟩:=jH h0
 obtain ⟨p1,r1,rfl,h1,q2⟩:=q1.cons_inv
 obtain ⟨x1,y1,w1⟩:=jH h1
 obtain ⟨p2,r2,rfl,h2,q3⟩:=q2.cons_inv
 obtain ⟨x2,y2,w2⟩:=jH h2
 cases q3.nil_inv
 refine ⟨⟨x0,x1,x2⟩,?_,⟨w0,w1,w2⟩⟩
 have hh:=(js.append y0 (js.append y1 (js.append y2 js.nil)))
 simpa only [Halt.cells,jC,vU,Qq,List.append_assoc,List.cons_append,List.nil_append,List.append_nil] using hh
theorem zsi {ds:List D} (h:qb TT 41 ds):∃ l:List Halt,js ds [slD Halt.cells l]∧(fun l=>∀ x,x∈l→Halt.ok x) l:=by
 obtain ⟨n,f,rfl,g⟩:=h.slice_inv rfl rfl
 obtain ⟨l,y,-,w⟩:=vX Halt.cells Halt.ok (fun ds h=>Halt.of h) g
 exact ⟨l,js.one y,w⟩
structure jg.ok (c:jg):Prop where
 currencies:(fun l=>∀ x,x∈l→(fun s:ByteArray=>s.size≤maxLen) x) c.currencies
 cities:(fun l=>∀ x,x∈l→zk.ok x) c.cities
 groups:(fun l=>∀ x,x∈l→yf.ok x) c.groups
 firms:(fun l=>∀ x,x∈l→WF.ok x) c.firms
 orders:(fun l=>∀ x,x∈l→qv.ok x) c.orders
 usances:(fun l=>∀ x,x∈l→kZ.ok x) c.usances
 rates:(fun l=>∀ x,x∈l→uR.ok x) c.rates
 halts:(fun l=>∀ x,x∈l→Halt.ok x) c.halts
theorem jg.of {ds:List D} (h:qb TT 43 ds):∃ c:jg,js ds c.cells∧c.ok:=by
 have q0:=h.struct_inv rfl rfl
 obtain ⟨p0,r0,rfl,h0,q1⟩:=q0.cons_inv
 obtain ⟨x0,y0,w0⟩:=zsf h0
 obtain ⟨p1,r1,rfl,h1,q2⟩:=q1.cons_inv
 obtain ⟨x1,y1,w1⟩:=zsw h1
 obtain ⟨p2,r2,rfl,h2,q3⟩:=q2.cons_inv
 obtain ⟨x2,y2,w2⟩:=zr7 h2
 obtain ⟨p3,r3,rfl,h3,q4⟩:=q3.cons_inv
 obtain ⟨x3,y3,w3⟩:=zsl h3
 obtain ⟨p4,r4,rfl,h4,q5⟩:=q4.cons_inv
 obtain ⟨x4,y4,w4⟩:=zse h4
 obtain ⟨p5,r5,rfl,h5,q6⟩:=q5.cons_inv
 obtain ⟨x5,y5,w5⟩:=zsj h5
 obtain ⟨p6,r6,rfl,h6,q7⟩:=q6.cons_inv
 obtain ⟨x6,y6,w6⟩:=zsr h6
 obtain ⟨p7,r7,rfl,h7,q8⟩:=q7.cons_inv
 obtain ⟨x7,y7,w7⟩:=zsi h7
 cases q8.nil_inv
 refine ⟨⟨x0,x1,x2,x3,x4,x5,x6,x7⟩,?_,⟨w0,w1,w2,w3,w4,w5,w6,w7⟩⟩
 have hh:=(js.append y0 (js.append y1 (js.append y2 (js.append y3 (js.append y4 (js.append y5 (js.append y6 (js.append y7 js.nil))))))))
 simpa only [jg.cells,jC,vU,Qq,List.append_assoc,List.cons_append,List.nil_append,List.append_nil] using hh
structure yw.ok (c:yw):Prop where
 kind:(fun n=>kK n) c.kind
 n:(fun n=>kK n) c.n
 unit:(fun n=>kK n) c.unit
theorem yw.of {ds:List D} (h:qb TT 57 ds):∃ c:yw,js ds c.cells∧c.ok:=by
 have q0:=h.struct_inv rfl rfl
 obtain ⟨p0,r0,rfl,h0,q1⟩:=q0.cons_inv
 obtain ⟨x0,y0,w0⟩:=jH h0
 obtain ⟨p1,r1,rfl,h1,q2⟩:=q1.cons_inv
 obtain ⟨x1,y1,w1⟩:=jH h1
 obtain ⟨p2,r2,rfl,h2,q3⟩:=q2.cons_inv
 obtain ⟨x2,y2,w2⟩:=jH h2
 cases q3.nil_inv
 refine ⟨⟨x0,x1,x2⟩,?_,⟨w0,w1,w2⟩⟩
 have hh:=(js.append y0 (js.append y1 (js.append y2 js.nil)))
 simpa only [yw.cells,jC,vU,Qq,List.append_assoc,List.cons_append,List.nil_append,List.append_nil] using hh
structure ua.ok (c:ua):Prop where
 drawer:(fun n=>kK n) c.drawer
 drawee:(fun n=>kK n) c.drawee
 payee:(fun n=>kK n) c.payee
 sum:(fun n=>kK n) c.sum
 currency:(fun n=>kK n) c.currency
 tenor:yw.ok c.tenor
 day:(fun n=>kK n) c.day
 city:(fun n=>kK n) c.city
 pay:(fun n=>kK n) c.pay
 need:(fun n=>kK n) c.need
 rate:(fun n=>kK n) c.rate
 flags:(fun n=>kK n) c.flags
 parts:(fun n=>kK n) c.parts
theorem ua.of {ds:List D} (h:qb TT 59 ds):∃ c:ua,js ds c.cells∧c.ok:=by
 have q0:=h.struct_inv rfl rfl
 obtain ⟨p0,r0,rfl,h0,q1⟩:=q0.cons_inv
 obtain ⟨x0,y0,w0⟩:=jH h0
 obtain ⟨p1,r1,rfl,h1,q2⟩:=q1.cons_inv
 obtain ⟨x1,y1,w1⟩:=jH h1
 obtain ⟨p2,r2,rfl,h2,q3⟩:=q2.cons_inv
 obtain ⟨x2,y2,w2⟩:=jH h2
 obtain ⟨p3,r3,rfl,h3,q4⟩:=q3.cons_inv
 obtain ⟨x3,y3,w3⟩:=jH h3
 obtain ⟨p4,r4,rfl,h4,q5⟩:=q4.cons_inv
 obtain ⟨x4,y4,w4⟩:=jH h4
 obtain ⟨p5,r5,rfl,h5,q6⟩:=q5.cons_inv
 obtain ⟨x5,y5,w5⟩:=yw.of h5
 obtain ⟨p6,r6,rfl,h6,q7⟩:=q6.cons_inv
 obtain ⟨x6,y6,w6⟩:=jH h6
 obtain ⟨p7,r7,rfl,h7,q8⟩:=q7.cons_inv
 obtain ⟨x7,y7,w7⟩:=jH h7
 obtain ⟨p8,r8,rfl,h8,q9⟩:=q8.cons_inv
 obtain ⟨x8,y8,w8⟩:=jH h8
 obtain ⟨p9,r9,rfl,h9,q10⟩:=q9.cons_inv
 obtain ⟨x9,y9,w9⟩:=jH h9
 obtain ⟨p10,r10,rfl,h10,q11⟩:=q10.cons_inv
 obtain ⟨x10,y10,w10⟩:=jH h10
 obtain ⟨p11,r11,rfl,h11,q12⟩:=q11.cons_inv
 obtain ⟨x11,y11,w11⟩:=jH h11
 obtain ⟨p12,r12,rfl,h12,q13⟩:=q12.cons_inv
 obtain ⟨x12,y12,w12⟩:=jH h12
 cases q13.nil_inv
 refine ⟨⟨x0,x1,x2,x3,x4,x5,x6,x7,x8,x9,x10,x11,x12⟩,?_,⟨w0,w1,w2,w3,w4,w5,w6,w7,w8,w9,w10,w11,w12⟩⟩
 have hh:=(js.append y0 (js.append y1 (js.append y2 (js.append y3 (js.append y4 (js.append y5 (js.append y6 (js.append y7 (js.append y8 (js.append y9 (js.append y10 (js.append y11 (js.append y12 js.nil)))))))))))))
 simpa only [ua.cells,jC,vU,Qq,List.append_assoc,List.cons_append,List.nil_append,List.append_nil] using hh
structure qt.ok (c:qt):Prop where
 kind:(fun n=>kK n) c.kind
 part:(fun n=>kK n) c.part
 who:(fun n=>kK n) c.who
 for_:(fun n=>kK n) c.for_
 to_:(fun n=>kK n) c.to_
 sum:(fun n=>kK n) c.sum
 day:(fun n=>kK n) c.day
 city:(fun n=>kK n) c.city
 flags:(fun n=>kK n) c.flags
theorem qt.of {ds:List D} (h:qb TT 147 ds):∃ c:qt,js ds c.cells∧c.ok:=by
 have q0:=h.struct_inv rfl rfl
 obtain ⟨p0,r0,rfl,h0,q1⟩:=q0.cons_inv
 obtain ⟨x0,y0,w0⟩:=jH h0
 obtain ⟨p1,r1,rfl,h1,q2⟩:=q1.cons_inv
 obtain ⟨x1,y1,w1⟩:=jH h1
 obtain ⟨p2,r2,rfl,h2,q3⟩:=q2.cons_inv
 obtain ⟨x2,y2,w2⟩:=jH h2
 obtain ⟨p3,r3,rfl,h3,q4⟩:=q3.cons_inv
 obtain ⟨x3,y3,w3⟩:=jH h3
 obtain ⟨p4,r4,rfl,h4,q5⟩:=q4.cons_inv
 obtain ⟨x4,y4,w4⟩:=jH h4
 obtain ⟨p5,r5,rfl,h5,q6⟩:=q5.cons_inv
 obtain ⟨x5,y5,w5⟩:=jH h5
 obtain ⟨p6,r6,rfl,h6,q7⟩:=q6.cons_inv
 obtain ⟨x6,y6,w6⟩:=jH h6
 obtain ⟨p7,r7,rfl,h7,q8⟩:=q7.cons_inv
 obtain ⟨x7,y7,w7⟩:=jH h7
 obtain ⟨p8,r8,rfl,h8,q9⟩:=q8.cons_inv
 obtain ⟨x8,y8,w8⟩:=jH h8
 cases q9.nil_inv
 refine ⟨⟨x0,x1,x2,x3,x4,x5,x6,x7,x8⟩,?_,⟨w0,w1,w2,w3,w4,w5,w6,w7,w8⟩⟩
 have hh:=(js.append y0 (js.append y1 (js.append y2 (js.append y3 (js.append y4 (js.append y5 (js.append y6 (js.append y7 (js.append y8 js.nil)))))))))
 simpa only [qt.cells,jC,vU,Qq,List.append_assoc,List.cons_append,List.nil_append,List.append_nil] using hh
theorem zr5 {ds:List D} (h:qb TT 60 ds):∃ l:List qt,js ds [slD qt.cells l]∧(fun l=>∀ x,x∈l→qt.ok x) l:=by
 obtain ⟨n,f,rfl,g⟩:=h.slice_inv rfl rfl
 obtain ⟨l,y,-,w⟩:=vX qt.cells qt.ok (fun ds h=>qt.of h) g
 exact ⟨l,js.one y,w⟩
structure kC.ok (c:kC):Prop where
 at_:(fun n=>kK n) c.at_
 sum:(fun n=>kK n) c.sum
theorem kC.of {ds:List D} (h:qb TT 102 ds):∃ c:kC,js ds c.cells∧c.ok:=by
 have q0:=h.struct_inv rfl rfl
 obtain ⟨p0,r0,rfl,h0,q1⟩:=q0.cons_inv
 obtain ⟨x0,y0,w0⟩:=jH h0
 obtain ⟨p1,r1,rfl,h1,q2⟩:=q1.cons_inv
 obtain ⟨x1,y1,w1⟩:=jH h1
 cases q2.nil_inv
 refine ⟨⟨x0,x1⟩,?_,⟨w0,w1⟩⟩
 have hh:=(js.append y0 (js.append y1 js.nil))
 simpa only [kC.cells,jC,vU,Qq,List.append_assoc,List.cons_append,List.nil_append,List.append_nil] using hh
theorem zrS {ds:List D} (h:qb TT 61 ds):∃ l:List kC,js ds [slD kC.cells l]∧(fun l=>∀ x,x∈l→kC.ok x) l:=by
 obtain ⟨n,f,rfl,g⟩:=h.slice_inv rfl rfl
 obtain ⟨l,y,-,w⟩:=vX kC.cells kC.ok (fun ds h=>kC.of h) g
 exact ⟨l,js.one y,w⟩
structure jI.ok (c:jI):Prop where
 kind:(fun n=>kK n) c.kind
 who:(fun n=>kK n) c.who
 to_:(fun n=>kK n) c.to_
 part:(fun n=>kK n) c.part
 at_:(fun n=>kK n) c.at_
 sum:(fun n=>kK n) c.sum
 day:(fun n=>kK n) c.day
 city:(fun n=>kK n) c.city
 form:(fun n=>kK n) c.form
theorem jI.of {ds:List D} (h:qb TT 108 ds):∃ c:jI,js ds c.cells∧c.ok:=by
 have q0:=h.struct_inv rfl rfl
 obtain ⟨p0,r0,rfl,h0,q1⟩:=q0.cons_inv
 obtain ⟨x0,y0,w0⟩:=jH h0
 obtain ⟨p1,r1,rfl,h1,q2⟩:=q1.cons_inv
 obtain ⟨x1,y1,w1⟩:=jH h1
 obtain ⟨p2,r2,rfl,h2,q3⟩:=q2.cons_inv
 obtain ⟨x2,y2,w2⟩:=jH h2
 obtain ⟨p3,r3,rfl,h3,q4⟩:=q3.cons_inv
 obtain ⟨x3,y3,w3⟩:=jH h3
 obtain ⟨p4,r4,rfl,h4,q5⟩:=q4.cons_inv
 obtain ⟨x4,y4,w4⟩:=jH h4
 obtain ⟨p5,r5,rfl,h5,q6⟩:=q5.cons_inv
 obtain ⟨x5,y5,w5⟩:=jH h5
 obtain ⟨p6,r6,rfl,h6,q7⟩:=q6.cons_inv
 obtain ⟨x6,y6,w6⟩:=jH h6
 obtain ⟨p7,r7,rfl,h7,q8⟩:=q7.cons_inv
 obtain ⟨x7,y7,w7⟩:=jH h7
 obtain ⟨p8,r8,rfl,h8,q9⟩:=q8.cons_inv
 obtain ⟨x8,y8,w8⟩:=jH h8
 cases q9.nil_inv
 refine ⟨⟨x0,x1,x2,x3,x4,x5,x6,x7,x8⟩,?_,⟨w0,w1,w2,w3,w4,w5,w6,w7,w8⟩⟩
 have hh:=(js.append y0 (js.append y1 (js.append y2 (js.append y3 (js.append y4 (js.append y5 (js.append y6 (js.append y7 (js.append y8 js.nil)))))))))
 simpa only [jI.cells,jC,vU,Qq,List.append_assoc,List.cons_append,List.nil_append,List.append_nil] using hh
theorem zr1 {ds:List D} (h:qb TT 62 ds):∃ l:List jI,js ds [slD jI.cells l]∧(fun l=>∀ x,x∈l→jI.ok x) l:=by
 obtain ⟨n,f,rfl,g⟩:=h.slice_inv rfl rfl
 obtain ⟨l,y,-,w⟩:=vX jI.cells jI.ok (fun ds h=>jI.of h) g
 exact ⟨l,js.one y,w⟩
structure vS.ok (c:vS):Prop where
 kind:(fun n=>kK n) c.kind
 at_:(fun n=>kK n) c.at_
 n:(fun n=>kK n) c.n
theorem vS.of {ds:List D} (h:qb TT 72 ds):∃ c:vS,js ds c.cells∧c.ok:=by
 have q0:=h.struct_inv rfl rfl
 obtain ⟨p0,r0,rfl,h0,q1⟩:=q0.cons_inv
 obtain ⟨x0,y0,w0⟩:=jH h0
 obtain ⟨p1,r1,rfl,h1,q2⟩:=q1.cons_inv
 obtain ⟨x1,y1,w1⟩:=jH h1
 obtain ⟨p2,r2,rfl,h2,q3⟩:=q2.cons_inv
 obtain ⟨x2,y2,w2⟩:=jH h2
 cases q3.nil_inv
 refine ⟨⟨x0,x1,x2⟩,?_,⟨w0,w1,w2⟩⟩
 have hh:=(js.append y0 (js.append y1 (js.append y2 js.nil)))
 simpa only [vS.cells,jC,vU,Qq,List.append_assoc,List.cons_append,List.nil_append,List.append_nil] using hh
theorem zsd {ds:List D} (h:qb TT 63 ds):∃ l:List vS,js ds [slD vS.cells l]∧(fun l=>∀ x,x∈l→vS.ok x) l:=by
 obtain ⟨n,f,rfl,g⟩:=h.slice_inv rfl rfl
 obtain ⟨l,y,-,w⟩:=vX vS.cells vS.ok (fun ds h=>vS.of h) g
 exact ⟨l,js.one y,w⟩
structure jh.ok (c:jh):Prop where
 bill:ua.ok c.bill
 signs:(fun l=>∀ x,x∈l→qt.ok x) c.signs
 alters:(fun l=>∀ x,x∈l→kC.ok x) c.alters
 acts:(fun l=>∀ x,x∈l→jI.ok x) c.acts
 facts:(fun l=>∀ x,x∈l→vS.ok x) c.facts
theorem jh.of {ds:List D} (h:qb TT 65 ds):∃ c:jh,js ds c.cells∧c.ok:=by
 have q0:=h.struct_inv rfl rfl
 obtain ⟨p0,r0,rfl,h0,q1⟩:=q0.cons_inv
 obtain ⟨x0,y0,w0⟩:=ua.of h0
 obtain ⟨p1,r1,rfl,h1,q2⟩:=q1.cons_inv
 obtain ⟨x1,y1,w1⟩:=zr5 h1
 obtain ⟨p2,r2,rfl,h2,q3⟩:=q2.cons_inv
 obtain ⟨x2,y2,w2⟩:=zrS h2
 obtain ⟨p3,r3,rfl,h3,q4⟩:=q3.cons_inv
 obtain ⟨x3,y3,w3⟩:=zr1 h3
 obtain ⟨p4,r4,rfl,h4,q5⟩:=q4.cons_inv
 obtain ⟨x4,y4,w4⟩:=zsd h4
 cases q5.nil_inv
 refine ⟨⟨x0,x1,x2,x3,x4⟩,?_,⟨w0,w1,w2,w3,w4⟩⟩
 have hh:=(js.append y0 (js.append y1 (js.append y2 (js.append y3 (js.append y4 js.nil)))))
 simpa only [jh.cells,jC,vU,Qq,List.append_assoc,List.cons_append,List.nil_append,List.append_nil] using hh
structure jM.ok (c:jM):Prop where
 forum:(fun n=>kK n) c.forum
 plaintiff:(fun n=>kK n) c.plaintiff
 defendant:(fun n=>kK n) c.defendant
 file:(fun n=>kK n) c.file
 sign:(fun n=>kK n) c.sign
 day:(fun n=>kK n) c.day
 kind:(fun n=>kK n) c.kind
theorem jM.of {ds:List D} (h:qb TT 46 ds):∃ c:jM,js ds c.cells∧c.ok:=by
 have q0:=h.struct_inv rfl rfl
 obtain ⟨p0,r0,rfl,h0,q1⟩:=q0.cons_inv
 obtain ⟨x0,y0,w0⟩:=jH h0
 obtain ⟨p1,r1,rfl,h1,q2⟩:=q1.cons_inv
 obtain ⟨x1,y1,w1⟩:=jH h1
 obtain ⟨p2,r2,rfl,h2,q3⟩:=q2.cons_inv
 obtain ⟨x2,y2,w2⟩:=jH h2
 obtain ⟨p3,r3,rfl,h3,q4⟩:=q3.cons_inv
 obtain ⟨x3,y3,w3⟩:=jH h3
 obtain ⟨p4,r4,rfl,h4,q5⟩:=q4.cons_inv
 obtain ⟨x4,y4,w4⟩:=jH h4
 obtain ⟨p5,r5,rfl,h5,q6⟩:=q5.cons_inv
 obtain ⟨x5,y5,w5⟩:=jH h5
 obtain ⟨p6,r6,rfl,h6,q7⟩:=q6.cons_inv
 obtain ⟨x6,y6,w6⟩:=jH h6
 cases q7.nil_inv
 refine ⟨⟨x0,x1,x2,x3,x4,x5,x6⟩,?_,⟨w0,w1,w2,w3,w4,w5,w6⟩⟩
 have hh:=(js.append y0 (js.append y1 (js.append y2 (js.append y3 (js.append y4 (js.append y5 (js.append y6 js.nil)))))))
 simpa only [jM.cells,jC,vU,Qq,List.append_assoc,List.cons_append,List.nil_append,List.append_nil] using hh
theorem Hm (hlaw:∀ (a0:jg) (a1:List jh) (a2:jM) (a3:List Int) (a4:Int),JF a0 a1 a2 a3 a4=true) (dss:List (List D)) (h:zkV TT [43,44,46,25,3] dss):FnA Tryz.prog 5 (Wg TT [43,44,46,25,3] dss) [] (.d (.v (.bool true))) []:=by
 obtain ⟨d0,d1,d2,d3,d4,rfl⟩:∃ d0 d1 d2 d3 d4,dss=[d0,d1,d2,d3,d4]:=by
  match dss,h with
  | [d0,d1,d2,d3,d4],_=>exact ⟨d0,d1,d2,d3,d4,rfl⟩
 obtain ⟨h0,h1,h2,h3,h4,-⟩:=h
 obtain ⟨x0,y0,w0⟩:=jg.of h0
 obtain ⟨n1,f1,rfl,g1⟩:=h1.slice_inv rfl rfl
 obtain ⟨x1,y1,-,w1⟩:=vX jh.cells jh.ok (fun ds h=>jh.of h) g1
 obtain ⟨x2,y2,w2⟩:=jM.of h2
 obtain ⟨n3,f3,rfl,g3⟩:=h3.slice_inv rfl rfl
 obtain ⟨x3,y3,-,w3⟩:=vX jC (fun n=>kK n) (fun ds h=>jH h) g3
 obtain ⟨x4,rfl,w4⟩:=h4.int_inv rfl rfl
 have hf:=zbQ x0 x1 x2 x3 x4
 rw [hlaw] at hf
 exact FnA.argLe hf ⟨UE.d y0.agg,UE.d y1,UE.d y2.agg,UE.d y3,UE.rfl',trivial⟩
end Go.Proofs.YtilbddpghnnmhaaGreatDoor
