/- Arguments as typed data. -/
import Derived.Test.YtilbddpghnnmhaaGreatDoorSa17
import Derived.Test.YtilbddpghnnmhaaGreatDoorAvY
namespace Go.Proofs.YtilbddpghnnmhaaGreatDoor
open Go Go.Av
set_option linter.unusedSimpArgs false
set_option linter.unusedVariables false
set_option maxHeartbeats 1000000
set_option maxRecDepth 100000
theorem zkE {ds:List D} (h:kW TT 9 ds):∃ c:ByteArray,jr ds (vJ c)∧(fun s:ByteArray=>s.size≤maxLen) c:=by
 obtain ⟨x,rfl,w⟩:=h.str_inv rfl rfl
 exact ⟨x,jr.refl _,w⟩
theorem zrY {ds:List D} (h:kW TT 34 ds):∃ l:List ByteArray,jr ds [slD vJ l]∧(fun l=>∀ x,x∈l→(fun s:ByteArray=>s.size≤maxLen) x) l:=by
 obtain ⟨n,f,rfl,g⟩:=h.slice_inv rfl rfl
 obtain ⟨l,y,-,w⟩:=vG vJ (fun s:ByteArray=>s.size≤maxLen) (fun ds h=>zkE h) g
 exact ⟨l,jr.one y,w⟩
theorem jD {ds:List D} (h:kW TT 3 ds):∃ c:Int,jr ds (jA c)∧(fun n=>kE n) c:=by
 obtain ⟨x,rfl,w⟩:=h.int_inv rfl rfl
 exact ⟨x,jr.refl _,zqO w⟩
theorem znl {ds:List D} (h:kW TT 25 ds):∃ l:List Int,jr ds [slD jA l]∧(fun l=>∀ x,x∈l→(fun n=>kE n) x) l:=by
 obtain ⟨n,f,rfl,g⟩:=h.slice_inv rfl rfl
 obtain ⟨l,y,-,w⟩:=vG jA (fun n=>kE n) (fun ds h=>jD h) g
 exact ⟨l,jr.one y,w⟩
structure zb.ok (c:zb):Prop where
 name:(fun s:ByteArray=>s.size≤maxLen) c.name
 order:(fun n=>kE n) c.order
 currency:(fun n=>kE n) c.currency
 rest:(fun l=>∀ x,x∈l→(fun n=>kE n) x) c.rest
 feasts:(fun l=>∀ x,x∈l→(fun n=>kE n) x) c.feasts
 shut:(fun l=>∀ x,x∈l→(fun n=>kE n) x) c.shut
theorem zb.of {ds:List D} (h:kW TT 132 ds):∃ c:zb,jr ds c.cells∧c.ok:=by
 have q0:=h.struct_inv rfl rfl
 obtain ⟨p0,r0,rfl,h0,q1⟩:=q0.cons_inv
 obtain ⟨x0,y0,w0⟩:=zkE h0
 obtain ⟨p1,r1,rfl,h1,q2⟩:=q1.cons_inv
 obtain ⟨x1,y1,w1⟩:=jD h1
 obtain ⟨p2,r2,rfl,h2,q3⟩:=q2.cons_inv
 obtain ⟨x2,y2,w2⟩:=jD h2
 obtain ⟨p3,r3,rfl,h3,q4⟩:=q3.cons_inv
 obtain ⟨x3,y3,w3⟩:=znl h3
 obtain ⟨p4,r4,rfl,h4,q5⟩:=q4.cons_inv
 obtain ⟨x4,y4,w4⟩:=znl h4
 obtain ⟨p5,r5,rfl,h5,q6⟩:=q5.cons_inv
 obtain ⟨x5,y5,w5⟩:=znl h5
 cases q6.nil_inv
 refine ⟨⟨x0,x1,x2,x3,x4,x5⟩,?_,⟨w0,w1,w2,w3,w4,w5⟩⟩
 have hh:=(jr.append y0 (jr.append y1 (jr.append y2 (jr.append y3 (jr.append y4 (jr.append y5 jr.nil))))))
 simpa only [zb.cells,jA,vJ,KC,List.append_assoc,List.cons_append,List.nil_append,List.append_nil] using hh
theorem zrC {ds:List D} (h:kW TT 35 ds):∃ l:List zb,jr ds [slD zb.cells l]∧(fun l=>∀ x,x∈l→zb.ok x) l:=by
 obtain ⟨n,f,rfl,g⟩:=h.slice_inv rfl rfl
 obtain ⟨l,y,-,w⟩:=vG zb.cells zb.ok (fun ds h=>zb.of h) g
 exact ⟨l,jr.one y,w⟩
structure uQ.ok (c:uQ):Prop where
 grade:(fun n=>kE n) c.grade
theorem uQ.of {ds:List D} (h:kW TT 135 ds):∃ c:uQ,jr ds c.cells∧c.ok:=by
 have q0:=h.struct_inv rfl rfl
 obtain ⟨p0,r0,rfl,h0,q1⟩:=q0.cons_inv
 obtain ⟨x0,y0,w0⟩:=jD h0
 cases q1.nil_inv
 refine ⟨⟨x0⟩,?_,⟨w0⟩⟩
 have hh:=(jr.append y0 jr.nil)
 simpa only [uQ.cells,jA,vJ,KC,List.append_assoc,List.cons_append,List.nil_append,List.append_nil] using hh
theorem zrA {ds:List D} (h:kW TT 36 ds):∃ l:List uQ,jr ds [slD uQ.cells l]∧(fun l=>∀ x,x∈l→uQ.ok x) l:=by
 obtain ⟨n,f,rfl,g⟩:=h.slice_inv rfl rfl
 obtain ⟨l,y,-,w⟩:=vG uQ.cells uQ.ok (fun ds h=>uQ.of h) g
 exact ⟨l,jr.one y,w⟩
structure WH.ok (c:WH):Prop where
 name:(fun s:ByteArray=>s.size≤maxLen) c.name
 city:(fun n=>kE n) c.city
 group:(fun n=>kE n) c.group
theorem WH.of {ds:List D} (h:kW TT 137 ds):∃ c:WH,jr ds c.cells∧c.ok:=by
 have q0:=h.struct_inv rfl rfl
 obtain ⟨p0,r0,rfl,h0,q1⟩:=q0.cons_inv
 obtain ⟨x0,y0,w0⟩:=zkE h0
 obtain ⟨p1,r1,rfl,h1,q2⟩:=q1.cons_inv
 obtain ⟨x1,y1,w1⟩:=jD h1
 obtain ⟨p2,r2,rfl,h2,q3⟩:=q2.cons_inv
 obtain ⟨x2,y2,w2⟩:=jD h2
 cases q3.nil_inv
 refine ⟨⟨x0,x1,x2⟩,?_,⟨w0,w1,w2⟩⟩
 have hh:=(jr.append y0 (jr.append y1 (jr.append y2 jr.nil)))
 simpa only [WH.cells,jA,vJ,KC,List.append_assoc,List.cons_append,List.nil_append,List.append_nil] using hh
theorem zrG {ds:List D} (h:kW TT 37 ds):∃ l:List WH,jr ds [slD WH.cells l]∧(fun l=>∀ x,x∈l→WH.ok x) l:=by
 obtain ⟨n,f,rfl,g⟩:=h.slice_inv rfl rfl
 obtain ⟨l,y,-,w⟩:=vG WH.cells WH.ok (fun ds h=>WH.of h) g
 exact ⟨l,jr.one y,w⟩
theorem zoz {ds:List D} (h:kW TT 4 ds):∃ c:Bool,jr ds (KC c)∧True:=by
 obtain ⟨x,rfl⟩:=h.bool_inv rfl rfl
 exact ⟨x,jr.refl _,trivial⟩
structure uP.ok (c:uP):Prop where
 ask:(fun n=>kE n) c.ask
 by_:(fun n=>kE n) c.by_
 whole:(fun _=>True) c.whole
theorem uP.of {ds:List D} (h:kW TT 179 ds):∃ c:uP,jr ds c.cells∧c.ok:=by
 have q0:=h.struct_inv rfl rfl
 obtain ⟨p0,r0,rfl,h0,q1⟩:=q0.cons_inv
 obtain ⟨x0,y0,w0⟩:=jD h0
 obtain ⟨p1,r1,rfl,h1,q2⟩:=q1.cons_inv
 obtain ⟨x1,y1,w1⟩:=jD h1
 obtain ⟨p2,r2,rfl,h2,q3⟩:=q2.cons_inv
 obtain ⟨x2,y2,w2⟩:=zoz h2
 cases q3.nil_inv
 refine ⟨⟨x0,x1,x2⟩,?_,⟨w0,w1,w2⟩⟩
 have hh:=(jr.append y0 (jr.append y1 (jr.append y2 jr.nil)))
 simpa only [uP.cells,jA,vJ,KC,List.append_assoc,List.cons_append,List.nil_append,List.append_nil] using hh
theorem zqI {ds:List D} (h:kW TT 126 ds):∃ l:List uP,jr ds [slD uP.cells l]∧(fun l=>∀ x,x∈l→uP.ok x) l:=by
 obtain ⟨n,f,rfl,g⟩:=h.slice_inv rfl rfl
 obtain ⟨l,y,-,w⟩:=vG uP.cells uP.ok (fun ds h=>uP.of h) g
 exact ⟨l,jr.one y,w⟩
theorem jl.ofR_all {t:Nat} {ds:List D} (h:kW TT t ds):(t=172→∃ c:jl,jr ds c.cellsR)∧(t=170→∃ l:List jl,jr ds [slD jl.cellsR l]):=by
 refine kW.rec (motive_1:=fun t ds _=>(t=172→∃ c:jl,jr ds c.cellsR)∧(t=170→∃ l:List jl,jr ds [slD jl.cellsR l]))
  (motive_2:=fun ts ds _=>(ts=[]→ds=[])∧(ts=[170]→∃ l:List jl,jr ds [slD jl.cellsR l])∧(ts=[3,170]→∃ (n:Int) (l:List jl),jr ds [dI n,slD jl.cellsR l])∧(ts=[3,3,170]→∃ (m n:Int) (l:List jl),jr ds [dI m,dI n,slD jl.cellsR l])) ?_ ?_ ?_ ?_ ?_ ?_ ?_ h
 ·intro t i k hi hk n hw
  exact ⟨fun e=>(by subst e; cases hi; cases hk),fun e=>(by subst e; cases hi; cases hk)⟩
 ·intro t i hi hk b
  exact ⟨fun e=>(by subst e; cases hi; cases hk),fun e=>(by subst e; cases hi; cases hk)⟩
 ·intro t i hi hk s hw
  exact ⟨fun e=>(by subst e; cases hi; cases hk),fun e=>(by subst e; cases hi; cases hk)⟩
 ·intro t e i hi hk n f hh ih
  refine ⟨fun e=>(by subst e; cases hi; cases hk),fun e=>?_⟩
  subst e
  cases hi
  cases hk
  classical
  let g:Nat→jl:=fun j=>if hj:j < n then ((ih j hj).1 rfl).choose else default
  have hg:∀ j,j < n→jr (f j) (g j).cellsR:=fun j hj=>by
   simp only [g,hj,dif_pos]
   exact ((ih j hj).1 rfl).choose_spec
  refine ⟨(List.range n).map g,jr.one ?_⟩
  have e:slD jl.cellsR ((List.range n).map g)=.sl n fun i=>jl.cellsR (((List.range n).map g).getD i default):=by simp [slD]
  rw [e]
  refine DLe.slAll fun i hi=>?_
  have:((List.range n).map g).getD i default=g i:=by simp [List.getD,hi]
  rw [this]
  exact hg i hi
 ·intro t i fs hi hk ds hs ih
  refine ⟨fun e=>?_,fun e=>(by subst e; cases hi; cases hk)⟩
  subst e
  cases hi
  cases hk
  obtain ⟨m,n,l,hl⟩:=ih.2.2.2 rfl
  refine ⟨⟨m,n,l⟩,?_⟩
  have h2:=(jl.argsR_le ⟨m,n,l⟩).2
  have:jr [dI m,dI n,slD jl.cellsR l] (jl.cellsR ⟨m,n,l⟩):=jr.cons DLe.rfl' (jr.cons DLe.rfl' (jr.one h2))
  exact ⟨hl.1.trans this.1,fun j hj=>(hl.2 j hj).trans (this.2 j (by rw [← hl.1]; exact hj))⟩
 ·exact ⟨fun _=>rfl,fun e=>(by cases e),fun e=>(by cases e),fun e=>(by cases e)⟩
 ·intro t ts p ds hp hs ih1 ih2
  refine ⟨fun e=>(by cases e),fun e=>?_,fun e=>?_,fun e=>?_⟩
  ·cases e
   obtain ⟨l,hl⟩:=ih1.2 rfl
   have:=ih2.1 rfl
   subst this
   exact ⟨l,by simpa using hl⟩
  ·cases e
   obtain ⟨x,rfl,w⟩:=hp.int_inv rfl rfl
   obtain ⟨l,hl⟩:=ih2.2.1 rfl
   exact ⟨x,l,jr.append (jr.refl _) hl⟩
  ·cases e
   obtain ⟨x,rfl,w⟩:=hp.int_inv rfl rfl
   obtain ⟨n,l,hl⟩:=ih2.2.2.1 rfl
   exact ⟨x,n,l,jr.append (jr.refl _) hl⟩
theorem jl.ofR {ds:List D} (h:kW TT 172 ds):∃ c:jl,jr ds c.cellsR∧True:=by
 obtain ⟨c,hc⟩:=(jl.ofR_all h).1 rfl
 exact ⟨c,hc,trivial⟩
theorem jl.of {ds:List D} (h:kW TT 172 ds):∃ c:jl,jr ds c.cells∧True:=by
 obtain ⟨c,hc,_⟩:=jl.ofR h
 have hu:=c.unroll
 exact ⟨c,⟨hc.1.trans hu.1,fun j hj=>(hc.2 j hj).trans (hu.2 j (by rw [← hc.1]; exact hj))⟩,trivial⟩
structure JT.ok (c:JT):Prop where
 ask:(fun n=>kE n) c.ask
 term:(fun _=>True) c.term
theorem JT.of {ds:List D} (h:kW TT 174 ds):∃ c:JT,jr ds c.cells∧c.ok:=by
 have q0:=h.struct_inv rfl rfl
 obtain ⟨p0,r0,rfl,h0,q1⟩:=q0.cons_inv
 obtain ⟨x0,y0,w0⟩:=jD h0
 obtain ⟨p1,r1,rfl,h1,q2⟩:=q1.cons_inv
 obtain ⟨x1,y1,w1⟩:=jl.of h1
 cases q2.nil_inv
 refine ⟨⟨x0,x1⟩,?_,⟨w0,w1⟩⟩
 have hh:=(jr.append y0 (jr.append y1 jr.nil))
 simpa only [JT.cells,jA,vJ,KC,List.append_assoc,List.cons_append,List.nil_append,List.append_nil] using hh
theorem zq4 {ds:List D} (h:kW TT 127 ds):∃ l:List JT,jr ds [slD JT.cells l]∧(fun l=>∀ x,x∈l→JT.ok x) l:=by
 obtain ⟨n,f,rfl,g⟩:=h.slice_inv rfl rfl
 obtain ⟨l,y,-,w⟩:=vG JT.cells JT.ok (fun ds h=>JT.of h) g
 exact ⟨l,jr.one y,w⟩
structure qk.ok (c:qk):Prop where
 name:(fun s:ByteArray=>s.size≤maxLen) c.name
 accepts:(fun _=>True) c.accepts
 choices:(fun l=>∀ x,x∈l→uP.ok x) c.choices
 rules:(fun l=>∀ x,x∈l→JT.ok x) c.rules
theorem qk.of {ds:List D} (h:kW TT 129 ds):∃ c:qk,jr ds c.cells∧c.ok:=by
 have q0:=h.struct_inv rfl rfl
 obtain ⟨p0,r0,rfl,h0,q1⟩:=q0.cons_inv
 obtain ⟨x0,y0,w0⟩:=zkE h0
 obtain ⟨p1,r1,rfl,h1,q2⟩:=q1.cons_inv
 obtain ⟨x1,y1,w1⟩:=zoz h1
 obtain ⟨p2,r2,rfl,h2,q3⟩:=q2.cons_inv
 obtain ⟨x2,y2,w2⟩:=zqI h2
 obtain ⟨p3,r3,rfl,h3,q4⟩:=q3.cons_inv
 obtain ⟨x3,y3,w3⟩:=zq4 h3
 cases q4.nil_inv
 refine ⟨⟨x0,x1,x2,x3⟩,?_,⟨w0,w1,w2,w3⟩⟩
 have hh:=(jr.append y0 (jr.append y1 (jr.append y2 (jr.append y3 jr.nil))))
 simpa only [qk.cells,jA,vJ,KC,List.append_assoc,List.cons_append,List.nil_append,List.append_nil] using hh
theorem zrH {ds:List D} (h:kW TT 38 ds):∃ l:List qk,jr ds [slD qk.cells l]∧(fun l=>∀ x,x∈l→qk.ok x) l:=by
 obtain ⟨n,f,rfl,g⟩:=h.slice_inv rfl rfl
 obtain ⟨l,y,-,w⟩:=vG qk.cells qk.ok (fun ds h=>qk.of h) g
 exact ⟨l,jr.one y,w⟩
structure kO.ok (c:kO):Prop where
 from_:(fun n=>kE n) c.from_
 to_:(fun n=>kE n) c.to_
 days:(fun n=>kE n) c.days
theorem kO.of {ds:List D} (h:kW TT 139 ds):∃ c:kO,jr ds c.cells∧c.ok:=by
 have q0:=h.struct_inv rfl rfl
 obtain ⟨p0,r0,rfl,h0,q1⟩:=q0.cons_inv
 obtain ⟨x0,y0,w0⟩:=jD h0
 obtain ⟨p1,r1,rfl,h1,q2⟩:=q1.cons_inv
 obtain ⟨x1,y1,w1⟩:=jD h1
 obtain ⟨p2,r2,rfl,h2,q3⟩:=q2.cons_inv
 obtain ⟨x2,y2,w2⟩:=jD h2
 cases q3.nil_inv
 refine ⟨⟨x0,x1,x2⟩,?_,⟨w0,w1,w2⟩⟩
 have hh:=(jr.append y0 (jr.append y1 (jr.append y2 jr.nil)))
 simpa only [kO.cells,jA,vJ,KC,List.append_assoc,List.cons_append,List.nil_append,List.append_nil] using hh
theorem zsh {ds:List D} (h:kW TT 39 ds):∃ l:List kO,jr ds [slD kO.cells l]∧(fun l=>∀ x,x∈l→kO.ok x) l:=by
 obtain ⟨n,f,rfl,g⟩:=h.slice_inv rfl rfl
 obtain ⟨l,y,-,w⟩:=vG kO.cells kO.ok (fun ds h=>kO.of h) g
 exact ⟨l,jr.one y,w⟩
structure uC.ok (c:uC):Prop where
 from_:(fun n=>kE n) c.from_
 to_:(fun n=>kE n) c.to_
 num:(fun n=>kE n) c.num
 den:(fun n=>kE n) c.den
 since:(fun n=>kE n) c.since
theorem uC.of {ds:List D} (h:kW TT 141 ds):∃ c:uC,jr ds c.cells∧c.ok:=by
 have q0:=h.struct_inv rfl rfl
 obtain ⟨p0,r0,rfl,h0,q1⟩:=q0.cons_inv
 obtain ⟨x0,y0,w0⟩:=jD h0
 obtain ⟨p1,r1,rfl,h1,q2⟩:=q1.cons_inv
 obtain ⟨x1,y1,w1⟩:=jD h1
 obtain ⟨p2,r2,rfl,h2,q3⟩:=q2.cons_inv
 obtain ⟨x2,y2,w2⟩:=jD h2
 obtain ⟨p3,r3,rfl,h3,q4⟩:=q3.cons_inv
 obtain ⟨x3,y3,w3⟩:=jD h3
 obtain ⟨p4,r4,rfl,h4,q5⟩:=q4.cons_inv
 obtain ⟨x4,y4,w4⟩:=jD h4
 cases q5.nil_inv
 refine ⟨⟨x0,x1,x2,x3,x4⟩,?_,⟨w0,w1,w2,w3,w4⟩⟩
 have hh:=(jr.append y0 (jr.append y1 (jr.append y2 (jr.append y3 (jr.append y4 jr.nil)))))
 simpa only [uC.cells,jA,vJ,KC,List.append_assoc,List.cons_append,List.nil_append,List.append_nil] using hh
theorem zrI {ds:List D} (h:kW TT 40 ds):∃ l:List uC,jr ds [slD uC.cells l]∧(fun l=>∀ x,x∈l→uC.ok x) l:=by
 obtain ⟨n,f,rfl,g⟩:=h.slice_inv rfl rfl
 obtain ⟨l,y,-,w⟩:=vG uC.cells uC.ok (fun ds h=>uC.of h) g
 exact ⟨l,jr.one y,w⟩
structure Halt.ok (c:Halt):Prop where
 order:(fun n=>kE n) c.order
 from_:(fun n=>kE n) c.from_
 to_:(fun n=>kE n) c.to_
theorem Halt.of {ds:List D} (h:kW TT 143 ds):∃ c:Halt,jr ds c.cells∧c.ok:=by
 have q0:=h.struct_inv rfl rfl
 obtain ⟨p0,r0,rfl,h0,q1⟩:=q0.cons_inv
 obtain ⟨x0,y0,w0⟩:=jD h0
 obtain ⟨p1,r1,rfl,h1,q2⟩:=q1.cons_inv
 obtain ⟨x1,y1,w1⟩:=jD h1
 obtain ⟨p2,r2,rfl,h2,q3⟩:=q2.cons_inv
 obtain ⟨x2,y2,w2⟩:=jD h2
 cases q3.nil_inv
 refine ⟨⟨x0,x1,x2⟩,?_,⟨w0,w1,w2⟩⟩
 have hh:=(jr.append y0 (jr.append y1 (jr.append y2 jr.nil)))
 simpa only [Halt.cells,jA,vJ,KC,List.append_assoc,List.cons_append,List.nil_append,List.append_nil] using hh
theorem zsg {ds:List D} (h:kW TT 41 ds):∃ l:List Halt,jr ds [slD Halt.cells l]∧(fun l=>∀ x,x∈l→Halt.ok x) l:=by
 obtain ⟨n,f,rfl,g⟩:=h.slice_inv rfl rfl
 obtain ⟨l,y,-,w⟩:=vG Halt.cells Halt.ok (fun ds h=>Halt.of h) g
 exact ⟨l,jr.one y,w⟩
structure jg.ok (c:jg):Prop where
 currencies:(fun l=>∀ x,x∈l→(fun s:ByteArray=>s.size≤maxLen) x) c.currencies
 cities:(fun l=>∀ x,x∈l→zb.ok x) c.cities
 groups:(fun l=>∀ x,x∈l→uQ.ok x) c.groups
 firms:(fun l=>∀ x,x∈l→WH.ok x) c.firms
 orders:(fun l=>∀ x,x∈l→qk.ok x) c.orders
 usances:(fun l=>∀ x,x∈l→kO.ok x) c.usances
 rates:(fun l=>∀ x,x∈l→uC.ok x) c.rates
 halts:(fun l=>∀ x,x∈l→Halt.ok x) c.halts
theorem jg.of {ds:List D} (h:kW TT 43 ds):∃ c:jg,jr ds c.cells∧c.ok:=by
 have q0:=h.struct_inv rfl rfl
 obtain ⟨p0,r0,rfl,h0,q1⟩:=q0.cons_inv
 obtain ⟨x0,y0,w0⟩:=zrY h0
 obtain ⟨p1,r1,rfl,h1,q2⟩:=q1.cons_inv
 obtain ⟨x1,y1,w1⟩:=zrC h1
 obtain ⟨p2,r2,rfl,h2,q3⟩:=q2.cons_inv
 obtain ⟨x2,y2,w2⟩:=zrA h2
 obtain ⟨p3,r3,rfl,h3,q4⟩:=q3.cons_inv
 obtain ⟨x3,y3,w3⟩:=zrG h3
 obtain ⟨p4,r4,rfl,h4,q5⟩:=q4.cons_inv
 obtain ⟨x4,y4,w4⟩:=zrH h4
 obtain ⟨p5,r5,rfl,h5,q6⟩:=q5.cons_inv
 obtain ⟨x5,y5,w5⟩:=zsh h5
 obtain ⟨p6,r6,rfl,h6,q7⟩:=q6.cons_inv
 obtain ⟨x6,y6,w6⟩:=zrI h6
 obtain ⟨p7,r7,rfl,h7,q8⟩:=q7.cons_inv
 obtain ⟨x7,y7,w7⟩:=zsg h7
 cases q8.nil_inv
 refine ⟨⟨x0,x1,x2,x3,x4,x5,x6,x7⟩,?_,⟨w0,w1,w2,w3,w4,w5,w6,w7⟩⟩
 have hh:=(jr.append y0 (jr.append y1 (jr.append y2 (jr.append y3 (jr.append y4 (jr.append y5 (jr.append y6 (jr.append y7 jr.nil))))))))
 simpa only [jg.cells,jA,vJ,KC,List.append_assoc,List.cons_append,List.nil_append,List.append_nil] using hh
structure uT.ok (c:uT):Prop where
 kind:(fun n=>kE n) c.kind
 n:(fun n=>kE n) c.n
 unit:(fun n=>kE n) c.unit
theorem uT.of {ds:List D} (h:kW TT 57 ds):∃ c:uT,jr ds c.cells∧c.ok:=by
 have q0:=h.struct_inv rfl rfl
 obtain ⟨p0,r0,rfl,h0,q1⟩:=q0.cons_inv
 obtain ⟨x0,y0,w0⟩:=jD h0
 obtain ⟨p1,r1,rfl,h1,q2⟩:=q1.cons_inv
 obtain ⟨x1,y1,w1⟩:=jD h1
 obtain ⟨p2,r2,rfl,h2,q3⟩:=q2.cons_inv
 obtain ⟨x2,y2,w2⟩:=jD h2
 cases q3.nil_inv
 refine ⟨⟨x0,x1,x2⟩,?_,⟨w0,w1,w2⟩⟩
 have hh:=(jr.append y0 (jr.append y1 (jr.append y2 jr.nil)))
 simpa only [uT.cells,jA,vJ,KC,List.append_assoc,List.cons_append,List.nil_append,List.append_nil] using hh
structure vP.ok (c:vP):Prop where
 drawer:(fun n=>kE n) c.drawer
 drawee:(fun n=>kE n) c.drawee
 payee:(fun n=>kE n) c.payee
 sum:(fun n=>kE n) c.sum
 currency:(fun n=>kE n) c.currency
 tenor:uT.ok c.tenor
 day:(fun n=>kE n) c.day
 city:(fun n=>kE n) c.city
 pay:(fun n=>kE n) c.pay
 need:(fun n=>kE n) c.need
 rate:(fun n=>kE n) c.rate
 flags:(fun n=>kE n) c.flags
 parts:(fun n=>kE n) c.parts
theorem vP.of {ds:List D} (h:kW TT 59 ds):∃ c:vP,jr ds c.cells∧c.ok:=by
 have q0:=h.struct_inv rfl rfl
 obtain ⟨p0,r0,rfl,h0,q1⟩:=q0.cons_inv
 obtain ⟨x0,y0,w0⟩:=jD h0
 obtain ⟨p1,r1,rfl,h1,q2⟩:=q1.cons_inv
 obtain ⟨x1,y1,w1⟩:=jD h1
 obtain ⟨p2,r2,rfl,h2,q3⟩:=q2.cons_inv
 obtain ⟨x2,y2,w2⟩:=jD h2
 obtain ⟨p3,r3,rfl,h3,q4⟩:=q3.cons_inv
 obtain ⟨x3,y3,w3⟩:=jD h3
 obtain ⟨p4,r4,rfl,h4,q5⟩:=q4.cons_inv
 obtain ⟨x4,y4,w4⟩:=jD h4
 obtain ⟨p5,r5,rfl,h5,q6⟩:=q5.cons_inv
 obtain ⟨x5,y5,w5⟩:=uT.of h5
 obtain ⟨p6,r6,rfl,h6,q7⟩:=q6.cons_inv
 obtain ⟨x6,y6,w6⟩:=jD h6
 obtain ⟨p7,r7,rfl,h7,q8⟩:=q7.cons_inv
 obtain ⟨x7,y7,w7⟩:=jD h7
 obtain ⟨p8,r8,rfl,h8,q9⟩:=q8.cons_inv
 obtain ⟨x8,y8,w8⟩:=jD h8
 obtain ⟨p9,r9,rfl,h9,q10⟩:=q9.cons_inv
 obtain ⟨x9,y9,w9⟩:=jD h9
 obtain ⟨p10,r10,rfl,h10,q11⟩:=q10.cons_inv
 obtain ⟨x10,y10,w10⟩:=jD h10
 obtain ⟨p11,r11,rfl,h11,q12⟩:=q11.cons_inv
 obtain ⟨x11,y11,w11⟩:=jD h11
 obtain ⟨p12,r12,rfl,h12,q13⟩:=q12.cons_inv
 obtain ⟨x12,y12,w12⟩:=jD h12
 cases q13.nil_inv
 refine ⟨⟨x0,x1,x2,x3,x4,x5,x6,x7,x8,x9,x10,x11,x12⟩,?_,⟨w0,w1,w2,w3,w4,w5,w6,w7,w8,w9,w10,w11,w12⟩⟩
 have hh:=(jr.append y0 (jr.append y1 (jr.append y2 (jr.append y3 (jr.append y4 (jr.append y5 (jr.append y6 (jr.append y7 (jr.append y8 (jr.append y9 (jr.append y10 (jr.append y11 (jr.append y12 jr.nil)))))))))))))
 simpa only [vP.cells,jA,vJ,KC,List.append_assoc,List.cons_append,List.nil_append,List.append_nil] using hh
structure ql.ok (c:ql):Prop where
 kind:(fun n=>kE n) c.kind
 part:(fun n=>kE n) c.part
 who:(fun n=>kE n) c.who
 for_:(fun n=>kE n) c.for_
 to_:(fun n=>kE n) c.to_
 sum:(fun n=>kE n) c.sum
 day:(fun n=>kE n) c.day
 city:(fun n=>kE n) c.city
 flags:(fun n=>kE n) c.flags
theorem ql.of {ds:List D} (h:kW TT 147 ds):∃ c:ql,jr ds c.cells∧c.ok:=by
 have q0:=h.struct_inv rfl rfl
 obtain ⟨p0,r0,rfl,h0,q1⟩:=q0.cons_inv
 obtain ⟨x0,y0,w0⟩:=jD h0
 obtain ⟨p1,r1,rfl,h1,q2⟩:=q1.cons_inv
 obtain ⟨x1,y1,w1⟩:=jD h1
 obtain ⟨p2,r2,rfl,h2,q3⟩:=q2.cons_inv
 obtain ⟨x2,y2,w2⟩:=jD h2
 obtain ⟨p3,r3,rfl,h3,q4⟩:=q3.cons_inv
 obtain ⟨x3,y3,w3⟩:=jD h3
 obtain ⟨p4,r4,rfl,h4,q5⟩:=q4.cons_inv
 obtain ⟨x4,y4,w4⟩:=jD h4
 obtain ⟨p5,r5,rfl,h5,q6⟩:=q5.cons_inv
 obtain ⟨x5,y5,w5⟩:=jD h5
 obtain ⟨p6,r6,rfl,h6,q7⟩:=q6.cons_inv
 obtain ⟨x6,y6,w6⟩:=jD h6
 obtain ⟨p7,r7,rfl,h7,q8⟩:=q7.cons_inv
 obtain ⟨x7,y7,w7⟩:=jD h7
 obtain ⟨p8,r8,rfl,h8,q9⟩:=q8.cons_inv
 obtain ⟨x8,y8,w8⟩:=jD h8
 cases q9.nil_inv
 refine ⟨⟨x0,x1,x2,x3,x4,x5,x6,x7,x8⟩,?_,⟨w0,w1,w2,w3,w4,w5,w6,w7,w8⟩⟩
 have hh:=(jr.append y0 (jr.append y1 (jr.append y2 (jr.append y3 (jr.append y4 (jr.append y5 (jr.append y6 (jr.append y7 (jr.append y8 jr.nil)))))))))
 simpa only [ql.cells,jA,vJ,KC,List.append_assoc,List.cons_append,List.nil_append,List.append_nil] using hh
theorem zr1 {ds:List D} (h:kW TT 60 ds):∃ l:List ql,jr ds [slD ql.cells l]∧(fun l=>∀ x,x∈l→ql.ok x) l:=by
 obtain ⟨n,f,rfl,g⟩:=h.slice_inv rfl rfl
 obtain ⟨l,y,-,w⟩:=vG ql.cells ql.ok (fun ds h=>ql.of h) g
 exact ⟨l,jr.one y,w⟩
structure kw.ok (c:kw):Prop where
 at_:(fun n=>kE n) c.at_
 sum:(fun n=>kE n) c.sum
theorem kw.of {ds:List D} (h:kW TT 102 ds):∃ c:kw,jr ds c.cells∧c.ok:=by
 have q0:=h.struct_inv rfl rfl
 obtain ⟨p0,r0,rfl,h0,q1⟩:=q0.cons_inv
 obtain ⟨x0,y0,w0⟩:=jD h0
 obtain ⟨p1,r1,rfl,h1,q2⟩:=q1.cons_inv
 obtain ⟨x1,y1,w1⟩:=jD h1
 cases q2.nil_inv
 refine ⟨⟨x0,x1⟩,?_,⟨w0,w1⟩⟩
 have hh:=(jr.append y0 (jr.append y1 jr.nil))
 simpa only [kw.cells,jA,vJ,KC,List.append_assoc,List.cons_append,List.nil_append,List.append_nil] using hh
theorem zrS {ds:List D} (h:kW TT 61 ds):∃ l:List kw,jr ds [slD kw.cells l]∧(fun l=>∀ x,x∈l→kw.ok x) l:=by
 obtain ⟨n,f,rfl,g⟩:=h.slice_inv rfl rfl
 obtain ⟨l,y,-,w⟩:=vG kw.cells kw.ok (fun ds h=>kw.of h) g
 exact ⟨l,jr.one y,w⟩
structure jE.ok (c:jE):Prop where
 kind:(fun n=>kE n) c.kind
 who:(fun n=>kE n) c.who
 to_:(fun n=>kE n) c.to_
 part:(fun n=>kE n) c.part
 at_:(fun n=>kE n) c.at_
 sum:(fun n=>kE n) c.sum
 day:(fun n=>kE n) c.day
 city:(fun n=>kE n) c.city
 form:(fun n=>kE n) c.form
theorem jE.of {ds:List D} (h:kW TT 108 ds):∃ c:jE,jr ds c.cells∧c.ok:=by
 have q0:=h.struct_inv rfl rfl
 obtain ⟨p0,r0,rfl,h0,q1⟩:=q0.cons_inv
 obtain ⟨x0,y0,w0⟩:=jD h0
 obtain ⟨p1,r1,rfl,h1,q2⟩:=q1.cons_inv
 obtain ⟨x1,y1,w1⟩:=jD h1
 obtain ⟨p2,r2,rfl,h2,q3⟩:=q2.cons_inv
 obtain ⟨x2,y2,w2⟩:=jD h2
 obtain ⟨p3,r3,rfl,h3,q4⟩:=q3.cons_inv
 obtain ⟨x3,y3,w3⟩:=jD h3
 obtain ⟨p4,r4,rfl,h4,q5⟩:=q4.cons_inv
 obtain ⟨x4,y4,w4⟩:=jD h4
 obtain ⟨p5,r5,rfl,h5,q6⟩:=q5.cons_inv
 obtain ⟨x5,y5,w5⟩:=jD h5
 obtain ⟨p6,r6,rfl,h6,q7⟩:=q6.cons_inv
 obtain ⟨x6,y6,w6⟩:=jD h6
 obtain ⟨p7,r7,rfl,h7,q8⟩:=q7.cons_inv
 obtain ⟨x7,y7,w7⟩:=jD h7
 obtain ⟨p8,r8,rfl,h8,q9⟩:=q8.cons_inv
 obtain ⟨x8,y8,w8⟩:=jD h8
 cases q9.nil_inv
 refine ⟨⟨x0,x1,x2,x3,x4,x5,x6,x7,x8⟩,?_,⟨w0,w1,w2,w3,w4,w5,w6,w7,w8⟩⟩
 have hh:=(jr.append y0 (jr.append y1 (jr.append y2 (jr.append y3 (jr.append y4 (jr.append y5 (jr.append y6 (jr.append y7 (jr.append y8 jr.nil)))))))))
 simpa only [jE.cells,jA,vJ,KC,List.append_assoc,List.cons_append,List.nil_append,List.append_nil] using hh
theorem zrX {ds:List D} (h:kW TT 62 ds):∃ l:List jE,jr ds [slD jE.cells l]∧(fun l=>∀ x,x∈l→jE.ok x) l:=by
 obtain ⟨n,f,rfl,g⟩:=h.slice_inv rfl rfl
 obtain ⟨l,y,-,w⟩:=vG jE.cells jE.ok (fun ds h=>jE.of h) g
 exact ⟨l,jr.one y,w⟩
structure vF.ok (c:vF):Prop where
 kind:(fun n=>kE n) c.kind
 at_:(fun n=>kE n) c.at_
 n:(fun n=>kE n) c.n
theorem vF.of {ds:List D} (h:kW TT 72 ds):∃ c:vF,jr ds c.cells∧c.ok:=by
 have q0:=h.struct_inv rfl rfl
 obtain ⟨p0,r0,rfl,h0,q1⟩:=q0.cons_inv
 obtain ⟨x0,y0,w0⟩:=jD h0
 obtain ⟨p1,r1,rfl,h1,q2⟩:=q1.cons_inv
 obtain ⟨x1,y1,w1⟩:=jD h1
 obtain ⟨p2,r2,rfl,h2,q3⟩:=q2.cons_inv
 obtain ⟨x2,y2,w2⟩:=jD h2
 cases q3.nil_inv
 refine ⟨⟨x0,x1,x2⟩,?_,⟨w0,w1,w2⟩⟩
 have hh:=(jr.append y0 (jr.append y1 (jr.append y2 jr.nil)))
 simpa only [vF.cells,jA,vJ,KC,List.append_assoc,List.cons_append,List.nil_append,List.append_nil] using hh
theorem zr5 {ds:List D} (h:kW TT 63 ds):∃ l:List vF,jr ds [slD vF.cells l]∧(fun l=>∀ x,x∈l→vF.ok x) l:=by
 obtain ⟨n,f,rfl,g⟩:=h.slice_inv rfl rfl
 obtain ⟨l,y,-,w⟩:=vG vF.cells vF.ok (fun ds h=>vF.of h) g
 exact ⟨l,jr.one y,w⟩
structure jh.ok (c:jh):Prop where
 bill:vP.ok c.bill
 signs:(fun l=>∀ x,x∈l→ql.ok x) c.signs
 alters:(fun l=>∀ x,x∈l→kw.ok x) c.alters
 acts:(fun l=>∀ x,x∈l→jE.ok x) c.acts
 facts:(fun l=>∀ x,x∈l→vF.ok x) c.facts
theorem jh.of {ds:List D} (h:kW TT 65 ds):∃ c:jh,jr ds c.cells∧c.ok:=by
 have q0:=h.struct_inv rfl rfl
 obtain ⟨p0,r0,rfl,h0,q1⟩:=q0.cons_inv
 obtain ⟨x0,y0,w0⟩:=vP.of h0
 obtain ⟨p1,r1,rfl,h1,q2⟩:=q1.cons_inv
 obtain ⟨x1,y1,w1⟩:=zr1 h1
 obtain ⟨p2,r2,rfl,h2,q3⟩:=q2.cons_inv
 obtain ⟨x2,y2,w2⟩:=zrS h2
 obtain ⟨p3,r3,rfl,h3,q4⟩:=q3.cons_inv
 obtain ⟨x3,y3,w3⟩:=zrX h3
 obtain ⟨p4,r4,rfl,h4,q5⟩:=q4.cons_inv
 obtain ⟨x4,y4,w4⟩:=zr5 h4
 cases q5.nil_inv
 refine ⟨⟨x0,x1,x2,x3,x4⟩,?_,⟨w0,w1,w2,w3,w4⟩⟩
 have hh:=(jr.append y0 (jr.append y1 (jr.append y2 (jr.append y3 (jr.append y4 jr.nil)))))
 simpa only [jh.cells,jA,vJ,KC,List.append_assoc,List.cons_append,List.nil_append,List.append_nil] using hh
structure jN.ok (c:jN):Prop where
 forum:(fun n=>kE n) c.forum
 plaintiff:(fun n=>kE n) c.plaintiff
 defendant:(fun n=>kE n) c.defendant
 file:(fun n=>kE n) c.file
 sign:(fun n=>kE n) c.sign
 day:(fun n=>kE n) c.day
 kind:(fun n=>kE n) c.kind
theorem jN.of {ds:List D} (h:kW TT 46 ds):∃ c:jN,jr ds c.cells∧c.ok:=by
 have q0:=h.struct_inv rfl rfl
 obtain ⟨p0,r0,rfl,h0,q1⟩:=q0.cons_inv
 obtain ⟨x0,y0,w0⟩:=jD h0
 obtain ⟨p1,r1,rfl,h1,q2⟩:=q1.cons_inv
 obtain ⟨x1,y1,w1⟩:=jD h1
 obtain ⟨p2,r2,rfl,h2,q3⟩:=q2.cons_inv
 obtain ⟨x2,y2,w2⟩:=jD h2
 obtain ⟨p3,r3,rfl,h3,q4⟩:=q3.cons_inv
 obtain ⟨x3,y3,w3⟩:=jD h3
 obtain ⟨p4,r4,rfl,h4,q5⟩:=q4.cons_inv
 obtain ⟨x4,y4,w4⟩:=jD h4
 obtain ⟨p5,r5,rfl,h5,q6⟩:=q5.cons_inv
 obtain ⟨x5,y5,w5⟩:=jD h5
 obtain ⟨p6,r6,rfl,h6,q7⟩:=q6.cons_inv
 obtain ⟨x6,y6,w6⟩:=jD h6
 cases q7.nil_inv
 refine ⟨⟨x0,x1,x2,x3,x4,x5,x6⟩,?_,⟨w0,w1,w2,w3,w4,w5,w6⟩⟩
 have hh:=(jr.append y0 (jr.append y1 (jr.append y2 (jr.append y3 (jr.append y4 (jr.append y5 (jr.append y6 jr.nil)))))))
 simpa only [jN.cells,jA,vJ,KC,List.append_assoc,List.cons_append,List.nil_append,List.append_nil] using hh
theorem Xl (hlaw:∀ (a0:jg) (a1:List jh) (a2:jN) (a3:List Int) (a4:Int),gh a0 a1 a2 a3 a4=true) (dss:List (List D)) (h:zkA TT [43,44,46,25,3] dss):FnA Tryz.prog 4 (Wu TT [43,44,46,25,3] dss) [] (.d (.v (.bool true))) []:=by
 obtain ⟨d0,d1,d2,d3,d4,rfl⟩:∃ d0 d1 d2 d3 d4,dss=[d0,d1,d2,d3,d4]:=by
  match dss,h with
  | [d0,d1,d2,d3,d4],_=>exact ⟨d0,d1,d2,d3,d4,rfl⟩
 obtain ⟨h0,h1,h2,h3,h4,-⟩:=h
 obtain ⟨x0,y0,w0⟩:=jg.of h0
 obtain ⟨n1,f1,rfl,g1⟩:=h1.slice_inv rfl rfl
 obtain ⟨x1,y1,-,w1⟩:=vG jh.cells jh.ok (fun ds h=>jh.of h) g1
 obtain ⟨x2,y2,w2⟩:=jN.of h2
 obtain ⟨n3,f3,rfl,g3⟩:=h3.slice_inv rfl rfl
 obtain ⟨x3,y3,-,w3⟩:=vG jA (fun n=>kE n) (fun ds h=>jD h) g3
 obtain ⟨x4,rfl,w4⟩:=h4.int_inv rfl rfl
 have hf:=zaP x0 x1 x2 x3 x4
 rw [hlaw] at hf
 exact FnA.argLe hf ⟨Uf.d y0.agg,Uf.d y1,Uf.d y2.agg,Uf.d y3,Uf.rfl',trivial⟩
end Go.Proofs.YtilbddpghnnmhaaGreatDoor
