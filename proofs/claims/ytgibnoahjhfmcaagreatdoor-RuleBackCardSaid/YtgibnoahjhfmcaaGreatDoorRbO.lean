/- Arguments as typed data. -/
import Derived.Test.YtgibnoahjhfmcaaGreatDoorRb13
import Derived.Test.YtgibnoahjhfmcaaGreatDoorLc
namespace Go.Proofs.YtgibnoahjhfmcaaGreatDoor
open Go Go.Av
set_option linter.unusedSimpArgs false
set_option linter.unusedVariables false
set_option maxHeartbeats 1000000
set_option maxRecDepth 100000
theorem strOf9 {ds:List D} (h:HasT TT 9 ds):∃ c:ByteArray,DsLe ds (strC c)∧(fun s:ByteArray=>s.size≤maxLen) c:=by
 obtain ⟨x,rfl,w⟩:=h.str_inv rfl rfl
 exact ⟨x,DsLe.refl _,w⟩
theorem boolOf4 {ds:List D} (h:HasT TT 4 ds):∃ c:Bool,DsLe ds (boolC c)∧True:=by
 obtain ⟨x,rfl⟩:=h.bool_inv rfl rfl
 exact ⟨x,DsLe.refl _,trivial⟩
theorem intOf3 {ds:List D} (h:HasT TT 3 ds):∃ c:Int,DsLe ds (intC c)∧(fun n=>in64 n) c:=by
 obtain ⟨x,rfl,w⟩:=h.int_inv rfl rfl
 exact ⟨x,DsLe.refl _,in64_of w⟩
structure Choice.ok (c:Choice):Prop where
 ask:(fun n=>in64 n) c.ask
 by_:(fun n=>in64 n) c.by_
 whole:(fun _=>True) c.whole
theorem Choice.of {ds:List D} (h:HasT TT 70 ds):∃ c:Choice,DsLe ds c.cells∧c.ok:=by
 have q0:=h.struct_inv rfl rfl
 obtain ⟨p0,r0,rfl,h0,q1⟩:=q0.cons_inv
 obtain ⟨x0,y0,w0⟩:=intOf3 h0
 obtain ⟨p1,r1,rfl,h1,q2⟩:=q1.cons_inv
 obtain ⟨x1,y1,w1⟩:=intOf3 h1
 obtain ⟨p2,r2,rfl,h2,q3⟩:=q2.cons_inv
 obtain ⟨x2,y2,w2⟩:=boolOf4 h2
 cases q3.nil_inv
 refine ⟨⟨x0,x1,x2⟩,?_,⟨w0,w1,w2⟩⟩
 have hh:=(DsLe.append y0 (DsLe.append y1 (DsLe.append y2 DsLe.nil)))
 simpa only [Choice.cells,intC,strC,boolC,List.append_assoc,List.cons_append,List.nil_append,List.append_nil] using hh
theorem slOf36 {ds:List D} (h:HasT TT 36 ds):∃ l:List Choice,DsLe ds [slD Choice.cells l]∧(fun l=>∀ x,x∈l→Choice.ok x) l:=by
 obtain ⟨n,f,rfl,g⟩:=h.slice_inv rfl rfl
 obtain ⟨l,y,-,w⟩:=sl_list Choice.cells Choice.ok (fun ds h=>Choice.of h) g
 exact ⟨l,DsLe.one y,w⟩
theorem Term.ofR_all {t:Nat} {ds:List D} (h:HasT TT t ds):(t=46→∃ c:Term,DsLe ds c.cellsR)∧(t=44→∃ l:List Term,DsLe ds [slD Term.cellsR l]):=by
 refine HasT.rec (motive_1:=fun t ds _=>(t=46→∃ c:Term,DsLe ds c.cellsR)∧(t=44→∃ l:List Term,DsLe ds [slD Term.cellsR l]))
  (motive_2:=fun ts ds _=>(ts=[]→ds=[])∧(ts=[44]→∃ l:List Term,DsLe ds [slD Term.cellsR l])∧(ts=[3,44]→∃ (n:Int) (l:List Term),DsLe ds [dI n,slD Term.cellsR l])∧(ts=[3,3,44]→∃ (m n:Int) (l:List Term),DsLe ds [dI m,dI n,slD Term.cellsR l])) ?_ ?_ ?_ ?_ ?_ ?_ ?_ h
 ·intro t i k hi hk n hw
  exact ⟨fun e=>(by subst e; cases hi; cases hk),fun e=>(by subst e; cases hi; cases hk)⟩
 ·intro t i hi hk b
  exact ⟨fun e=>(by subst e; cases hi; cases hk),fun e=>(by subst e; cases hi; cases hk)⟩
 ·intro t i hi hk s hw
  exact ⟨fun e=>(by subst e; cases hi; cases hk),fun e=>(by subst e; cases hi; cases hk)⟩
 ·intro t e i hi hk n f hh ih
  refine ⟨fun e=>(by subst e; cases hi; cases hk),fun e=>?_⟩
  subst e
  cases hi
  cases hk
  classical
  let g:Nat→Term:=fun j=>if hj:j < n then ((ih j hj).1 rfl).choose else default
  have hg:∀ j,j < n→DsLe (f j) (g j).cellsR:=fun j hj=>by
   simp only [g,hj,dif_pos]
   exact ((ih j hj).1 rfl).choose_spec
  refine ⟨(List.range n).map g,DsLe.one ?_⟩
  have e:slD Term.cellsR ((List.range n).map g)=.sl n fun i=>Term.cellsR (((List.range n).map g).getD i default):=by simp [slD]
  rw [e]
  refine DLe.slAll fun i hi=>?_
  have:((List.range n).map g).getD i default=g i:=by simp [List.getD,hi]
  rw [this]
  exact hg i hi
 ·intro t i fs hi hk ds hs ih
  refine ⟨fun e=>?_,fun e=>(by subst e; cases hi; cases hk)⟩
  subst e
  cases hi
  cases hk
  obtain ⟨m,n,l,hl⟩:=ih.2.2.2 rfl
  refine ⟨⟨m,n,l⟩,?_⟩
  have h2:=(Term.argsR_le ⟨m,n,l⟩).2
  have:DsLe [dI m,dI n,slD Term.cellsR l] (Term.cellsR ⟨m,n,l⟩):=DsLe.cons DLe.rfl' (DsLe.cons DLe.rfl' (DsLe.one h2))
  exact ⟨hl.1.trans this.1,fun j hj=>(hl.2 j hj).trans (this.2 j (by rw [← hl.1]; exact hj))⟩
 ·exact ⟨fun _=>rfl,fun e=>(by cases e),fun e=>(by cases e),fun e=>(by cases e)⟩
 ·intro t ts p ds hp hs ih1 ih2
  refine ⟨fun e=>(by cases e),fun e=>?_,fun e=>?_,fun e=>?_⟩
  ·cases e
   obtain ⟨l,hl⟩:=ih1.2 rfl
   have:=ih2.1 rfl
   subst this
   exact ⟨l,by simpa using hl⟩
  ·cases e
   obtain ⟨x,rfl,w⟩:=hp.int_inv rfl rfl
   obtain ⟨l,hl⟩:=ih2.2.1 rfl
   exact ⟨x,l,DsLe.append (DsLe.refl _) hl⟩
  ·cases e
   obtain ⟨x,rfl,w⟩:=hp.int_inv rfl rfl
   obtain ⟨n,l,hl⟩:=ih2.2.2.1 rfl
   exact ⟨x,n,l,DsLe.append (DsLe.refl _) hl⟩
theorem Term.ofR {ds:List D} (h:HasT TT 46 ds):∃ c:Term,DsLe ds c.cellsR∧True:=by
 obtain ⟨c,hc⟩:=(Term.ofR_all h).1 rfl
 exact ⟨c,hc,trivial⟩
theorem Term.of {ds:List D} (h:HasT TT 46 ds):∃ c:Term,DsLe ds c.cells∧True:=by
 obtain ⟨c,hc,_⟩:=Term.ofR h
 have hu:=c.unroll
 exact ⟨c,⟨hc.1.trans hu.1,fun j hj=>(hc.2 j hj).trans (hu.2 j (by rw [← hc.1]; exact hj))⟩,trivial⟩
structure Rule.ok (c:Rule):Prop where
 ask:(fun n=>in64 n) c.ask
 term:(fun _=>True) c.term
theorem Rule.of {ds:List D} (h:HasT TT 48 ds):∃ c:Rule,DsLe ds c.cells∧c.ok:=by
 have q0:=h.struct_inv rfl rfl
 obtain ⟨p0,r0,rfl,h0,q1⟩:=q0.cons_inv
 obtain ⟨x0,y0,w0⟩:=intOf3 h0
 obtain ⟨p1,r1,rfl,h1,q2⟩:=q1.cons_inv
 obtain ⟨x1,y1,w1⟩:=Term.of h1
 cases q2.nil_inv
 refine ⟨⟨x0,x1⟩,?_,⟨w0,w1⟩⟩
 have hh:=(DsLe.append y0 (DsLe.append y1 DsLe.nil))
 simpa only [Rule.cells,intC,strC,boolC,List.append_assoc,List.cons_append,List.nil_append,List.append_nil] using hh
theorem slOf37 {ds:List D} (h:HasT TT 37 ds):∃ l:List Rule,DsLe ds [slD Rule.cells l]∧(fun l=>∀ x,x∈l→Rule.ok x) l:=by
 obtain ⟨n,f,rfl,g⟩:=h.slice_inv rfl rfl
 obtain ⟨l,y,-,w⟩:=sl_list Rule.cells Rule.ok (fun ds h=>Rule.of h) g
 exact ⟨l,DsLe.one y,w⟩
structure Order.ok (c:Order):Prop where
 name:(fun s:ByteArray=>s.size≤maxLen) c.name
 accepts:(fun _=>True) c.accepts
 choices:(fun l=>∀ x,x∈l→Choice.ok x) c.choices
 rules:(fun l=>∀ x,x∈l→Rule.ok x) c.rules
theorem Order.of {ds:List D} (h:HasT TT 39 ds):∃ c:Order,DsLe ds c.cells∧c.ok:=by
 have q0:=h.struct_inv rfl rfl
 obtain ⟨p0,r0,rfl,h0,q1⟩:=q0.cons_inv
 obtain ⟨x0,y0,w0⟩:=strOf9 h0
 obtain ⟨p1,r1,rfl,h1,q2⟩:=q1.cons_inv
 obtain ⟨x1,y1,w1⟩:=boolOf4 h1
 obtain ⟨p2,r2,rfl,h2,q3⟩:=q2.cons_inv
 obtain ⟨x2,y2,w2⟩:=slOf36 h2
 obtain ⟨p3,r3,rfl,h3,q4⟩:=q3.cons_inv
 obtain ⟨x3,y3,w3⟩:=slOf37 h3
 cases q4.nil_inv
 refine ⟨⟨x0,x1,x2,x3⟩,?_,⟨w0,w1,w2,w3⟩⟩
 have hh:=(DsLe.append y0 (DsLe.append y1 (DsLe.append y2 (DsLe.append y3 DsLe.nil))))
 simpa only [Order.cells,intC,strC,boolC,List.append_assoc,List.cons_append,List.nil_append,List.append_nil] using hh
theorem L16_RuleBack_law_fn (hlaw:∀ (a0:List Order),L16_RuleBack a0=true) (dss:List (List D)) (h:HasAll TT [22] dss):FnA Tryz.prog 4 (argAVs TT [22] dss) [] (.d (.v (.bool true))) []:=by
 obtain ⟨d0,rfl⟩:∃ d0,dss=[d0]:=by
  match dss,h with
  | [d0],_=>exact ⟨d0,rfl⟩
 obtain ⟨h0,-⟩:=h
 obtain ⟨n0,f0,rfl,g0⟩:=h0.slice_inv rfl rfl
 obtain ⟨x0,y0,-,w0⟩:=sl_list Order.cells Order.ok (fun ds h=>Order.of h) g0
 have hf:=L16_RuleBack_fn x0
 rw [hlaw] at hf
 exact FnA.argLe hf ⟨AvLe.d y0,trivial⟩
end Go.Proofs.YtgibnoahjhfmcaaGreatDoor
