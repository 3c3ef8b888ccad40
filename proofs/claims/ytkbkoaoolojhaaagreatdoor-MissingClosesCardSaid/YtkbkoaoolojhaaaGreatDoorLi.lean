/- slices.Insert of one struct of scalars into a call's own row. -/
import Derived.Test.YtkbkoaoolojhaaaGreatDoorLd
import Derived.Lib.Overlaps
import Derived.Lib.AppendZerosOnto
import Derived.Test.YtkbkoaoolojhaaaGreatDoorLh
import Derived.WalkKit
import Derived.Shelf.RegionOpenPlain
import Derived.Lib.Walk
import Derived.Laws.Externs
import Derived.Laws.NewBlocks
import Derived.Shelf.Spec.SlicesInsert
import Derived.Test.YtkbkoaoolojhaaaGreatDoorLc
set_option linter.unusedSimpArgs false
set_option linter.unusedVariables false
set_option linter.unusedSectionVars false
set_option maxHeartbeats 1000000
set_option maxRecDepth 100000
namespace Go.Av
noncomputable section
open Go
section
theorem BK {P:Program} (w:World) (dT sT ty elem:TypeId) (g o agz ait k:Nat) (a:Addr) (P5 abJ n:Nat) (cur:Array Value) (t:TypeId) (cs:List Value)
  (hu:P.underlying dT=some (.slice elem)) (hs:(P.info? elem).map (·.size)=some k)
  (hg:w.heap[g]? = some (.cells cur t (0,0))) (hn:Nat.min P5 agz=n) (nG:cs.length=n * k)
  (iM:∀ (j:Nat) (v:Value),cs[j]? = some v→w.cell? (a.add j)=some v) (xf:o+cs.length≤cur.size) (h1:∀ v∈cs,v.oneCell'=true) :
  (Builtin.copy_ #[dT,sT] ty #[.slice (some ⟨g,o,none⟩) agz ait,.slice (some a) P5 abJ]).run P w =
   .ok (goInt n) (w.setRow g (cur.toList.take o++cs++cur.toList.drop (o+cs.length)).toArray):=by
 have hl:=run_loadCells_list (P:=P) w a cs iM
 have jK:=run_storeCells_at P g o t cs 0 cur w hg (by simpa using xf) h1
 rw [nG] at hl
 cases hq:P.info? elem with
 | none=>simp [hq] at hs
 | some i =>
  have hi:i.size=k:=by simpa [hq] using hs
  simp [Builtin.copy_,run_underlying hu,Builtin.lenOf,Builtin.firstCells,sizeOf,typeInfo,hq,hi,hn,hl,jK]
theorem P6 {P:Program} (w:World) (tS tR e:TypeId) (ht:P.underlying tS=some (.slice e)) (k:Nat) (hs:(P.info? e).map (·.size)=some k)
  (a b:Addr) (la ca lb cb:Nat) (rl:a.block≠b.block) (c1 c2:Array Value) (t1 t2:TypeId) (f1:Nat × Nat)
  (ha:w.heap[a.block]? = some (.cells c1 t1 f1)) (hb:w.heap[b.block]? = some (.cells c2 t2 (0,0))) (h1:c1.size≠0) :
  (Extern.SlicesOverlaps.overlaps #[tS,tS] #[tR] #[.slice (some a) la ca,.slice (some b) lb cb]).run P w=.ok (.bool false) w:=by
 obtain ⟨i,hi,hik⟩:∃ i,P.info? e=some i∧i.size=k:=by
  cases hq:P.info? e with
  | none=>simp [hq] at hs
  | some i=>exact ⟨i,rfl,by simpa [hq] using hs⟩
 have hz:(Go.sizeOf e).run P w=.ok k w:=by simp [sizeOf,typeInfo,hi,hik]
 have hnb:(a.block != b.block)=true:=by simpa using rl
 have aiu:(a.block == b.block)=false:=by simpa using rl
 have hsa:w.shape? a.block=some (t1,c1.size):=by simp [World.shape?,ha]
 have hsb:w.shape? b.block=some (t2,c2.size):=by simp [World.shape?,hb]
 have hfb:∀ o,w.frozen? { block:=b.block,off:=o }=false:=fun o=>by simp [World.frozen?,hb]
 have aiv:w.frozen? b=false:=by simp [World.frozen?,hb]
 change Sem.run P (α:=Value) (do
  let some t:=(#[tS,tS]:Array TypeId)[0]? | stuck "slices.overlaps: no parameter types"
  let .slice elem ← underlying t | stuck "slices.overlaps: slice type expected"
  let size ← sizeOf elem
  match (some a:Option Addr),(some b:Option Addr) with
  | some a,some b =>
   if la=0∨lb=0∨size=0 then pure (Value.bool false)
   else if a.block != b.block&&(← frozen a)&&(← frozen b) then unsupported .addressObserved
   else do
    if a.block != b.block then do
     noView a; noView b
     if ← mayBeOne a b then return Value.bool ((← choose (.extern "sameAddr.stringBytes" 2)) == 1)
    pure (Value.bool (a.block == b.block&&a.off < b.off+lb * size&&b.off < a.off+la * size))
  | _,_=>pure (Value.bool false)) w=_
 by_cases h0:la=0∨lb=0∨k=0
 ·simp [run_underlying ht,hz,h0]
 ·obtain ⟨m,hm⟩:∃ m,c1.size=m+1:=⟨c1.size - 1,by omega⟩
  rw [hm] at hsa
  cases hfa:w.frozen? a <;> cases hfe:w.frozen? { block:=a.block,off:=m+1 } <;>
  simp [run_underlying ht,hz,h0,hnb,aiu,frozen,noView,viewAt,mayBeOne,stringish,shape,Sem.run,hsa,hsb,hfb,aiv,hfa,hfe]
theorem HX {P:Program} (w:World) (t ty e:TypeId) (k:Nat) (ht:P.underlying t=some (.slice e)) (hs:(P.info? e).map (·.size)=some k)
  (g P5 abJ:Nat) (a:Addr) (m c:Nat) (cur:Array Value) (te:TypeId) (news:List Value) (hg:w.heap[g]? = some (.cells cur te (0,0))) (hl:news.length=m * k)
  (Yv:∀ (j:Nat) (u:Value),news[j]? = some u→w.cell? (a.add j)=some u) (h1:∀ u∈news,u.oneCell'=true) (qC:P5+m≤abJ) (xf:P5 * k+news.length≤cur.size) :
  (Builtin.append_ #[t,t] ty #[.slice (some ⟨g,0,none⟩) P5 abJ,.slice (some a) m c]).run P w =
   .ok (.slice (some ⟨g,0,none⟩) (P5+m) abJ) (w.setRow g (cur.toList.take (P5 * k)++news++cur.toList.drop (P5 * k+news.length)).toArray):=by
 obtain ⟨i,hi,rfl⟩:∃ i,P.info? e=some i∧i.size=k:=by
  cases hq:P.info? e with
  | none=>simp [hq] at hs
  | some i=>exact ⟨i,rfl,by simpa [hq] using hs⟩
 have hfc:=run_firstCells_some (P:=P) w i.size m a m c news hl Yv
 have jK:=run_storeCells_at P g (P5 * i.size) te news 0 cur w hg (by simpa using xf) h1
 simp only [Nat.add_zero] at jK
 simp [Builtin.append_,run_underlying ht,sizeOf,typeInfo,hi,Builtin.lenOf,qC,hfc,Addr.add_lit,jK]
variable [vr]
def Xk:D→Bool
 | .v x=>scalar x
 | _=>false
def FQ:D→Value
 | .v x=>x
 | _=>undef
theorem Vo {w:World} {S:Nat→Prop} {d:D} (h:Xk d=true) {x:Value} (hr:Rd w S d x):x=FQ d:=by
 cases d with
 | v y=>cases hr; rfl
 | agg=>cases h
 | sl=>cases h
theorem abK {w:World} {S:Nat→Prop} {d:D} (h:Xk d=true):Rd w S d (FQ d):=by
 cases d with
 | v y=>exact .v _ h
 | agg=>cases h
 | sl=>cases h
theorem Q4 {d:D} (h:Xk d=true):(FQ d).oneCell'=true:=by
 cases d with
 | v y =>
  show y.oneCell'=true
  have h:scalar y=true:=h
  cases y <;> first | rfl | cases h
 | agg=>cases h
 | sl=>cases h
def jM {α:Type} (cells:α→List D) (L:List α):List Value:=L.flatMap fun x=>(cells x).map FQ
section
variable {α : Type} [Inhabited α] {cells : α → List D} {k : Nat}
theorem BL (hk:∀ x,(cells x).length=k) (L:List α):(jM cells L).length=L.length * k:=by
 induction L with
 | nil=>simp [jM]
 | cons x L ih =>
  have:jM cells (x :: L)=(cells x).map FQ++jM cells L:=by simp [jM]
  rw [this,List.length_append,ih,List.length_map,hk,List.length_cons,Nat.add_mul,Nat.one_mul,Nat.add_comm]
theorem HZ (L M:List α):jM cells (L++M)=jM cells L++jM cells M:=by simp [jM]
theorem Xl (hk:∀ x,(cells x).length=k) (L:List α) {i:Nat} (hi:i≤L.length):(jM cells L).take (i * k)=jM cells (L.take i):=by
 conv=>lhs; rw [← List.take_append_drop i L,HZ]
 rw [List.take_left' (by rw [BL hk,List.length_take,Nat.min_eq_left hi])]
theorem N5 (hk:∀ x,(cells x).length=k) (L:List α) {i:Nat} (hi:i≤L.length):(jM cells L).drop (i * k)=jM cells (L.drop i):=by
 conv=>lhs; rw [← List.take_append_drop i L,HZ]
 rw [List.drop_left' (by rw [BL hk,List.length_take,Nat.min_eq_left hi])]
theorem Q5 (hk:∀ x,(cells x).length=k) (L:List α) {i j:Nat} (hi:i < L.length) (hj:j < k):(jM cells L)[i * k+j]? = some (FQ ((cells (L.getD i default)).getD j default)):=by
 have Ek:j < (cells (L.getD i default)).length:=by rw [hk]; exact hj
 have h1:(jM cells L)[i * k+j]? = ((jM cells L).drop (i * k))[j]?:=by rw [List.getElem?_drop]
 have h2:L.drop i=L.getD i default :: L.drop (i+1):=by
  rw [List.drop_eq_getElem_cons hi]
  simp [List.getD,hi]
 have h3:jM cells (L.drop i)=(cells (L.getD i default)).map FQ++jM cells (L.drop (i+1)):=by rw [h2]; simp [jM]
 rw [h1,N5 hk L (Nat.le_of_lt hi),h3,List.getElem?_append_left (by simpa using Ek),List.getElem?_map,List.getElem?_eq_getElem Ek,List.getD_eq_getElem?_getD (l:=cells _),List.getElem?_eq_getElem Ek]
 rfl
theorem ZP (s9:∀ x,(cells x).all Xk=true) (L:List α):∀ v∈jM cells L,v.oneCell'=true:=by
 intro v hv
 simp only [jM,List.mem_flatMap,List.mem_map] at hv
 obtain ⟨x,_,d,hd,rfl⟩:=hv
 have:=s9 x
 rw [List.all_eq_true] at this
 exact Q4 (this _ hd)
theorem SL (s9:∀ x,(cells x).all Xk=true) (x:α) {j:Nat} (hj:j < (cells x).length):Xk ((cells x).getD j default)=true:=by
 have:=s9 x
 rw [List.all_eq_true] at this
 exact this _ (gH hj _)
end
def BM (w:World) (e k:Nat) (g0:Option Nat) (n:Nat) (news:List Value) (x:Ending) (w':World):Prop :=
 ∃ g c,x=.returned (.slice (some ⟨g,0,none⟩) (n+1) c)∧n+1≤c∧c≤maxLen∧(g0=some g∨w.heap.size≤g) ∧
  (∃ cur:Array Value,w'.heap[g]? = some (.cells cur e (0,0))∧cur.size=c * k∧∀ (j:Nat) (v:Value),news[j]? = some v→cur[j]? = some v)∧Kept w w' (fun q=>g0=some q)
def ku {α:Type} (L:List α) (i:Nat) (x:α):List α:=L.take i++x :: L.drop i
theorem Xm {P:Program} {f:FuncId} (hc:fq P f=true) {α:Type} [Inhabited α] (cells:α→List D) (k:Nat) (Qq:0 < k) (hk:∀ x,(cells x).length=k) (s9:∀ x,(cells x).all Xk=true) (e:Nat) (M:Nat)
  (h1:∀ (b n c i vb fO vc:Nat) (cs vs cur:List Value) (w:World),n≤M→i≤n→n≤c→c≤maxLen→vb≠b→cs.length=n * k→vs.length=k→(∀ v∈cs,v.oneCell'=true)→(∀ v∈vs,v.oneCell'=true) →
   w.heap[b]? = some (.cells cur.toArray e (0,0))→cur.length=c * k→(∀ (j:Nat) (v:Value),cs[j]? = some v→cur[j]? = some v)→(∀ (j:Nat) (v:Value),vs[j]? = some v→w.cell? ⟨vb,fO+j,none⟩=some v)→vc≤maxLen →
   Calls P f #[.slice (some ⟨b,0,none⟩) n c,.int .i64 i,.slice (some ⟨vb,fO,none⟩) 1 vc] w (BM w e k (some b) n (cs.take (i * k)++vs++cs.drop (i * k))))
  (h0:∀ (p:Option Addr) (vb fO vc:Nat) (vs:List Value) (w:World),vs.length=k→(∀ v∈vs,v.oneCell'=true)→(∀ (j:Nat) (v:Value),vs[j]? = some v→w.cell? ⟨vb,fO+j,none⟩=some v)→vc≤maxLen →
   Calls P f #[.slice p 0 0,.int .i64 0,.slice (some ⟨vb,fO,none⟩) 1 vc] w (BM w e k none 0 vs)) (κ κ':Nat) (L:List α) (hL:L.length≤M) (i:Nat) (hi:i≤L.length) (x:α) (fv:Nat→List D) (hfv:fv 0=cells x) :
  eC P f [ow κ L,.d (.v (.int .i64 i)),.d (.sl 1 fv)] [(κ,aU e k cells L)] (ow κ' (ku L i x)) [(κ',aU e k cells (ku L i x))]:=by
 refine ⟨hc,fun w S μ vs hS hg hr hb fp=>?_⟩
 have hr0:=hr fun _=>false
 obtain ⟨v,u,z,rfl⟩:∃ v u z,vs = #[v,u,z]:=by
  have:=hr0.1
  match vs,this with
  | ⟨[v,u,z]⟩,_=>exact ⟨v,u,z,rfl⟩
 have hv:Rel w S μ (fun _=>false) (.own κ L.length) v:=by simpa using hr0.2 0 (by simp)
 have hu:Rel w S μ (fun _=>false) (.d (.v (.int .i64 i))) u:=by simpa using hr0.2 1 (by simp)
 have hz:Rel w S μ (fun _=>false) (.d (.sl 1 fv)) z:=by simpa using hr0.2 2 (by simp)
 have hb:=hb κ (aU e k cells L) (by simp [look])
 obtain rfl:u=.int .i64 i:=by cases hu with | d h=>cases h; rfl
 -- Jw element
 obtain ⟨a,vc,rfl,O8,O1,bL⟩:∃ (a:Addr) (vc:Nat),z=.slice (some a) 1 vc∧vc≤maxLen∧a.spot=none∧∀ j,j < k→S a.block∧w.cell? ⟨a.block,a.off+j,none⟩=some (FQ ((cells x).getD j default)):=by
  cases hz with
  | d h =>
   cases h with
   | sl n f a cap k' df hc hm hs sP bL hh =>
    have ek:k'=k:=by rw [← sP 0 (by omega),hfv,hk]
    subst ek
    refine ⟨a,cap,rfl,hm,by rcases hs with h | h; omega; exact h,fun j hj=>?_⟩
    have h1:=bL 0 j (by omega) hj
    have h2:=hh 0 j (by omega) hj
    rw [hfv] at h2
    rw [Vo (SL s9 x (by rw [hk]; exact hj)) h2] at h1
    simpa using h1
 obtain ⟨vb,fO,sp⟩:=a
 simp only at O1 bL
 subst O1
 obtain ⟨ws,hws⟩:∃ ws,ws=(cells x).map FQ:=⟨_,rfl⟩
 have hwl:ws.length=k:=by rw [hws,List.length_map,hk]
 have hw1:∀ v∈ws,v.oneCell'=true:=fun v hv=>by
  rw [hws,List.mem_map] at hv
  obtain ⟨d,hd,rfl⟩:=hv
  have:=s9 x
  rw [List.all_eq_true] at this
  exact Q4 (this _ hd)
 have hwc:∀ j v,ws[j]? = some v→w.cell? ⟨vb,fO+j,none⟩=some v:=fun j v hj=>by
  have hjk:j < k:=by rw [← hwl]; exact (List.getElem?_eq_some_iff.1 hj).1
  have agA:j < (cells x).length:=by rw [hk]; exact hjk
  rw [(bL j hjk).2]
  rw [hws,List.getElem?_map,List.getElem?_eq_getElem agA] at hj
  simp only [Option.map_some,Option.some.injEq] at hj
  rw [← hj]
  simp [List.getD,List.getElem?_eq_getElem agA]
 have hSv:S vb:=(bL 0 Qq).1
 have hll:(ku L i x).length=L.length+1:=by
  simp only [ku,List.length_append,List.length_cons,List.length_take,List.length_drop]
  omega
 have Yv:jM cells (ku L i x)=(jM cells L).take (i * k)++ws++(jM cells L).drop (i * k):=by
  rw [Xl hk L hi,N5 hk L hi,hws,ku,HZ]
  simp [jM]
 have lk:∀ q b,look [(κ',aU e k cells (ku L i x))] q=some b→q=κ'∧b=aU e k cells (ku L i x):=fun q b h=>by
  simp only [bC] at h
  split at h
  ·rename_i e'; exact ⟨e'.symm,by simpa using h.symm⟩
  ·cases h
 have inj:∀ μ':Mu,TG [(κ',aU e k cells (ku L i x))] μ':=fun μ' k1 k2 b1 b2 g c c' h1 h2 _ _=>((lk k1 b1 h1).1).trans ((lk k2 b2 h2).1).symm
 -- YN comes back
 have fin:∀ (g0:Option Nat) (x':Ending) (w':World),(∀ q,g0=some q→¬ S q∧Handed [(κ,aU e k cells L)] μ q)→BM w e k g0 L.length (jM cells (ku L i x)) x' w' →
   ∃ v S' μ',x'=.returned v∧Rx w S (Handed [(κ,aU e k cells L)] μ) (ow κ' (ku L i x)) [(κ',aU e k cells (ku L i x))] v S' μ' w':=by
  rintro g0 x' w' hg0 ⟨g,c,rfl,hn1,aeR,hgg,⟨cur,XR,we,BU⟩,RN⟩
  have hnS:¬ S g:=by
   rcases hgg with h | h
   ·exact (hg0 g h).1
   ·exact fun hs=>absurd (hS g hs) (by omega)
  refine ⟨_,S,fun q=>if q=κ' then some (some (g,c)) else none,rfl,⟨fun ν=>?_,fun q b h=>?_,inj _,fun q b g' c' h Ad=>?_,fun _ h=>h,fun _ h=>.inl h,fun b mP=>Nat.lt_of_lt_of_le (hS b mP) RN.size,RN.zn fun q hq=>(hg0 q hq).2⟩⟩
  ·show Rel _ _ _ _ (.own κ' (ku L i x).length) _
   rw [hll]
   exact .own (by simp)
  ·obtain ⟨rfl,rfl⟩:=lk q b h
   simp only [if_true]
   show dg w' S (fun _=>none) (aU e k cells (ku L i x)) g c
   refine ⟨cur,XR,hnS,we,by rw [hll]; exact hn1,aeR,fun t ht=>⟨hk _,fun j hj=>⟨_,BU _ _ (Q5 hk _ ht hj),abK (SL s9 _ (by rw [hk]; exact hj))⟩⟩⟩
  ·obtain ⟨rfl,rfl⟩:=lk q b h
   simp only [if_true,Option.some.injEq,Prod.mk.injEq] at Ad
   obtain ⟨rfl,rfl⟩:=Ad
   rcases hgg with h | h
   ·exact .inr (hg0 _ h).2
   ·exact .inl h
 generalize hn:L.length=n at hv
 cases hv with
 | @cN _ ad hm =>
  have hL0:L=[]:=List.length_eq_zero_iff.1 hn
  have ZQ:i=0:=by omega
  have h2:Calls P f #[.slice ad 0 0,.int .i64 i,.slice (some ⟨vb,fO,none⟩) 1 vc] w (BM w e k none 0 ws):=by rw [ZQ]; exact h0 ad vb fO vc ws w hwl hw1 hwc O8
  refine h2.mono fun x' w' h=>?_
  refine fin none x' w' (fun q hq=>by cases hq) ?_
  rw [Yv,ZQ,hL0]
  simpa [jM] using h
 | @own _ _ g cap hm =>
  rw [hm] at hb
  have Tl:dg w S μ (aU e k cells L) g cap:=hb
  obtain ⟨cur,XR,hnS,we,Ls,aeR,oU⟩:=id Tl
  subst hn
  refine (h1 g L.length cap i vb fO vc (jM cells L) ws cur.toList w hL hi Ls aeR (fun e=>hnS (e ▸ hSv)) (BL hk L) hwl (ZP s9 L) hw1 (by simpa using XR) (by simpa using we) (fun j v hj=>?_) hwc O8).mono fun x' w' h=>?_
  ·have rO:j < L.length * k:=by rw [← BL hk L]; exact (List.getElem?_eq_some_iff.1 hj).1
   have hi1:j / k < L.length:=Nat.div_lt_of_lt_mul (by rw [Nat.mul_comm]; exact rO)
   have hj1:j % k < k:=Nat.mod_lt _ Qq
   have e0:j / k * k+j % k=j:=by rw [Nat.mul_comm]; exact Nat.div_add_mod j k
   obtain ⟨y,hy,hry⟩:=(oU _ hi1).2 _ hj1
   rw [← e0,Q5 hk L hi1 hj1] at hj
   rw [e0] at hy
   rw [← Option.some.inj hj,← Vo (SL s9 _ (by rw [hk]; exact hj1)) hry]
   simpa using hy
  ·refine fin (some g) x' w' (fun q hq=>?_) (by rw [Yv]; exact h)
   obtain rfl:=Option.some.inj hq
   exact ⟨hnS,κ,aU e k cells L,cap,by simp [look],hm⟩
end
end
end Go.Av
namespace Go.Proofs.YtkbkoaoolojhaaaGreatDoor
noncomputable section
open Go Go.Av Go.RowKit Go.Lib
theorem N6:Tryz.prog.underlying 29=some (.slice 37):=by kernel_rfl
theorem ZR:(Tryz.prog.info? 37).map (·.size)=some 3:=by kernel_rfl
set_option maxHeartbeats 4000000 in
set_option maxRecDepth 100000 in
theorem ZS (b n c i vb fO vc:Nat) (cs vs:List Value) (cur:Array Value) (w:World) (hi:i < n) (qC:n+1≤c) (hc:c≤maxLen) (hvb:vb≠b) (nG:cs.length=n * 3) (Ai:vs.length=3)
    (h1c:∀ v∈cs,v.oneCell'=true) (Q6:∀ v∈vs,v.oneCell'=true) (hg:w.heap[b]? = some (.cells cur 37 (0,0))) (hcz:cur.size=c * 3) (QA:∀ (j:Nat) (v:Value),cs[j]? = some v→cur[j]? = some v)
    (zE:∀ (j:Nat) (v:Value),vs[j]? = some v→w.cell? ⟨vb,fO+j,none⟩=some v) (R1 R2:Array Value) (hR1:R1=(cur.toList.take ((i+1) * 3)++cs.drop (i * 3)++cur.toList.drop ((i+1) * 3+(cs.drop (i * 3)).length)).toArray)
    (hR2:R2=(R1.toList.take (i * 3)++vs++R1.toList.drop (i * 3+vs.length)).toArray) :
    Calls Tryz.prog 43 #[.slice (some ⟨b,0,none⟩) n c,.int .i64 i,.slice (some ⟨vb,fO,none⟩) 1 vc] w fun e w' =>
      e=.returned (.slice (some ⟨b,0,none⟩) (n+1) c)∧w'=(w.drew.setRow b R1).setRow b R2:=by
  have aiw:c≤9223372036854775807:=by simp only [maxLen] at hc; omega
  obtain ⟨c1,t1,f1,hva,hv0⟩:∃ c1 t1 f1,w.heap[vb]? = some (.cells c1 t1 f1)∧c1.size≠0:=by
    have h:=zE 0 (vs[0]'(by omega)) (List.getElem?_eq_getElem (by omega))
    unfold World.cell? at h
    dsimp only at h
    split at h
    · rename_i c1 t1 f1 hh
      refine ⟨c1,t1,f1,hh,fun e=>?_⟩
      simp [Array.eq_empty_of_size_eq_zero e] at h
    · cases h
  have hov:∀ o lb cb,(callFunc 73 #[.slice (some ⟨vb,fO,none⟩) 1 vc,.slice (some ⟨b,o,none⟩) lb cb]).run Tryz.prog w=.ok (.value (.bool false)) w:=fun o lb cb=>by
    rw [run_callFunc_extern Tryz.func73 (by kernel_rfl) (by kernel_rfl) (by kernel_rfl) (e:=Extern.SlicesOverlaps.overlaps #[29,29] #[4]) (by kernel_rfl),
      P6 w 29 4 37 N6 3 ZR ⟨vb,fO,none⟩ ⟨b,o,none⟩ 1 vc lb cb hvb c1 cur t1 37 f1 hva hg hv0]
    rfl
  have hz2:¬ ((i:Int)=(n:Int)):=by omega
  have hw1:IntKind.i64.wrap ((i:Int)+1)=(i:Int)+1:=by rw [IntKind.wrap_i64]; omega
  have hw2:IntKind.i64.wrap ((n:Int)+1)=(n:Int)+1:=by rw [IntKind.wrap_i64]; omega
  have RM:(0:Int)≤(i:Int)+1:=by omega
  have GK:i≤n:=by omega
  have htn:((i:Int)+1).toNat=i+1:=by omega
  have Ez:¬ (c=i+1):=by omega
  have Wk:(i:Int)≤(n:Int)+1:=by omega
  have hb4:¬ (c=i):=by omega
  have Z2:(cs.drop (i * 3)).length=(n - i) * 3:=by rw [List.length_drop,nG,Nat.sub_mul]
  have aix:∀ ty dc sc,(Builtin.copy_ #[29,29] ty #[.slice (some ⟨b,(i+1) * 3,none⟩) (n - i) dc,.slice (some ⟨b,i * 3,none⟩) (n+1 - i) sc]).run Tryz.prog w.drew=.ok (goInt (n - i:Nat)) (w.drew.setRow b R1):=fun ty dc sc=>by
    rw [hR1]
    exact BK w.drew 29 29 ty 37 b ((i+1) * 3) (n - i) dc 3 ⟨b,i * 3,none⟩ (n+1 - i) sc (n - i) cur 37 (cs.drop (i * 3)) N6 ZR hg (by simp only [Nat.min_def]; split <;> omega) Z2
      (fun j v hj=>by
        rw [Addr.add_lit]
        show w.cell? _=_
        rw [List.getElem?_drop] at hj
        have:=QA _ v hj
        simp [World.cell?,hg,this])
      (by rw [Z2]; omega) (fun v hv=>h1c v (List.mem_of_mem_drop hv))
  have abL:R1.size=c * 3:=by
    rw [hR1]
    simp only [List.size_toArray,List.length_append,List.length_take,List.length_drop,Array.length_toList,hcz,nG]
    omega
  have aiy:∀ (W:World),W.heap=(w.drew.setRow b R1).heap→∀ ty dc,(Builtin.copy_ #[29,29] ty #[.slice (some ⟨b,i * 3,none⟩) (n+1 - i) dc,.slice (some ⟨vb,fO,none⟩) 1 vc]).run Tryz.prog W=.ok (goInt (1:Nat)) (W.setRow b R2):=fun W hW ty dc=>by
    rw [hR2]
    exact BK W 29 29 ty 37 b (i * 3) (n+1 - i) dc 3 ⟨vb,fO,none⟩ 1 vc 1 R1 37 vs N6 ZR (by rw [hW]; exact setRow_heap w.drew b cur R1 37 _ hg) (by simp only [Nat.min_def]; split <;> omega) (by rw [Ai])
      (fun j v hj=>by
        rw [Addr.add_lit]
        have h1:=zE j v hj
        unfold World.cell? at h1 ⊢
        rw [hW,setRow_other w.drew b vb R1 hvb]
        exact h1)
      (by rw [Ai,abL]; omega) Q6
  have mixed:=mixed
  clear hR1 hR2 Z2 QA zE abL
  go_enter Tryz.func43,Tryz.ntmps43
  go_wp2_with (simp only [hov])
  go_region_law_o (refine step_copy_runI rfl _ _ 29 29 rfl _ _ (by simp [Act.eval,Act.put]) (by simp [Act.eval,Act.put]) (aix _ _ _) ?_)
  go_wp2_with (at_builtin; refine wpList_copy_runI _ rfl _ _ 29 29 rfl _ _ rfl rfl (aiy _ rfl _ _) ?_)
  go_ret
  exact ⟨rfl,rfl⟩

theorem agB:∃ i0 z,Tryz.prog.info? 37=some i0∧i0.zero=some z∧i0.size=3∧i0.bytes=24∧z.cells.size=3:=by
  obtain ⟨i,h1,h2,h3,h4⟩:∃ i,Go.Av.look TT 37=some i∧i.size=3∧i.bytes=24∧i.zero.length=i.size:=⟨_,rfl,rfl,rfl,rfl⟩
  obtain ⟨j,z,F⟩:=aB (tok _ _ h1)
  obtain ⟨q1,q2⟩:=iV (w:=default) (S:=fun _=>False) F.zok
  refine ⟨j,z,F.info,F.zero,by rw [F.size,h2],by rw [F.bytes,h3],?_⟩
  have:=q1
  simp only [Array.length_toList] at this
  omega
set_option maxHeartbeats 4000000 in
set_option maxRecDepth 100000 in
theorem SM (b n c vb fO vc:Nat) (vs:List Value) (cur:Array Value) (w:World) (qC:n+1≤c) (hc:c≤maxLen) (Ai:vs.length=3)
    (Q6:∀ v∈vs,v.oneCell'=true) (hg:w.heap[b]? = some (.cells cur 37 (0,0))) (hcz:cur.size=c * 3)
    (zE:∀ (j:Nat) (v:Value),vs[j]? = some v→w.cell? ⟨vb,fO+j,none⟩=some v) (R:Array Value) (hR:R=(cur.toList.take (n * 3)++vs++cur.toList.drop (n * 3+vs.length)).toArray) :
    Calls Tryz.prog 43 #[.slice (some ⟨b,0,none⟩) n c,.int .i64 n,.slice (some ⟨vb,fO,none⟩) 1 vc] w fun e w' =>
      e=.returned (.slice (some ⟨b,0,none⟩) (n+1) c)∧w'=w.setRow b R:=by
  have aiw:c≤9223372036854775807:=by simp only [maxLen] at hc; omega
  have e9:∀ ty,(Builtin.append_ #[29,29] ty #[.slice (some ⟨b,0,none⟩) n c,.slice (some ⟨vb,fO,none⟩) 1 vc]).run Tryz.prog w=.ok (.slice (some ⟨b,0,none⟩) (n+1) c) (w.setRow b R):=fun ty=>by
    rw [hR]
    exact HX w 29 ty 37 3 N6 ZR b n c ⟨vb,fO,none⟩ 1 vc cur 37 vs hg (by rw [Ai]) (fun j u hj=>by rw [Addr.add_lit]; exact zE j u hj) Q6 qC (by rw [Ai,hcz]; omega)
  have mixed:=mixed
  clear hR zE
  go_enter Tryz.func43,Tryz.ntmps43
  go_wp2_with (at_builtin; refine Lib.wpList_append_run _ rfl _ _ _ _ rfl _ _ rfl rfl _ _ (e9 _) ?_)
  go_ret
  exact ⟨rfl,rfl⟩
set_option maxHeartbeats 4000000 in
set_option maxRecDepth 100000 in
theorem SN (b n c vb fO vc:Nat) (cs vs:List Value) (w:World) (z:Value) (i0:TypeInfo) (ZQ:Tryz.prog.info? 37=some i0) (Z4:i0.zero=some z) (VO:i0.size=3) (hzb:i0.bytes=24) (Ls:n≤c) (qC:c < n+1) (aeS:(n+1) * 24≤140737488355328)
    (nG:cs.length=n * 3) (Ai:vs.length=3) (we:∀ (j:Nat) (v:Value),cs[j]? = some v→w.cell? ⟨b,0+j,none⟩=some v)
    (zE:∀ (j:Nat) (v:Value),vs[j]? = some v→w.cell? ⟨vb,fO+j,none⟩=some v) (Q6:∀ v∈vs,v.oneCell'=true) (ROW:Array Value) (SO:ROW=(cs++vs).toArray++Builtin.zeroCells z.cells (grownCap w (n+1) c 37 - (n+1))) :
    Calls Tryz.prog 43 #[.slice (some ⟨b,0,none⟩) n c,.int .i64 n,.slice (some ⟨vb,fO,none⟩) 1 vc] w fun e w' =>
      e=.returned (.slice (some ⟨w.heap.size,0,none⟩) (n+1) (grownCap w (n+1) c 37))∧w'=w.drew.alloc (.cells ROW 37):=by
  have iM:Src Tryz.prog i0.size 29 (.slice (some ⟨vb,fO,none⟩) 1 vc) 1 vs w:=by
    rw [VO]
    exact Src.ofSlice w N6 ⟨vb,fO,none⟩ 1 vc vs (by omega) (fun j u hj=>by rw [Addr.add_lit]; exact zE j u hj) Q6
  have hold:(Builtin.firstCells i0.size n (.slice (some ⟨b,0,none⟩) n c)).run Tryz.prog w.drew=.ok cs.toArray w.drew:=by
    rw [VO]
    exact run_firstCells_some w.drew 3 n ⟨b,0,none⟩ n c cs (by omega) (fun j v hj=>by rw [Addr.add_lit]; exact we j v hj)
  have e9:∀ ty,(Builtin.append_ #[29,29] ty #[.slice (some ⟨b,0,none⟩) n c,.slice (some ⟨vb,fO,none⟩) 1 vc]).run Tryz.prog w=.ok (.slice (some ⟨w.heap.size,0,none⟩) (n+1) (grownCap w (n+1) c 37)) (w.drew.alloc (.cells ROW 37)):=fun ty=>by
    rw [SO]
    exact run_append_grow_src w 29 29 ty 37 i0 _ N6 ZQ Z4 (some ⟨b,0,none⟩) n c cs hold _ 1 vs iM qC (by omega) (by rw [hzb]; exact growslice_fits qC aeS)
  have mixed:=mixed
  clear hold iM we zE SO
  go_enter Tryz.func43,Tryz.ntmps43
  go_wp2_with (at_builtin; refine Lib.wpList_append_run _ rfl _ _ _ _ rfl _ _ rfl rfl _ _ (e9 _) ?_)
  all_goals (go_ret; exact ⟨rfl,rfl⟩)
set_option maxHeartbeats 4000000 in
set_option maxRecDepth 100000 in
theorem ac3 (p:Option Addr) (vb fO vc:Nat) (vs:List Value) (w:World) (z:Value) (i0:TypeInfo) (ZQ:Tryz.prog.info? 37=some i0) (Z4:i0.zero=some z) (VO:i0.size=3) (hzb:i0.bytes=24)
    (Ai:vs.length=3) (zE:∀ (j:Nat) (v:Value),vs[j]? = some v→w.cell? ⟨vb,fO+j,none⟩=some v) (Q6:∀ v∈vs,v.oneCell'=true) (ROW:Array Value) (SO:ROW=vs.toArray++Builtin.zeroCells z.cells (grownCap w 1 0 37 - 1)) :
    Calls Tryz.prog 43 #[.slice p 0 0,.int .i64 0,.slice (some ⟨vb,fO,none⟩) 1 vc] w fun e w' =>
      e=.returned (.slice (some ⟨w.heap.size,0,none⟩) 1 (grownCap w 1 0 37))∧w'=w.drew.alloc (.cells ROW 37):=by
  have iM:Src Tryz.prog i0.size 29 (.slice (some ⟨vb,fO,none⟩) 1 vc) 1 vs w:=by
    rw [VO]
    exact Src.ofSlice w N6 ⟨vb,fO,none⟩ 1 vc vs (by omega) (fun j u hj=>by rw [Addr.add_lit]; exact zE j u hj) Q6
  have hold:(Builtin.firstCells i0.size 0 (.slice p 0 0)).run Tryz.prog w.drew=.ok (([]:List Value)).toArray w.drew:=by
    rw [VO]
    cases p with
    | none=>exact run_firstCells_none w.drew 3 0 0 0
    | some a=>exact run_firstCells_some w.drew 3 0 a 0 0 [] (by simp) (fun j v hj=>by simp at hj)
  have e9:∀ ty,(Builtin.append_ #[29,29] ty #[.slice p 0 0,.slice (some ⟨vb,fO,none⟩) 1 vc]).run Tryz.prog w=.ok (.slice (some ⟨w.heap.size,0,none⟩) 1 (grownCap w 1 0 37)) (w.drew.alloc (.cells ROW 37)):=fun ty=>by
    rw [SO]
    have:=run_append_grow_src w 29 29 ty 37 i0 _ N6 ZQ Z4 p 0 0 [] hold _ 1 vs iM (by omega) (by omega) (by rw [hzb]; exact growslice_fits (by omega) (by omega))
    simpa using this
  have mixed:=mixed
  clear hold iM zE SO
  go_enter Tryz.func43,Tryz.ntmps43
  cases p with
  | none =>
    go_wp2_with (at_builtin; refine Lib.wpList_append_run _ rfl _ _ _ _ rfl _ _ rfl rfl _ _ (e9 _) ?_)
    all_goals (go_ret; exact ⟨rfl,rfl⟩)
  | some a =>
    obtain ⟨ab,ao,asp⟩:=a
    go_wp2_with (at_builtin; refine Lib.wpList_append_run _ rfl _ _ _ _ rfl _ _ rfl rfl _ _ (e9 _) ?_)
    all_goals (go_ret; exact ⟨rfl,rfl⟩)

set_option maxHeartbeats 4000000 in
set_option maxRecDepth 100000 in
theorem SP (b n c i vb fO vc:Nat) (cs vs:List Value) (w:World) (z:Value) (i0:TypeInfo) (ZQ:Tryz.prog.info? 37=some i0) (Z4:i0.zero=some z) (VO:i0.size=3) (hzb:i0.bytes=24) (hzc:z.cells.size=3) (hi:i < n) (Ls:n≤c) (qC:c < n+1) (aeS:(n+1) * 24≤140737488355328)
    (nG:cs.length=n * 3) (Ai:vs.length=3) (hbw:b < w.heap.size) (hvw:vb < w.heap.size) (we:∀ (j:Nat) (v:Value),cs[j]? = some v→w.cell? ⟨b,0+j,none⟩=some v)
    (zE:∀ (j:Nat) (v:Value),vs[j]? = some v→w.cell? ⟨vb,fO+j,none⟩=some v) (h1c:∀ v∈cs,v.oneCell'=true) (Q6:∀ v∈vs,v.oneCell'=true) (G:Nat) (hG:G=grownCap w (n+1) c 37)
    (ROW R1 R2:Array Value) (SO:ROW=(cs.take (i * 3)).toArray++Builtin.zeroCells z.cells (n+1 - i)++Builtin.zeroCells z.cells (G - (n+1)))
    (hR1:R1=(ROW.toList.take (i * 3)++vs++ROW.toList.drop (i * 3+vs.length)).toArray) (hR2:R2=(R1.toList.take ((i+1) * 3)++cs.drop (i * 3)++R1.toList.drop ((i+1) * 3+(cs.drop (i * 3)).length)).toArray) :
    Calls Tryz.prog 43 #[.slice (some ⟨b,0,none⟩) n c,.int .i64 i,.slice (some ⟨vb,fO,none⟩) 1 vc] w fun e w' =>
      e=.returned (.slice (some ⟨w.heap.size,0,none⟩) (n+1) G)∧w'.heap=(((w.alloc (.cells ROW 37)).setRow w.heap.size R1).setRow w.heap.size R2).heap∧w'.os=w.os∧w'.tape=w.tape∧w'.output=w.output:=by
  have hz2:¬ ((i:Int)=(n:Int)):=by omega
  have hz3:(c:Int) < (n:Int)+1:=by omega
  have sP:(n:Int)+1 - (i:Int)=((n+1 - i:Nat):Int):=by omega
  have hik:i+(n+1 - i)=n+1:=by omega
  have hzz:∀ m,(Builtin.zeroCells z.cells m).size=m * 3:=fun m=>by simp [Builtin.zeroCells,hzc]
  have hold:(Builtin.firstCells i0.size i (.slice (some ⟨b,0,none⟩) i c)).run Tryz.prog w.drew=.ok (cs.take (i * 3)).toArray w.drew:=by
    rw [VO]
    exact run_firstCells_some w.drew 3 i ⟨b,0,none⟩ i c (cs.take (i * 3)) (by rw [List.length_take,nG]; omega) (fun j v hj=>by
      rw [Addr.add_lit]
      rw [List.getElem?_take] at hj
      split at hj
      · exact we j v hj
      · cases hj)
  have hrz:∀ ty,(Builtin.append_ #[29,3] ty #[.slice (some ⟨b,0,none⟩) i c,.int .i64 ((n:Int)+1 - (i:Int))]).run Tryz.prog w =
      .ok (.slice (some ⟨w.heap.size,0,none⟩) (n+1) G) (w.drew.alloc (.cells ROW 37)):=fun ty=>by
    have h:=Lib.run_append_grow_zeros w 29 3 ty 37 i0 _ .i64 .i64 N6 (by kernel_rfl) ZQ Z4 (some ⟨b,0,none⟩) i c (cs.take (i * 3)) hold (n+1 - i) (by omega) (by omega) (by omega) (by omega) (by rw [hzb]; omega) (by rw [hzb,hik]; exact growslice_fits qC aeS)
    rw [hik,← hG,← SO] at h
    rw [sP]
    exact h
  have hGn:n+1≤G:=by rw [hG]; exact grownCap_ge w _ _ _
  have hRs:ROW.size=G * 3:=by
    rw [SO]
    simp only [Array.size_append,List.size_toArray,List.length_take,hzz,nG]
    omega
  have abL:R1.size=G * 3:=by
    rw [hR1]
    simp only [List.size_toArray,List.length_append,List.length_take,List.length_drop,Array.length_toList,hRs,Ai]
    omega
  have Z2:(cs.drop (i * 3)).length=(n - i) * 3:=by rw [List.length_drop,nG,Nat.sub_mul]
  have hW0:(w.alloc (.cells ROW 37)).heap[w.heap.size]? = some (.cells ROW 37 (0,0)):=heap_alloc_new w _
  have agC:∀ (W:World),W.heap=(w.alloc (.cells ROW 37)).heap→∀ ty dl dc,1≤dl→(Builtin.copy_ #[29,29] ty #[.slice (some ⟨w.heap.size,i * 3,none⟩) dl dc,.slice (some ⟨vb,fO,none⟩) 1 vc]).run Tryz.prog W=.ok (goInt (1:Nat)) (W.setRow w.heap.size R1):=fun W hW ty dl dc ajg=>by
    rw [hR1]
    exact BK W 29 29 ty 37 w.heap.size (i * 3) dl dc 3 ⟨vb,fO,none⟩ 1 vc 1 ROW 37 vs N6 ZR (by rw [hW]; exact hW0) (by simp only [Nat.min_def]; split <;> omega) (by rw [Ai])
      (fun j v hj=>by
        rw [Addr.add_lit]
        have h1:=zE j v hj
        unfold World.cell? at h1 ⊢
        rw [hW,heap_alloc_old w _ hvw]
        exact h1)
      (by rw [Ai,hRs]; omega) Q6
  have aiz:∀ (W:World),W.heap=((w.alloc (.cells ROW 37)).setRow w.heap.size R1).heap→∀ ty dc sc,(Builtin.copy_ #[29,29] ty #[.slice (some ⟨w.heap.size,(i+1) * 3,none⟩) (n - i) dc,.slice (some ⟨b,i * 3,none⟩) (n - i) sc]).run Tryz.prog W=.ok (goInt (n - i:Nat)) (W.setRow w.heap.size R2):=fun W hW ty dc sc=>by
    rw [hR2]
    exact BK W 29 29 ty 37 w.heap.size ((i+1) * 3) (n - i) dc 3 ⟨b,i * 3,none⟩ (n - i) sc (n - i) R1 37 (cs.drop (i * 3)) N6 ZR (by rw [hW]; exact setRow_heap _ _ ROW R1 37 _ hW0) (Nat.min_self _) Z2
      (fun j v hj=>by
        rw [Addr.add_lit]
        rw [List.getElem?_drop] at hj
        have h1:=we _ v hj
        rw [Nat.zero_add] at h1
        unfold World.cell? at h1 ⊢
        rw [hW,setRow_other _ w.heap.size b R1 (by omega),heap_alloc_old w _ hbw]
        exact h1)
      (by rw [Z2,abL]; omega) (fun v hv=>h1c v (List.mem_of_mem_drop hv))
  have ajh:G≤9223372036854775807:=by
    have:=grownCap_le_maxLen w (n+1) c 37 (by unfold maxLen; omega)
    rw [← hG] at this
    unfold maxLen at this
    omega
  have hGi:¬ (G=i):=by omega
  have aji:¬ (G=i+1):=by omega
  have hci:¬ (c=i):=by omega
  have hw1:IntKind.i64.wrap ((i:Int)+1)=(i:Int)+1:=by rw [IntKind.wrap_i64]; omega
  have RM:(0:Int)≤(i:Int)+1:=by omega
  have GK:i≤n:=by omega
  have htn:((i:Int)+1).toNat=i+1:=by omega
  have Wk:(i:Int)≤(n:Int):=by omega
  have hdA:1≤n+1 - i:=by omega
  have hA:∀ ty dc,(Builtin.copy_ #[29,29] ty #[.slice (some ⟨w.heap.size,i * 3,none⟩) (n+1 - i) dc,.slice (some ⟨vb,fO,none⟩) 1 vc]).run Tryz.prog (w.alloc (.cells ROW 37)).drew=.ok (goInt (1:Nat)) ((w.alloc (.cells ROW 37)).drew.setRow w.heap.size R1):=fun ty dc=>agC (w.alloc (.cells ROW 37)).drew rfl ty (n+1 - i) dc hdA
  have mixed:=mixed
  clear sP hik agC hold SO hG hR1 hR2 hRs abL Z2 we zE hW0 hzz
  go_enter Tryz.func43,Tryz.ntmps43
  go_wp2_with (first
    | (at_builtin; refine Lib.wpList_append_run _ rfl _ _ _ _ rfl _ _ rfl rfl _ _ (hrz _) ?_)
    | (at_builtin; refine wpList_copy_runI _ rfl _ _ 29 29 rfl _ _ rfl rfl (hA _ _) ?_))
  go_region_law_o (refine step_copy_runI rfl _ _ 29 29 rfl (.slice (some ⟨w.heap.size,(i+1) * 3,none⟩) (n - i) (G - (i+1))) (.slice (some ⟨b,i * 3,none⟩) (n - i) (c - i)) (by simp [Act.eval,Act.put]) (by simp [Act.eval,Act.put]) (aiz ((w.alloc (.cells ROW 37)).drew.setRow w.heap.size R1).drew rfl 3 (G - (i+1)) (c - i)) ?_)
  go_wp2
  go_ret
  exact ⟨rfl,rfl,rfl,rfl,rfl⟩

theorem Xn {cur cs vs X:List Value} {i n:Nat} (nG:cs.length=n * 3) (hi:i < n) (hcz:(i+1) * 3≤cur.length) (Ai:vs.length=3) (tk:cs.take (i * 3)=cur.take (i * 3)) :
    (cur.take ((i+1) * 3)++cs.drop (i * 3)++X).take (i * 3)++vs++(cur.take ((i+1) * 3)++cs.drop (i * 3)++X).drop (i * 3+vs.length)=cs.take (i * 3)++vs++cs.drop (i * 3)++X:=by
  have h1:(cur.take ((i+1) * 3)).length=(i+1) * 3:=by rw [List.length_take]; omega
  have e1:(cur.take ((i+1) * 3)++cs.drop (i * 3)++X).take (i * 3)=cs.take (i * 3):=by
    rw [List.append_assoc,List.take_append_of_le_length (by omega),List.take_take,tk,Nat.min_eq_left (by omega)]
  have e2:(cur.take ((i+1) * 3)++cs.drop (i * 3)++X).drop (i * 3+vs.length)=cs.drop (i * 3)++X:=by
    rw [List.append_assoc,List.drop_left' (by rw [h1,Ai]; omega)]
  rw [e1,e2,List.append_assoc,List.append_assoc,List.append_assoc]
theorem ZT {ROW cs vs Y:List Value} {i n:Nat} (nG:cs.length=n * 3) (hi:i < n) (Ai:vs.length=3) (hR:ROW=cs.take (i * 3)++Y) :
    ∀ Z,(ROW.take (i * 3)++vs++ROW.drop (i * 3+vs.length)).take ((i+1) * 3)++cs.drop (i * 3)++Z=cs.take (i * 3)++vs++cs.drop (i * 3)++Z:=by
  intro Z
  have h1:(cs.take (i * 3)).length=i * 3:=by rw [List.length_take]; omega
  have e1:ROW.take (i * 3)=cs.take (i * 3):=by rw [hR,List.take_left' h1]
  rw [e1,List.take_left' (by rw [List.length_append,h1,Ai]; omega)]
theorem abM {w:World} {b:Nat} {R:Array Value} {w':World} (h:w'.heap=(w.setRow b R).heap) (h1:w'.os=w.os) (h2:w'.tape=w.tape) (h3:w'.output=w.output)   : Go.Av.Kept w w' fun q=>(some b:Option Nat)=some q :=
  ⟨h1,h2,h3,by rw [h]; simp [World.setRow],fun q hq rl=>by rw [h]; exact setRow_other w b q R (fun e=>rl (by rw [e]))⟩
/-- bE.Insert of one fact,in agD world -/
theorem ac4 (b n c i vb fO vc:Nat) (cs vs cur:List Value) (w:World) (hM:n≤1000000) (hi:i≤n) (Ls:n≤c) (hc:c≤maxLen) (hvb:vb≠b) (nG:cs.length=n * 3) (Ai:vs.length=3)
    (h1c:∀ v∈cs,v.oneCell'=true) (Q6:∀ v∈vs,v.oneCell'=true) (hg:w.heap[b]? = some (.cells cur.toArray 37 (0,0))) (hcz:cur.length=c * 3) (QA:∀ (j:Nat) (v:Value),cs[j]? = some v→cur[j]? = some v)
    (zE:∀ (j:Nat) (v:Value),vs[j]? = some v→w.cell? ⟨vb,fO+j,none⟩=some v) :
    Calls Tryz.prog 43 #[.slice (some ⟨b,0,none⟩) n c,.int .i64 i,.slice (some ⟨vb,fO,none⟩) 1 vc] w (BM w 37 3 (some b) n (cs.take (i * 3)++vs++cs.drop (i * 3))):=by
  obtain ⟨i0,z,ZQ,Z4,VO,hzb,hzc⟩:=agB
  have hbw:b < w.heap.size:=(Array.getElem?_eq_some_iff.1 hg).1
  have hvw:vb < w.heap.size:=by
    have h:=zE 0 (vs[0]'(by omega)) (List.getElem?_eq_getElem (by omega))
    unfold World.cell? at h
    dsimp only at h
    split at h
    · rename_i hh; exact (Array.getElem?_eq_some_iff.1 hh).1
    · cases h
  have we:∀ (j:Nat) (v:Value),cs[j]? = some v→w.cell? ⟨b,0+j,none⟩=some v:=fun j v hj=>by
    have:=QA j v hj
    simp [World.cell?,hg,this]
  have LV:cur.take (n * 3)=cs:=by
    refine List.ext_getElem? (fun j=>?_)
    rw [List.getElem?_take]
    split
    · rename_i hj
      rw [List.getElem?_eq_getElem (show j < cs.length by omega)]
      exact QA j _ (List.getElem?_eq_getElem (by omega))
    · rw [List.getElem?_eq_none (by omega)]
  have hzz:∀ m,(Builtin.zeroCells z.cells m).size=m * 3:=fun m=>by simp [Builtin.zeroCells,hzc]
  have XR:=grownCap_ge w (n+1) c 37
  have hgm:=grownCap_le_maxLen w (n+1) c 37 (by unfold maxLen; omega)
  have tkc:cs.take (i * 3)=cur.take (i * 3):=by rw [← LV,List.take_take,Nat.min_eq_left (by omega)]
  have il:(cs.take (i * 3)).length=i * 3:=by rw [List.length_take,nG]; omega
  have dl:(cs.drop (i * 3)).length=(n - i) * 3:=by rw [List.length_drop,nG,Nat.sub_mul]
  by_cases qC:n+1≤c
  · by_cases GK:i=n
    · subst GK
      refine (SM b i c vb fO vc vs cur.toArray w qC hc Ai Q6 hg (by simpa using hcz) zE _ rfl).mono ?_
      rintro e w' ⟨rfl,rfl⟩
      refine ⟨b,c,rfl,qC,hc,.inl rfl,⟨_,setRow_heap w b cur.toArray _ 37 _ hg,?_,fun j v hj=>?_⟩,abM rfl rfl rfl rfl⟩
      · simp only [List.size_toArray,List.length_append,List.length_take,List.length_drop,hcz,Ai]
        omega
      · rw [List.drop_eq_nil_of_le (by omega),List.append_nil,tkc] at hj
        rw [List.getElem?_toArray,List.getElem?_append_left (by
          have:=(List.getElem?_eq_some_iff.1 hj).1
          exact this)]
        exact hj
    · refine (ZS b n c i vb fO vc cs vs cur.toArray w (by omega) qC hc hvb nG Ai h1c Q6 hg (by simpa using hcz) (fun j v hj=>by simpa using QA j v hj) zE _ _ rfl rfl).mono ?_
      rintro e w' ⟨rfl,rfl⟩
      have ZU:=setRow_heap w.drew b cur.toArray ((cur.toArray.toList.take ((i+1) * 3)++cs.drop (i * 3)++cur.toArray.toList.drop ((i+1) * 3+(cs.drop (i * 3)).length)).toArray) 37 _ hg
      refine ⟨b,c,rfl,qC,hc,.inl rfl,⟨_,setRow_heap _ b _ _ 37 _ ZU,?_,fun j v hj=>?_⟩,?_⟩
      · simp only [List.size_toArray,List.length_append,List.length_take,List.length_drop,hcz,Ai,dl]
        omega
      · have e:=Xn (cur:=cur) (X:=cur.drop ((i+1) * 3+(cs.drop (i * 3)).length)) nG (by omega) (by omega) Ai tkc
        have e2:∀ A:List Value,A=cs.take (i * 3)++vs++cs.drop (i * 3)++cur.drop ((i+1) * 3+(cs.drop (i * 3)).length)→A.toArray[j]? = some v:=fun A hA=>by
          rw [hA,List.getElem?_toArray,List.getElem?_append_left (List.getElem?_eq_some_iff.1 hj).1]
          exact hj
        exact e2 _ e
      · refine ⟨rfl,rfl,rfl,by unfold World.setRow; simp only [Array.size_modify,Array.size_set,Array.size_setIfInBounds,World.size_drew]; exact Nat.le_refl _,fun q hq rl=>?_⟩
        have hqb:q≠b:=fun e=>rl (by rw [e])
        rw [setRow_other _ b q _ hqb,setRow_other _ b q _ hqb]
        rfl
  · by_cases GK:i=n
    · subst GK
      refine (SN b i c vb fO vc cs vs w z i0 ZQ Z4 VO hzb Ls (by omega) (by omega) nG Ai we zE Q6 _ rfl).mono ?_
      rintro e w' ⟨rfl,rfl⟩
      refine ⟨w.heap.size,_,rfl,XR,hgm,.inr (Nat.le_refl _),⟨_,heap_alloc_new w.drew _,?_,fun j v hj=>?_⟩,⟨rfl,rfl,rfl,by simp,fun q hq _=>heap_alloc_old w.drew _ hq⟩⟩
      · simp only [Array.size_append,List.size_toArray,List.length_append,hzz,nG,Ai]
        omega
      · rw [List.drop_eq_nil_of_le (by omega),List.append_nil,List.take_of_length_le (by omega)] at hj
        have dK:=(List.getElem?_eq_some_iff.1 hj).1
        rw [Array.getElem?_append_left (by simpa using dK),List.getElem?_toArray]
        exact hj
    · refine (SP b n c i vb fO vc cs vs w z i0 ZQ Z4 VO hzb hzc (by omega) Ls (by omega) (by omega) nG Ai hbw hvw we zE h1c Q6 _ rfl _ _ _ rfl rfl rfl).mono ?_
      rintro e w' ⟨rfl,hw,ho,ht,hu⟩
      have h0:=heap_alloc_new w (.cells ((cs.take (i * 3)).toArray++Builtin.zeroCells z.cells (n+1 - i)++Builtin.zeroCells z.cells (grownCap w (n+1) c 37 - (n+1))) 37)
      refine ⟨w.heap.size,_,rfl,XR,hgm,.inr (Nat.le_refl _),⟨_,by rw [hw]; exact setRow_heap _ _ _ _ 37 _ (setRow_heap _ _ _ _ 37 _ h0),?_,fun j v hj=>?_⟩,⟨ho,ht,hu,by rw [hw]; simp [World.setRow],fun q hq _=>?_⟩⟩
      · simp only [List.size_toArray,List.length_append,List.length_take,List.length_drop,Array.toList_append,Array.length_toList,hzz,Ai,nG]
        omega
      · rw [List.getElem?_toArray]
        have e:=ZT (Y:=(Builtin.zeroCells z.cells (n+1 - i)++Builtin.zeroCells z.cells (grownCap w (n+1) c 37 - (n+1))).toList) nG (by omega:i < n) Ai (ROW:=((cs.take (i * 3)).toArray++Builtin.zeroCells z.cells (n+1 - i)++Builtin.zeroCells z.cells (grownCap w (n+1) c 37 - (n+1))).toList) (by simp)
        have dK:=(List.getElem?_eq_some_iff.1 hj).1
        refine Eq.trans (congrArg (fun l:List Value=>l[j]?) (e _)) ?_
        rw [List.getElem?_append_left dK]
        exact hj
      · rw [hw,setRow_other _ _ q _ (by omega),setRow_other _ _ q _ (by omega),heap_alloc_old w _ hq]
theorem abN (p:Option Addr) (vb fO vc:Nat) (vs:List Value) (w:World) (Ai:vs.length=3) (Q6:∀ v∈vs,v.oneCell'=true) (zE:∀ (j:Nat) (v:Value),vs[j]? = some v→w.cell? ⟨vb,fO+j,none⟩=some v) :
    Calls Tryz.prog 43 #[.slice p 0 0,.int .i64 0,.slice (some ⟨vb,fO,none⟩) 1 vc] w (BM w 37 3 none 0 vs):=by
  obtain ⟨i0,z,ZQ,Z4,VO,hzb,hzc⟩:=agB
  have hzz:∀ m,(Builtin.zeroCells z.cells m).size=m * 3:=fun m=>by simp [Builtin.zeroCells,hzc]
  have XR:=grownCap_ge w 1 0 37
  have hgm:=grownCap_le_maxLen w 1 0 37 (by unfold maxLen; omega)
  refine (ac3 p vb fO vc vs w z i0 ZQ Z4 VO hzb Ai zE Q6 _ rfl).mono ?_
  rintro e w' ⟨rfl,rfl⟩
  refine ⟨w.heap.size,_,rfl,XR,hgm,.inr (Nat.le_refl _),⟨_,heap_alloc_new w.drew _,?_,fun j v hj=>?_⟩,⟨rfl,rfl,rfl,by simp,fun q hq _=>heap_alloc_old w.drew _ hq⟩⟩
  · simp only [Array.size_append,List.size_toArray,hzz,Ai]
    omega
  · have dK:=(List.getElem?_eq_some_iff.1 hj).1
    rw [Array.getElem?_append_left (by simpa using dK),List.getElem?_toArray]
    exact hj
/-- bE.Insert of one fact ajj an own row of facts -/
def sN (κ κ':Nat) (x:List Fact) (i:Int) (v:List Fact):uk (List Fact) :=
  ⟨Tryz.prog,43,[ow κ x,iv i,lv Fact.cells v],[(κ,aU 37 3 Fact.cells x)],fun y=>ow κ' y,fun y=>[(κ',aU 37 3 Fact.cells y)],ku x i.toNat (v.getD 0 default),0≤i∧i≤(x.length:Int)∧x.length≤1000000∧v.length=1,
    fun h=>by
      obtain ⟨h0,h1,h2,h3⟩:=h
      have hf:=Xm (P:=Tryz.prog) (f:=43) (by kernel_rfl) Fact.cells 3 (by decide) (fun _=>rfl) (fun _=>rfl) 37 1000000
        (fun b n c i vb fO vc cs vs cur w hM hi Ls hc hvb nG Ai h1c Q6 hg hcz QA zE _=>ac4 b n c i vb fO vc cs vs cur w hM hi Ls hc hvb nG Ai h1c Q6 hg hcz QA zE)
        (fun p vb fO vc vs w Ai Q6 zE _=>abN p vb fO vc vs w Ai Q6 zE) κ κ' x h2 i.toNat (by omega) (v.getD 0 default) (fun q=>(v.getD q default).cells) rfl
      obtain ⟨u,rfl⟩:∃ u,v=[u]:=by
        match v,h3 with
        | [u],_=>exact ⟨u,rfl⟩
      have e1:((i.toNat:Nat):Int)=i:=by omega
      rw [e1] at hf
      exact hf,
    fun y=>y=ku x i.toNat (v.getD 0 default),rfl⟩
section
open Go Go.Av
theorem LM (x y:Int):gj x y=if x < y then -1 else if x > y then 1 else 0:=by
 have h:∀ x:Int,BJ x=false:=fun x=>by
  have:BJ x=(x != x):=rfl
  rw [this]; simp
 simp only [gj,mL,Sk.kL,Sk.qF,Sk.gN,iI.G3,kk,kp,v7,h,cond_false,Bool.cond_eq_ite,decide_eq_true_eq]
 simp only [if_neg Bool.false_ne_true]
theorem Yw (a b:Int):DK [a,b]=if a≠0 then a else b:=by
 simp only [DK,xX,Sk.j3,Sk.lf,Sk.oa,Sk.kL,Sk.qF,Sk.sA,Sk.gN,iI.G3,kk,kp]
 refine (mo [a,b] (fun s i=>i) (fun x (_:Unit)=>bif x != 0 then .inl x else .inr ()) id _ (fun s i hi=>?_) (fun s=>?_) (by simp) ()).trans ?_
 ·have h2:((i:Nat):Int) < (([a,b].length:Nat):Int):=by omega
  rw [decide_eq_true h2,cond_true]
  cases (([a,b].getD i default) != 0) <;> rfl
 ·rw [decide_eq_false (by simp),cond_false]
 ·simp only [walk]
  by_cases h:a=0
  ·have:(a != 0)=false:=by simp [h]
   rw [this]
   by_cases h2:b=0
   ·have:(b != 0)=false:=by simp [h2]
    rw [this]; simp [h,h2]
   ·have:(b != 0)=true:=by simp [h2]
    rw [this]; simp [h]
  ·have:(a != 0)=true:=by simp [h]
   rw [this]; simp [h]
theorem aeT (a b c d:Int):DK [gj a b,gj c d] > 0↔(a > b∨(a=b∧c > d)):=by
 rw [Yw,LM,LM]
 (repeat' split) <;> omega
theorem ac5 (a b c d:Int):DK [gj a b,gj c d]≥0↔¬ (a < b∨(a=b∧c < d)):=by
 rw [Yw,LM,LM]
 (repeat' split) <;> omega
theorem abO (y:Fact) (k a:Int):dP y a k=true↔FGt y k a:=by
 have:dP y a k=decide (DK [gj y.at_ a,gj y.kind k] > 0):=rfl
 rw [this,decide_eq_true_eq]
 exact aeT _ _ _ _
theorem abP (y:Fact) (k a:Int):dP y a k=false↔¬ FGt y k a:=by
 rw [← abO]
 simp
theorem BN {F:List Fact} {k a x:Int} (h:(x = -1∧∀ q,q < F.length→dP (F.getD q default) a k=false)∨(0≤x∧x < (F.length:Int)∧dP (F.getD x.toNat default) a k=true∧∀ q,q < x.toNat→dP (F.getD q default) a k=false)) :
  (x < 0→DE F k a F.length)∧(¬ x < 0→DE F k a x.toNat):=by
 rcases h with ⟨h0,h⟩ | ⟨h0,h1,h2,h⟩
 ·exact ⟨fun _=>⟨fun q hq=>(abP _ _ _).1 (h q hq),fun hh=>absurd hh (by omega)⟩,fun hh=>absurd hh (by omega)⟩
 ·exact ⟨fun hh=>absurd hh (by omega),fun _=>⟨fun q hq=>(abP _ _ _).1 (h q hq),fun _=>(abO _ _ _).1 h2⟩⟩
def nk (f:ai) (kind:Int) (at_:Int) (n:Int):Sk (ai) :=
 .bind false (fun b1=>b1=(bif n != 0 then 1 else 0))
 (.br (n != 0)
 (.fin (.inr 1))
 (.fin (.inr 0)))
 (fun (b1:Int)=>⟨[],[(9,.box [iv kind,iv at_,iv b1])]⟩) fun b1 =>
 .r 5 ((qu 22 f.facts).c) fun x2 =>
 .r 6 ((lQ x2 kind at_).c) fun x3 =>
 .br (decide (x3≥0))
 (.r 8 (.al (.p (bN x3 x2.length)) (.al (.o [.dn (uj Fact.E x2 x3.toNat ({ kind:=kind,at_:=at_,n:=b1 }:Fact))]) (.p (x3.toNat < x2.length)))) fun _ =>
 .wn 22 x2.length (x2.set x3.toNat ({ kind:=kind,at_:=at_,n:=b1 }:Fact)).length <|
 .dead default)
 (.r 11 ((lR x2 at_ kind).c) fun x4 =>
 .bind false (fun b5=>0≤b5∧b5≤(x2.length:Int)∧DE x2 kind at_ b5.toNat)
 (.br (decide (x4 < 0))
 (.fin (.inr ((x2.length:Nat):Int)))
 (.fin (.inr x4)))
 (fun (b5:Int)=>⟨[(12,iv b5)],[]⟩) fun b5 =>
 .r 14 (.al (.al (.o [.pur 55]) (.o [.dn (dH Fact.E [({ kind:=kind,at_:=at_,n:=b1 }:Fact)])])) ((sN 22 56 x2 b5 [({ kind:=kind,at_:=at_,n:=b1 }:Fact)]).c)) fun x6 =>
 .fin ({ f with facts:=x6 }))
def BO f kind at_ n:=(nk f kind at_ n).val
theorem P7 (f:ai) (kind:Int) (at_:Int) (n:Int) (hP:∀ y,y∈f.facts→¬ (y.kind=kind∧y.at_=at_)):(nk f kind at_ n).cC (fun (x:ai)=>∃ i,i≤f.facts.length∧x = { f with facts:=ku f.facts i { kind:=kind,at_:=at_,n:=bif n != 0 then 1 else 0 } }∧DE f.facts kind at_ i):=by
 refine Sk.aP _ ?_
 unfold nk
 simp only [Sk.ct,Sk.aA,reduceCtorEq,ON,kk,kp,qu,lQ,lR,sN,uk.c,maxLen]
 refine ⟨⟨fun h=>by rw [h]; rfl,fun h=>by rw [h]; rfl⟩,fun b _ hb x _ hx i _ hp=>⟨fun hc=>?_,fun _ j _ hj=>⟨⟨fun hd=>?_,fun hd=>?_⟩,fun c _ hc y hy _=>?_⟩⟩⟩
 ·exfalso
  have h0:0≤i:=by simpa using hc
  rcases hp with ⟨h,_⟩ | ⟨_,h1,h2,_⟩
  ·omega
  ·rw [hx.2] at h1 h2
   refine hP _ (gH (show i.toNat < f.facts.length by omega) default) ?_
   have h3:gU (f.facts.getD i.toNat default) kind at_=(((f.facts.getD i.toNat default).kind == kind)&&((f.facts.getD i.toNat default).at_ == at_)):=rfl
   rw [h3] at h2
   simpa using h2
 ·have h0:j < 0:=by simpa using hd
  exact ⟨by omega,by omega,by rw [Int.toNat_natCast]; exact (BN hj).1 h0⟩
 ·have h0:¬ j < 0:=by simpa using hd
  exact ⟨by omega,by rcases hj with ⟨h,_⟩ | ⟨_,h1,_⟩ <;> omega,(BN hj).2 h0⟩
 ·refine ⟨c.toNat,by rw [← hx.1]; omega,?_,by rw [← hx.2]; exact hc.2.2⟩
  rw [hy,hx.2,hb]
  rfl
theorem uY (f:ai) (kind:Int) (at_:Int) (n:Int):(fun (x:ai)=>(∀ y,y∈f.facts→¬ (y.kind=kind∧y.at_=at_))→(∃ i,i≤f.facts.length∧x = { f with facts:=ku f.facts i { kind:=kind,at_:=at_,n:=bif n != 0 then 1 else 0 } }∧DE f.facts kind at_ i)) (BO f kind at_ n):=fun hP=>Sk.cI _ (P7 f kind at_ n hP)
theorem SQ (f:ai) (kind:Int) (at_:Int) (n:Int) (hf:f.facts.length≤1000000) (hs:∀ y,y∈f.facts→¬ (y.kind=kind∧y.at_=at_)):(nk f kind at_ n).a6 (fun _=>True):=by
 refine Sk.aG _ ?_
 unfold nk
 simp only [Sk.gL,Sk.aA,reduceCtorEq,ON,kk,kp,qu,lQ,lR,sN,uk.c,maxLen]
 refine ⟨⟨fun h=>by rw [h]; rfl,fun h=>by rw [h]; rfl⟩,fun b _ hb=>⟨by omega,fun x _ hx i _ hp=>⟨fun hc=>?_,fun _ j _ hj=>⟨⟨fun hd=>?_,fun hd=>?_⟩,fun c _ hc=>⟨hc.1,hc.2.1,by rw [hx.1]; exact hf,rfl⟩⟩⟩⟩⟩
 ·exfalso
  have h0:0≤i:=by simpa using hc
  rcases hp with ⟨h,_⟩ | ⟨_,h1,h2,_⟩
  ·omega
  ·rw [hx.2] at h1 h2
   refine hs _ (gH (show i.toNat < f.facts.length by omega) default) ?_
   have h3:gU (f.facts.getD i.toNat default) kind at_=(((f.facts.getD i.toNat default).kind == kind)&&((f.facts.getD i.toNat default).at_ == at_)):=rfl
   rw [h3] at h2
   simpa using h2
 ·have h0:j < 0:=by simpa using hd
  exact ⟨by omega,by omega,by rw [Int.toNat_natCast]; exact (BN hj).1 h0⟩
 ·have h0:¬ j < 0:=by simpa using hd
  exact ⟨by omega,by rcases hj with ⟨h,_⟩ | ⟨_,h1,_⟩ <;> omega,(BN hj).2 h0⟩
def gZ f kind at_ n:=kk tok mixed Tryz.func17 [av f.cells,iv kind,iv at_,iv n] (fun x=>av x.cells) false (nk f kind at_ n) (BO f kind at_ n) (u2 (SQ f kind at_ n)) (fun (x:ai)=>(∀ y,y∈f.facts→¬ (y.kind=kind∧y.at_=at_))→(∃ i,i≤f.facts.length∧x = { f with facts:=ku f.facts i { kind:=kind,at_:=at_,n:=bif n != 0 then 1 else 0 } }∧DE f.facts kind at_ i)) (uY f kind at_ n)
theorem rL.step {f g:ai} {l:List Fact} {n:Nat} (h:rL f g l n) {i:Nat} {x:Fact} (hk:ch x=ch (l.getD n default)) (hi:i≤g.facts.length):rL f { g with facts:=ku g.facts i x } l (n+1):=by
 obtain ⟨F,rfl,h1,h2⟩:=h
 refine ⟨ku F i x,rfl,?_,fun y hy=>?_⟩
 ·have hi:i≤F.length:=hi
  simp only [ku,List.length_append,List.length_cons,List.length_take,List.length_drop]
  omega
 ·simp only [ku,List.mem_append,List.mem_cons] at hy
  have old:y∈F→y∈f.facts∨∃ q,q < n+1∧ch y=ch (l.getD q default):=fun hy=>(h2 y hy).imp id fun ⟨q,hq,e⟩=>⟨q,by omega,e⟩
  rcases hy with hy | rfl | hy
  ·exact old (List.mem_of_mem_take hy)
  ·exact .inr ⟨n,by omega,hk⟩
  ·exact old (List.mem_of_mem_drop hy)
theorem BP (k:Nat) (hk:k≤8):cF .u64 1 (k:Int)=((2 ^ k:Nat):Int):=by
 have:k=0∨k=1∨k=2∨k=3∨k=4∨k=5∨k=6∨k=7∨k=8:=by omega
 rcases this with rfl | rfl | rfl | rfl | rfl | rfl | rfl | rfl | rfl <;> decide
def cP (f:ai) (l:List Fact):ai:=l.foldl (fun g x=>BO g x.kind x.at_ x.n) f
theorem g4 (f:ai) {l:List Fact} {n:Nat} (h:n < l.length):cP f (l.take (n+1))=BO (cP f (l.take n)) (l.getD n default).kind (l.getD n default).at_ (l.getD n default).n:=by
 unfold cP
 rw [List.take_succ_eq_append_getElem h,List.foldl_append]
 have e:l.getD n default=l[n]:=by simp [List.getD,h]
 rw [e]
 rfl
theorem BQ {f:ai} {l:List Fact} (ha:qp f l):∀ n,n≤l.length→rL f (cP f (l.take n)) l n
 | 0,_=>rL.init f l
 | n+1,h=>by
  have ih:=BQ ha n (by omega)
  rw [g4 f (by omega)]
  obtain ⟨i,hi,e,-⟩:=uY (cP f (l.take n)) (l.getD n default).kind (l.getD n default).at_ (l.getD n default).n (ha.fresh ih (by omega))
  rw [e]
  exact ih.step rfl hi
theorem qv {f:ai} {l:List Fact} (ha:qp f l) {n:Nat} (h:n < l.length):∀ y,y∈(cP f (l.take n)).facts→¬ (y.kind=(l.getD n default).kind∧y.at_=(l.getD n default).at_) :=
 ha.fresh (BQ ha n (by omega)) h
theorem tE {r:ah} {f:ai} {l:List Fact} (ha:qp f l) (hF:bu r f) (hl:f.facts.length+l.length≤300) {n:Nat} (h:n≤l.length):bu r (cP f (l.take n)) :=
 (BQ ha n h).right hF (by omega)
theorem zb {f:ai} {l:List Fact} (ha:qp f l) {n:Nat} (h:n≤l.length):(cP f (l.take n)).facts.length≤f.facts.length+n:=by
 obtain ⟨F,e,h1,-⟩:=BQ ha n h
 rw [e]
 exact h1
def aeU (r:ah) (forum:Int) (f:ai) (day:Int) (c:Claim) (l:List Fact) (s:Nat) (x:Option (List Fact)):Prop :=
 (∀ y,x=some y→(∃ v,y=tC l s v)∧bH r forum (cP f y) day c≠2) ∧
 (x=none→∀ v:Nat,v < 2 ^ pb s l.length→bH r forum (cP f (tC l s v)) day c=2)
def fP (r:ah) (forum:Int) (f:ai) (day:Int) (c_:Claim) (l:List Fact) (set:Int):Sk (Option (List Fact)) :=
 .r 1 (.nK ((du set).c) fun x1=>.p (0≤x1)) fun x1 =>
 .bind true (fun b2=>∀ v:Nat,(v:Int) < cF .u64 1 x1→bH r forum (cP f (tC l set.toNat v)) day c_=2)
 (.loop (default:Sum (Option (List Fact)) (Unit)) (fun i3=>0≤i3∧i3≤256∧∀ v:Nat,(v:Int) < i3→bH r forum (cP f (tC l set.toNat v)) day c_=2) (fun i3=>(cF .u64 1 x1 - i3).toNat) (0:Int)
 (fun (i3:Int)=>⟨[(23,.d (.v (.int .u64 i3)))],[]⟩) fun i3 =>
 .br (decide (i3 < (cF .u64 1 x1)))
 (.bind true (fun b4=>bH r forum (cP f (tC l set.toNat i3.toNat)) day c_=2)
 (.r 4 ((rk l set i3).c) fun x5 =>
 .bind true (fun b6=>b6.2.2=cP f x5)
 (.loop (default:Sum (Sum (Sum (Sum (Option (List Fact)) (Unit)) (Int)) (Int × (List Fact) × Int × (List Fact) × Int × Int × (List Fact) × ai × (List Fact) × Int × Int × Bool × ah × Int × ai × Int × Claim × Int × Bool)) (Int × Bool × ai)) (fun i7=>i7.1≤x5.length∧i7.2=cP f (x5.take i7.1)) (fun i7=>x5.length - i7.1) ((0,f):Nat × ai)
 (fun (i7:Nat × ai)=>⟨[(33,iv (i7.1:Int))],[(17,.box (i7.2.cells.map .d))]⟩) fun i7 =>
 .lt 16 0 i7.1 x5.length
 (.r 8 (.p (bN (i7.1:Int) x5.length)) fun _ =>
 .r 9 ((gZ i7.2 ((x5.getD i7.1 default).kind) ((x5.getD i7.1 default).at_) ((x5.getD i7.1 default).n)).c) fun x8 =>
 .nx 10 33 i7.1 (i7.1+1,x8))
 (.fin (.inl (.inr ((i7.1:Int),decide ((i7.1:Int) < ((x5.length:Nat):Int)),i7.2)))))
 (fun (b6:Int × Bool × ai)=>⟨[(33,iv b6.1),(34,bv b6.2.1)],[(17,.box (b6.2.2.cells.map .d))]⟩) fun b6 =>
 .r 11 ((bB r forum b6.2.2 day c_).c) fun x9 =>
 .br (x9 != 2)
 (.fin (.inl (.inl (.inl (some x5)))))
 (.fin (.inr (i3,x5,i3,l,set,i3,x5,f,x5,((x5.length:Nat):Int),b6.1,b6.2.1,r,forum,b6.2.2,day,c_,x9,x9 != 2))))
 (fun (b4:Int × (List Fact) × Int × (List Fact) × Int × Int × (List Fact) × ai × (List Fact) × Int × Int × Bool × ah × Int × ai × Int × Claim × Int × Bool)=>⟨[(15,.d (.v (.int .u64 b4.1))),(16,lv Fact.cells b4.2.1),(25,.d (.v (.int .u64 b4.2.2.1))),(26,lv Fact.cells b4.2.2.2.1),(27,.d (.v (.int .u64 b4.2.2.2.2.1))),(28,.d (.v (.int .u64 b4.2.2.2.2.2.1))),(29,lv Fact.cells b4.2.2.2.2.2.2.1),(30,av b4.2.2.2.2.2.2.2.1.cells),(31,lv Fact.cells b4.2.2.2.2.2.2.2.2.1),(32,iv b4.2.2.2.2.2.2.2.2.2.1),(33,iv b4.2.2.2.2.2.2.2.2.2.2.1),(34,bv b4.2.2.2.2.2.2.2.2.2.2.2.1),(46,av b4.2.2.2.2.2.2.2.2.2.2.2.2.1.cells),(47,iv b4.2.2.2.2.2.2.2.2.2.2.2.2.2.1),(48,av b4.2.2.2.2.2.2.2.2.2.2.2.2.2.2.1.cells),(49,iv b4.2.2.2.2.2.2.2.2.2.2.2.2.2.2.2.1),(50,av b4.2.2.2.2.2.2.2.2.2.2.2.2.2.2.2.2.1.cells),(51,iv b4.2.2.2.2.2.2.2.2.2.2.2.2.2.2.2.2.2.1),(52,bv b4.2.2.2.2.2.2.2.2.2.2.2.2.2.2.2.2.2.2)],[]⟩) fun _ =>
 .fin (.inr (IntKind.u64.wrap (i3+1))))
 (.fin (.inl (.inr ()))))
 (fun (_:Unit)=>⟨[],[]⟩) fun _ =>
 .fin none
def dQ r forum f day c_ l set:=(fP r forum f day c_ l set).val
theorem Ct (r:ah) (forum:Int) (f:ai) (day:Int) (c_:Claim) (l:List Fact) (set:Int) (hP:l.length≤8∧(0≤set∧set.toNat < 2 ^ l.length)):(fP r forum f day c_ l set).cC (fun (x:Option (List Fact))=>aeU r forum f day c_ l set.toNat x):=by
 refine Sk.aP _ ?_
 unfold fP
 simp only [Sk.ct,Sk.aA,reduceCtorEq,ON,kk,kp,du,gZ,bB,rk,maxLen]
 obtain ⟨hl,hs⟩:=hP
 have hp8:=DG set.toNat l.length
 have hpc:=Q3 hs.1 hs.2 hl
 have hsm:=Q2 (pb set.toNat l.length) (by omega)
 intro x hx
 refine ⟨⟨⟨by omega,by omega,fun v hv=>absurd hv (by omega)⟩,fun i hi=>?_⟩,fun b hb=>?_⟩
 ·rw [hx,hpc]
  refine ⟨fun hc=>?_,fun hc=>?_⟩
  ·have dK:i < cF .u64 1 ((pb set.toNat l.length:Nat):Int):=by simpa using hc
   refine ⟨fun y hy hy2=>?_,fun b _ hb=>?_⟩
   ·have hy3:y=tC l set.toNat i.toNat:=hy2 ⟨hl,hs,hi.1,by omega⟩
    refine ⟨⟨⟨Nat.zero_le _,rfl⟩,fun j hj=>⟨fun hd _ z hz _ _=>?_,fun hd=>?_⟩⟩,fun b hb s hs1 _=>⟨fun hs2=>?_,fun hs2=>?_⟩⟩
    ·have rO:j.1 < y.length:=by simpa using hd
     exact ⟨⟨by omega,by rw [hz,hj.2,g4 f rO]⟩,by omega⟩
    ·have e:j.1=y.length:=by
      have:¬ (j.1 < y.length):=by simpa using hd
      omega
     rw [hj.2,e,List.take_length]
    ·refine ⟨fun z hz=>?_,fun h0=>by cases h0⟩
     cases hz
     rw [hb] at hs1
     exact ⟨⟨i.toNat,hy3⟩,by rw [← hs1]; simpa using hs2⟩
    ·rw [hb] at hs1
     rw [← hy3,← hs1]
     simpa using hs2
   ·rw [c6 (by omega) (by omega)]
    refine ⟨⟨by omega,by omega,fun v hv=>?_⟩,by omega⟩
    by_cases e:(v:Int)=i
    ·rw [show v=i.toNat by omega]; exact hb
    ·exact hi.2.2 v (by omega)
  ·have:¬ (i < cF .u64 1 ((pb set.toNat l.length:Nat):Int)):=by simpa using hc
   exact fun v hv=>hi.2.2 v (by omega)
 ·refine ⟨fun y h=>(by cases h),fun _ v hv=>hb v ?_⟩
  rw [hx,hpc,BP _ (by omega)]
  exact Int.ofNat_lt.2 hv
theorem jD (r:ah) (forum:Int) (f:ai) (day:Int) (c_:Claim) (l:List Fact) (set:Int):(fun (x:Option (List Fact))=>(l.length≤8∧(0≤set∧set.toNat < 2 ^ l.length))→(aeU r forum f day c_ l set.toNat x)) (dQ r forum f day c_ l set):=fun hP=>Sk.cI _ (Ct r forum f day c_ l set hP)
theorem DL (r:ah) (forum:Int) (f:ai) (day:Int) (c_:Claim) (l:List Fact) (set:Int) (hF:bu r f) (hf:f.facts.length≤202) (hl:l.length≤8) (hs:0≤set∧set.toNat < 2 ^ l.length) (ha:qp f l) (bg:r.bD) (aO:r.Small) (dA:r.fD) (dm:r.cp):(fP r forum f day c_ l set).a6 (fun _=>True):=by
 refine Sk.aG _ ?_
 unfold fP
 simp only [Sk.gL,Sk.aA,reduceCtorEq,ON,kk,kp,du,gZ,bB,rk,maxLen]
 have hp8:=DG set.toNat l.length
 have hpc:=Q3 hs.1 hs.2 hl
 have hsm:=Q2 (pb set.toNat l.length) (by omega)
 refine ⟨fun x hx=>by rw [hx,hpc]; omega,fun x hx=>⟨⟨by omega,by omega,fun v hv=>absurd hv (by omega)⟩,fun i hi=>?_⟩⟩
 rw [hx,hpc]
 refine ⟨fun hc=>?_,fun hc=>?_⟩
 ·have dK:i < cF .u64 1 ((pb set.toNat l.length:Nat):Int):=by simpa using hc
  refine ⟨⟨⟨hl,hs,hi.1,by omega⟩,fun y hy hy2=>?_⟩,fun b _ hb=>?_⟩
  ·have hy3:y=tC l set.toNat i.toNat:=hy2 ⟨hl,hs,hi.1,by omega⟩
   have qP:qp f y:=by rw [hy3]; exact ha.sub (uV _ _ _)
   have V3:y.length≤8:=by rw [hy3,vZ]; omega
   refine ⟨⟨⟨Nat.zero_le _,rfl⟩,fun j hj hm=>⟨fun hd=>?_,fun hd=>?_⟩⟩,fun b hb=>?_⟩
   ·have rO:j.1 < y.length:=by simpa using hd
    have hln:=zb qP (n:=j.1) (by omega)
    rw [hj.2]
    exact ⟨by omega,fun _=>⟨⟨by omega,qv qP rO⟩,fun z hz _ _=>⟨(ar (by omega) (by omega)).trans (by omega),⟨by omega,by rw [hz,g4 f rO]⟩,by omega⟩⟩⟩
   ·have e:j.1=y.length:=by
     have:¬ (j.1 < y.length):=by simpa using hd
     omega
    rw [hj.2,e,List.take_length]
   ·have hR:bu r (cP f y):=by
     have:=tE qP hF (by omega) (n:=y.length) (Nat.le_refl _)
     rwa [List.take_length] at this
    rw [hb]
    refine ⟨⟨hR,hR.small,by assumption,by assumption,by assumption,by assumption⟩,fun s hs1 _ hs2=>?_⟩
    rw [← hy3,← hs1]
    simpa using hs2
  ·rw [c6 (by omega) (by omega)]
   refine ⟨⟨by omega,by omega,fun v hv=>?_⟩,by omega⟩
   by_cases e:(v:Int)=i
   ·rw [show v=i.toNat by omega]; exact hb
   ·exact hi.2.2 v (by omega)
 ·have:¬ (i < cF .u64 1 ((pb set.toNat l.length:Nat):Int)):=by simpa using hc
  exact fun v hv=>hi.2.2 v (by omega)
def qw r forum f day c_ l set:=kk tok mixed Tryz.func35 [av r.cells,iv forum,av f.cells,iv day,av c_.cells,lv Fact.cells l,.d (.v (.int .u64 set))] (fun x=>.d (bif x.isNone then .v (.slice none 0 0) else mR Fact.cells (x.getD []))) false (fP r forum f day c_ l set) (dQ r forum f day c_ l set) (fun (h:(bu r f)∧(f.facts.length≤202)∧(l.length≤8)∧(0≤set∧set.toNat < 2 ^ l.length)∧(qp f l)∧(r.bD)∧(r.Small)∧(r.fD)∧(r.cp))=>DL r forum f day c_ l set h.1 h.2.1 h.2.2.1 h.2.2.2.1 h.2.2.2.2.1 h.2.2.2.2.2.1 h.2.2.2.2.2.2.1 h.2.2.2.2.2.2.2.1 h.2.2.2.2.2.2.2.2) (fun (x:Option (List Fact))=>(l.length≤8∧(0≤set∧set.toNat < 2 ^ l.length))→(aeU r forum f day c_ l set.toNat x)) (jD r forum f day c_ l set)
def fg (D:Int→List Fact) (N:Int) (Q:Int→Prop) (L:List (List Fact)) (F:List Int):Prop :=
 L=F.map D∧(∀ t,t∈F→0 < t∧t < N∧Q t∧(D t).length≠0)∧F.Pairwise (fun a b=>cx a≤cx b∧aD .u64 a b≠a) ∧
  ∀ s,0 < s→s < N→Q s→(D s).length≠0→∃ t,t∈F∧aD .u64 t s=t
def QL (k:Int) (s:Int):Prop:=cx s < k
def QS (k set:Int) (s:Int):Prop:=cx s < k∨(cx s=k∧set < s)
theorem ZV:∀ s:Nat,s < 256→aD .u64 (s:Int) (s:Int)=(s:Int):=by
 have h:(List.range 256).all (fun s=>decide (aD .u64 (s:Int) (s:Int)=(s:Int)))=true:=by kernel_rfl
 intro s hs
 have:=List.all_eq_true.1 h s (by simpa using hs)
 simpa using this
theorem Q7 {s:Int} (h0:0≤s) (h:s < 256):aD .u64 s s=s:=by
 have:=ZV s.toNat (by omega)
 rwa [show ((s.toNat:Nat):Int)=s by omega] at this
theorem fg.nil (D:Int→List Fact) (N:Int) (Q:Int→Prop) (h:∀ s,0 < s→s < N→¬ Q s):fg D N Q [] [] :=
 ⟨rfl,fun t ht=>by simp at ht,List.Pairwise.nil,fun s h1 h2 h3=>absurd h3 (h s h1 h2)⟩
theorem fg.congr {D:Int→List Fact} {N:Int} {Q Q':Int→Prop} {L:List (List Fact)} {F:List Int} (h:fg D N Q L F) (e:∀ s,0 < s→s < N→(Q s↔Q' s)):fg D N Q' L F :=
 ⟨h.1,fun t ht=>by have:=h.2.1 t ht; exact ⟨this.1,this.2.1,(e t this.1 this.2.1).1 this.2.2.1,this.2.2.2⟩,h.2.2.1,fun s h1 h2 h3=>h.2.2.2 s h1 h2 ((e s h1 h2).2 h3)⟩
theorem fg.len {D:Int→List Fact} {N:Int} {Q:Int→Prop} {L:List (List Fact)} {F:List Int} (h:fg D N Q L F) (hN:N≤256):L.length=F.length∧F.length≤(N - 1).toNat:=by
 refine ⟨by rw [h.1,List.length_map],?_⟩
 have hd:F.Nodup:=by
  refine List.Pairwise.imp_of_mem (fun {a b} ha hb hab e=>?_) h.2.2.1
  subst e
  have:=h.2.1 a ha
  exact hab.2 (Q7 (by omega) (by omega))
 have:=hd.length_le_of_subset (l₂:=(List.range (N - 1).toNat).map fun k=>((k+1:Nat):Int)) (fun t ht=>by
  have:=h.2.1 t ht
  exact List.mem_map.2 ⟨(t - 1).toNat,List.mem_range.2 (by omega),by omega⟩)
 simpa using this
theorem fg.skip {D:Int→List Fact} {N k set:Int} {L:List (List Fact)} {F:List Int} (h:fg D N (QS k set) L F) (hs:cx set=k→(D set).length≠0→∃ t,t∈F∧aD .u64 t set=t):fg D N (QS k (set - 1)) L F:=by
 refine ⟨h.1,fun t ht=>?_,h.2.2.1,fun s h1 h2 h3 h4=>?_⟩
 ·obtain ⟨a,b,c,d⟩:=h.2.1 t ht
  exact ⟨a,b,c.imp id fun e=>⟨e.1,by omega⟩,d⟩
 ·rcases h3 with h3 | ⟨h3,h5⟩
  ·exact h.2.2.2 s h1 h2 (.inl h3) h4
  ·by_cases e:s=set
   ·subst e; exact hs h3 h4
   ·exact h.2.2.2 s h1 h2 (.inr ⟨h3,by omega⟩) h4
theorem fg.push {D:Int→List Fact} {N k set:Int} {L:List (List Fact)} {F:List Int} (h:fg D N (QS k set) L F) (h0:0 < set) (hN:set < N) (hM:N≤256) (hk:cx set=k) (hd:(D set).length≠0) (hl:∀ t,t∈F→aD .u64 t set≠t) :
  fg D N (QS k (set - 1)) (L++[D set]) (F++[set]):=by
 refine ⟨by rw [h.1,List.map_append]; rfl,fun t ht=>?_,?_,fun s h1 h2 h3 h4=>?_⟩
 ·rcases List.mem_append.1 ht with ht | ht
  ·obtain ⟨a,b,c,d⟩:=h.2.1 t ht
   exact ⟨a,b,c.imp id fun e=>⟨e.1,by omega⟩,d⟩
  ·simp only [List.mem_singleton] at ht
   subst ht
   exact ⟨h0,hN,.inr ⟨hk,by omega⟩,hd⟩
 ·refine List.pairwise_append.2 ⟨h.2.2.1,List.pairwise_singleton _ _,fun a ha b hb=>?_⟩
  simp only [List.mem_singleton] at hb
  subst hb
  refine ⟨?_,hl a ha⟩
  rcases (h.2.1 a ha).2.2.1 with e | e
  ·omega
  ·omega
 ·by_cases e:s=set
  ·subst e
   exact ⟨s,by simp,Q7 (by omega) (by omega)⟩
  ·have:∃ t,t∈F∧aD .u64 t s=t:=by
    rcases h3 with h3 | ⟨h3,h5⟩
    ·exact h.2.2.2 s h1 h2 (.inl h3) h4
    ·exact h.2.2.2 s h1 h2 (.inr ⟨h3,by omega⟩) h4
   obtain ⟨t,ht,e⟩:=this
   exact ⟨t,List.mem_append_left _ ht,e⟩
theorem abQ {k N s:Int} (h:s < N):QL k s↔QS k (N - 1) s:=⟨.inl,fun h1=>h1.elim id fun h2=>absurd h2.2 (by omega)⟩
theorem abR {k s:Int} (h:0 < s):QS k 0 s↔QL (k+1) s:=by
 unfold QS QL
 omega
def O0 (r:ah) (forum:Int) (f:ai) (day:Int) (c:Claim) (U:List Fact) (s:Int):List Fact:=(dQ r forum f day c U s).getD []
theorem Yx {s n:Nat} (h:s < 2 ^ n) (h0:s≠0):0 < pb s n:=by
 rcases Nat.eq_zero_or_pos (pb s n) with h1 | h1
 ·refine absurd (Nat.eq_of_testBit_eq fun i=>?_) h0
  rw [Nat.zero_testBit]
  by_cases hi:i < n
  ·have h2:=abI s (show i+1≤n by omega)
   rw [h1,pb] at h2
   cases hb:s.testBit i with
   | false=>rfl
   | true=>rw [hb] at h2; simp at h2
  ·exact Nat.testBit_lt_two_pow (Nat.lt_of_lt_of_le h (Nat.pow_le_pow_right (by omega) (by omega)))
 ·exact h1
theorem SR {r:ah} {forum:Int} {f:ai} {day:Int} {c:Claim} {U:List Fact} {s:Int} (hU:U.length≤8) (h0:0 < s) (hs:s.toNat < 2 ^ U.length) :
  ((dQ r forum f day c U s).isNone=true→O0 r forum f day c U s=[])∧((dQ r forum f day c U s).isNone=false→(O0 r forum f day c U s).length≠0):=by
 have h:=jD r forum f day c U s ⟨hU,by omega,hs⟩
 unfold O0
 cases e:dQ r forum f day c U s with
 | none=>exact ⟨fun _=>rfl,fun hh=>by cases hh⟩
 | some y =>
  refine ⟨fun hh=>by (cases hh),fun _=>?_⟩
  obtain ⟨⟨v,hv⟩,-⟩:=h.1 y e
  have:=Yx hs (by omega)
  show y.length≠0
  rw [hv,vZ]
  omega
theorem N7 {F:List Int} {s:Int} {b:Bool} {n:Nat} (h:b=true↔∀ q,q < n→aD .u64 (F.getD q default) s≠F.getD q default):(b&&(aD .u64 (F.getD n default) s != F.getD n default))=true↔∀ q,q < n+1→aD .u64 (F.getD q default) s≠F.getD q default:=by
 rw [Bool.and_eq_true,h,bne_iff_ne]
 constructor
 ·intro ⟨h1,h2⟩ q hq
  rcases Nat.lt_succ_iff_lt_or_eq.1 hq with hl | rfl
  ·exact h1 q hl
  ·exact h2
 ·exact fun h1=>⟨fun q hq=>h1 q (by omega),h1 n (by omega)⟩
theorem Q8 {F:List Int} {s:Int} (h:∀ q,q < F.length→aD .u64 (F.getD q default) s≠F.getD q default):∀ t,t∈F→aD .u64 t s≠t:=um.1 h
theorem Q9 {F:List Int} {s:Int} {b:Bool} (h:b=true↔∀ q,q < F.length→aD .u64 (F.getD q default) s≠F.getD q default) (hb:b=false):∃ t,t∈F∧aD .u64 t s=t:=by
 apply Classical.byContradiction
 intro hn
 have:b=true:=h.2 fun q hq e=>hn ⟨_,gH hq _,e⟩
 rw [hb] at this
 cases this
theorem DM {s N:Int} {n:Nat} (hn:n≤8) (hN:N=((2 ^ n:Nat):Int)) (h0:0 < s) (h:s < N):s.toNat < 2 ^ n∧1≤cx s∧cx s≤(n:Int):=by
 have h1:s.toNat < 2 ^ n:=by omega
 have h2:=Q3 (by omega) h1 hn
 have h3:=Yx h1 (by omega)
 have h4:=DG s.toNat n
 exact ⟨h1,by omega,by omega⟩
def adQ (r:ah) (forum:Int) (f:ai) (day:Int) (c:Claim) (U:List Fact) (x:List (List Fact) × Int):Prop :=
 (bH r forum f day c≠2→x=([],0)) ∧
 (bH r forum f day c=2→U.length≤8→x.2=0∧∃ F,fg (O0 r forum f day c U) (cF .u64 1 ((U.length:Nat):Int)) (fun _=>True) x.1 F)
def lr (r:ah) (forum:Int) (f:ai) (day:Int) (c_:Claim):Sk ((List (List Fact)) × Int) :=
 .r 1 ((bB r forum f day c_).c) fun x1 =>
 .br (x1 != 2)
 (.fin ([],0))
 (.r 3 ((bO f day).c) fun x2 =>
 .br (decide (((x2.length:Nat):Int) > 8))
 (.fin ([],6))
 (.bind true (fun b3=>∃ F,fg (O0 r forum f day c_ x2) (cF .u64 1 ((x2.length:Nat):Int)) (fun _=>True) b3 F)
 (.loop (default:Sum ((List (List Fact)) × Int) ((List (List Fact)))) (fun i4=>1≤i4.2.2∧i4.2.2≤9∧fg (O0 r forum f day c_ x2) (cF .u64 1 ((x2.length:Nat):Int)) (QL i4.2.2) i4.1 i4.2.1) (fun i4=>(10 - i4.2.2).toNat) (([],[],1):(List (List Fact)) × (List Int) × Int)
 (fun (i4:(List (List Fact)) × (List Int) × Int)=>⟨[(13,ow 100155 i4.1),(14,ow 100156 i4.2.1),(15,iv i4.2.2)],[(100155,aU 29 1 (LC Fact.E).cells i4.1),(100156,aU 87 1 Zj i4.2.1)]⟩) fun i4 =>
 .br (decide (i4.2.2≤((x2.length:Nat):Int)))
 (.bind true (fun b5=>fg (O0 r forum f day c_ x2) (cF .u64 1 ((x2.length:Nat):Int)) (QL (i4.2.2+1)) b5.1 b5.2.1)
 (.r 11 (.p (0≤((x2.length:Nat):Int))) fun _ =>
 .bind true (fun b6=>fg (O0 r forum f day c_ x2) (cF .u64 1 ((x2.length:Nat):Int)) (QL (i4.2.2+1)) b6.1 b6.2.1)
 (.loop (default:Sum (Sum (Sum (Sum ((List (List Fact)) × Int) ((List (List Fact)))) ((List (List Fact)) × (List Int) × Int)) ((List (List Fact)) × (List Int) × Int × (List Fact) × Int × Int × Int × Int × Bool)) ((List (List Fact)) × (List Int) × Int × Int × Bool)) (fun i7=>0≤i7.2.2∧i7.2.2 < (cF .u64 1 ((x2.length:Nat):Int))∧fg (O0 r forum f day c_ x2) (cF .u64 1 ((x2.length:Nat):Int)) (QS i4.2.2 i7.2.2) i7.1 i7.2.1) (fun i7=>i7.2.2.toNat) ((i4.1,i4.2.1,IntKind.u64.wrap ((cF .u64 1 ((x2.length:Nat):Int)) - 1)):(List (List Fact)) × (List Int) × Int)
 (fun (i7:(List (List Fact)) × (List Int) × Int)=>⟨[(13,ow 100227 i7.1),(14,ow 100228 i7.2.1),(16,.d (.v (.int .u64 i7.2.2)))],[(100227,aU 29 1 (LC Fact.E).cells i7.1),(100228,aU 87 1 Zj i7.2.1)]⟩) fun i7 =>
 .br (decide (i7.2.2 > 0))
 (.bind true (fun b8=>fg (O0 r forum f day c_ x2) (cF .u64 1 ((x2.length:Nat):Int)) (QS i4.2.2 (i7.2.2 - 1)) b8.1 b8.2.1)
 (.r 14 ((du i7.2.2).c) fun x9 =>
 .br (x9 != i4.2.2)
 (.fin (.inr (i7.1,i7.2.1,i7.2.2,x9,i4.2.2,x9 != i4.2.2)))
 (.bind true (fun Up=>(Up.1=true↔∀ q,q < i7.2.1.length→aD .u64 (i7.2.1.getD q default) i7.2.2≠i7.2.1.getD q default))
 (.loop (default:Sum (Sum (Sum (Sum (Sum (Sum (Sum ((List (List Fact)) × Int) ((List (List Fact)))) ((List (List Fact)) × (List Int) × Int)) ((List (List Fact)) × (List Int) × Int × (List Fact) × Int × Int × Int × Int × Bool)) ((List (List Fact)) × (List Int) × Int × Int × Bool)) ((List (List Fact)) × (List Int) × Int)) ((List (List Fact)) × (List Int) × Int × Int × Int × Bool)) (Bool × Int × Bool)) (fun i11=>i11.2≤i7.2.1.length∧(i11.1=true↔∀ q,q < i11.2→aD .u64 (i7.2.1.getD q default) i7.2.2≠i7.2.1.getD q default)) (fun i11=>i7.2.1.length - i11.2) ((true,0):Bool × Nat)
 (fun (i11:Bool × Nat)=>⟨[(17,bv i11.1),(54,iv (i11.2:Int))],[]⟩) fun i11 =>
 .lt 14 0 i11.2 i7.2.1.length
 (.r 18 (.al (.p (bN (i11.2:Int) i7.2.1.length)) (.p (i11.2 < i7.2.1.length))) fun _ =>
 .r 20 .z fun _ =>
 .wi 54 (au ((i11.2:Int)+1)) ((i11.2+1:Nat):Int) <|
 .fin (.inr (i11.1&&((aD .u64 (i7.2.1.getD i11.2 default) i7.2.2) != (i7.2.1.getD i11.2 default)),i11.2+1)))
 (.fin (.inl (.inr (i11.1,(i11.2:Int),decide ((i11.2:Int) < ((i7.2.1.length:Nat):Int)))))))
 (fun (Up:Bool × Int × Bool)=>⟨[(17,bv Up.1),(54,iv Up.2.1),(55,bv Up.2.2)],[]⟩) fun Up =>
 .br (!Up.1)
 (.fin (.inr (i7.1,i7.2.1,i7.2.2,x9,i4.2.2,x9 != i4.2.2)))
 (.r 22 ((qw r forum f day c_ x2 i7.2.2).c) fun GG =>
 .Uj 76 GG.isNone nv (lv Fact.cells (GG.getD []))
 (.Uj 20 GG.isNone nv (lv Fact.cells (GG.getD []))
 (.JH <|
 .fin (.inr (i7.1,i7.2.1,i7.2.2,x9,i4.2.2,x9 != i4.2.2)))
 (.r 23 (.p ((GG.getD []).length≠0)) fun _ =>
 .JG <|
 .r 24 (.al (.o [.dn (dH (LC Fact.E) [(GG.getD [])])]) (.al (.o [.dn (kE (LC Fact.E) i7.1 [(GG.getD [])])]) (.al (.t ((LC Fact.E).mT [(GG.getD [])])) (.p (vE i7.1.length [(GG.getD [])].length 24))))) fun _ =>
 .r 25 (.al (.o [.dn (dH Zk [i7.2.2])]) (.al (.o [.dn (kE Zk i7.2.1 [i7.2.2])]) (.al (.t (Zk.mT [i7.2.2])) (.p (vE i7.2.1.length [i7.2.2].length 8))))) fun _ =>
 .fin (.inr (i7.1++[(GG.getD [])],i7.2.1++[i7.2.2],i7.2.2,x9,i4.2.2,x9 != i4.2.2))))
 (.Uj 20 GG.isNone nv (lv Fact.cells (GG.getD []))
 (.JH <|
 .fin (.inr (i7.1,i7.2.1,i7.2.2,x9,i4.2.2,x9 != i4.2.2)))
 (.r 23 (.p ((GG.getD []).length≠0)) fun _ =>
 .JG <|
 .r 24 (.al (.o [.dn (dH (LC Fact.E) [(GG.getD [])])]) (.al (.o [.dn (kE (LC Fact.E) i7.1 [(GG.getD [])])]) (.al (.t ((LC Fact.E).mT [(GG.getD [])])) (.p (vE i7.1.length [(GG.getD [])].length 24))))) fun _ =>
 .r 25 (.al (.o [.dn (dH Zk [i7.2.2])]) (.al (.o [.dn (kE Zk i7.2.1 [i7.2.2])]) (.al (.t (Zk.mT [i7.2.2])) (.p (vE i7.2.1.length [i7.2.2].length 8))))) fun _ =>
 .fin (.inr (i7.1++[(GG.getD [])],i7.2.1++[i7.2.2],i7.2.2,x9,i4.2.2,x9 != i4.2.2)))))))
 (fun (b8:(List (List Fact)) × (List Int) × Int × Int × Int × Bool)=>⟨[(13,ow 100231 b8.1),(14,ow 100232 b8.2.1),(48,.d (.v (.int .u64 b8.2.2.1))),(49,iv b8.2.2.2.1),(50,iv b8.2.2.2.2.1),(51,bv b8.2.2.2.2.2)],[(100231,aU 29 1 (LC Fact.E).cells b8.1),(100232,aU 87 1 Zj b8.2.1)]⟩) fun b8 =>
 .fin (.inr (b8.1,b8.2.1,IntKind.u64.wrap (i7.2.2 - 1))))
 (.fin (.inl (.inr (i7.1,i7.2.1,i7.2.2,i7.2.2,decide (i7.2.2 > 0))))))
 (fun (b6:(List (List Fact)) × (List Int) × Int × Int × Bool)=>⟨[(13,ow 100223 b6.1),(14,ow 100224 b6.2.1),(16,.d (.v (.int .u64 b6.2.2.1))),(44,.d (.v (.int .u64 b6.2.2.2.1))),(45,bv b6.2.2.2.2)],[(100223,aU 29 1 (LC Fact.E).cells b6.1),(100224,aU 87 1 Zj b6.2.1)]⟩) fun b6 =>
 .fin (.inr (b6.1,b6.2.1,b6.2.2.1,x2,((x2.length:Nat):Int),cF .u64 1 ((x2.length:Nat):Int),IntKind.u64.wrap ((cF .u64 1 ((x2.length:Nat):Int)) - 1),b6.2.2.2.1,b6.2.2.2.2)))
 (fun (b5:(List (List Fact)) × (List Int) × Int × (List Fact) × Int × Int × Int × Int × Bool)=>⟨[(13,ow 100213 b5.1),(14,ow 100214 b5.2.1),(16,.d (.v (.int .u64 b5.2.2.1))),(40,lv Fact.cells b5.2.2.2.1),(41,iv b5.2.2.2.2.1),(42,.d (.v (.int .u64 b5.2.2.2.2.2.1))),(43,.d (.v (.int .u64 b5.2.2.2.2.2.2.1))),(44,.d (.v (.int .u64 b5.2.2.2.2.2.2.2.1))),(45,bv b5.2.2.2.2.2.2.2.2)],[(100213,aU 29 1 (LC Fact.E).cells b5.1),(100214,aU 87 1 Zj b5.2.1)]⟩) fun b5 =>
 .fin (.inr (b5.1,b5.2.1,au (i4.2.2+1))))
 (.fin (.inl (.inr i4.1))))
 (fun (b3:(List (List Fact)))=>⟨[(13,ow 100116 b3)],[(100116,aU 29 1 (LC Fact.E).cells b3)]⟩) fun b3 =>
 .fin (b3,0)))
def SS r forum f day c_:=(lr r forum f day c_).val
theorem H0 (r:ah) (forum:Int) (f:ai) (day:Int) (c_:Claim):(lr r forum f day c_).cC (fun (x:(List (List Fact)) × Int)=>adQ r forum f day c_ (dF (aj f day) (5 * (aj f day).ae.length)) x):=by
 refine Sk.aP _ ?_
 unfold lr
 simp only [Sk.ct,Sk.aA,reduceCtorEq,ON,kk,kp,du,bB,bO,qw,maxLen]
 intro x1 Bu _
 refine ⟨fun O9=>?_,fun O9 U hU1 hU=>⟨fun CW=>?_,fun CW=>?_⟩⟩
 ·refine ⟨fun _=>rfl,fun h=>?_⟩
  rw [Bu,h] at O9
  simp at O9
 ·rw [← hU]
  simp only [LN] at CW
  refine ⟨fun h=>?_,fun _ h=>absurd h (by omega)⟩
  rw [Bu] at O9
  exact absurd (by simpa using O9) h
 have jK:bH r forum f day c_=2:=by rw [← Bu]; simpa using O9
 rw [← hU]
 have FR:U.length≤8:=by simp only [LN] at CW; omega
 have hN:=BP U.length FR
 have agE:=yY FR
 have JB:0 < 2 ^ U.length:=Nat.two_pow_pos _
 have Td:∀ L,(∃ F,fg (O0 r forum f day c_ U) (cF .u64 1 ((U.length:Nat):Int)) (fun _=>True) L F)→adQ r forum f day c_ U (L,0):=fun L h=>⟨fun h2=>absurd jK h2,fun _ _=>⟨rfl,h⟩⟩
 generalize cF .u64 1 ((U.length:Nat):Int)=N at hN Td ⊢
 have hw:IntKind.u64.wrap (N - 1)=N - 1:=c6 (by omega) (by omega)
 rw [hw]
 refine ⟨⟨⟨by omega,by omega,fg.nil _ _ _ fun s h1 h2 h3=>?_⟩,fun i hi=>⟨fun hc=>⟨fun _=>⟨⟨⟨by omega,by omega,hi.2.2.congr fun s _ h=>abQ h⟩,fun j hj=>⟨fun hd=>⟨fun y hy=>⟨fun hk=>?_,fun hk=>⟨⟨⟨Nat.zero_le _,?_⟩,fun q hq=>⟨fun hl _ _=>⟨⟨?_,N7 hq.2⟩,?_⟩,fun hl=>?_⟩⟩,fun b hb=>⟨fun hn=>?_,fun hn d LB _=>?_⟩⟩⟩,fun b _ hb=>?_⟩,fun hd=>?_⟩⟩,fun b hb=>hb⟩,fun b _ hb=>?_⟩,fun hc=>?_⟩⟩,fun b hb=>Td b hb⟩
 ·have:=DM FR hN h1 h2
  unfold QL at h3
  omega
 ·refine hj.2.2.skip fun e=>?_
  rw [← e,hy] at hk
  simp at hk
 ·simp
 ·simp only [LN] at hl; omega
 ·simp only [LN] at hl; omega
 ·have e:q.2=j.2.1.length:=by simp only [LN] at hl; omega
  have:=hq.2
  rwa [e] at this
 ·exact hj.2.2.skip fun _ _=>Q9 hb (by simpa using hn)
 ·have h0:0 < j.2.2:=by simp only [LN] at hd; omega
  obtain ⟨p1,p2,p3⟩:=DM FR hN h0 hj.2.1
  obtain ⟨v1,v2⟩:=SR (r:=r) (forum:=forum) (f:=f) (day:=day) (c:=c_) FR h0 p1
  rw [← LB] at v1 v2
  have hg:d.getD []=O0 r forum f day c_ U j.2.2:=by rw [LB]; rfl
  rw [hg]
  have hsk:d.isNone=true→fg (O0 r forum f day c_ U) N (QS i.2.2 (j.2.2 - 1)) j.1 j.2.1:=fun h=>hj.2.2.skip fun _ h2=>absurd (by rw [v1 h]; rfl) h2
  have hl:=hj.2.2.len (by omega)
  have hpu:d.isNone=false→fg (O0 r forum f day c_ U) N (QS i.2.2 (j.2.2 - 1)) (j.1++[O0 r forum f day c_ U j.2.2]) (j.2.1++[j.2.2]):=fun h =>
   hj.2.2.push h0 hj.2.1 (by omega) (by rw [← hy]; simpa using hk) (v2 h) (Q8 (hb.1 (by simpa using hn)))
  exact ⟨fun _=>⟨hsk,fun h _ _ _=>hpu h⟩,fun _=>⟨hsk,fun h _ _ _=>hpu h⟩⟩
 ·have h0:0 < j.2.2:=by simp only [LN] at hd; omega
  rw [c6 (by omega) (by omega)]
  exact ⟨⟨by omega,by omega,hb⟩,by omega⟩
 ·have h0:j.2.2=0:=by simp only [LN] at hd; omega
  have:=hj.2.2
  rw [h0] at this
  exact this.congr fun s h _=>abR h
 ·simp only [LN] at hc
  rw [ar (by omega) (by omega)]
  exact ⟨⟨by omega,by omega,hb⟩,by omega⟩
 ·simp only [LN] at hc
  refine ⟨_,hi.2.2.congr fun s h1 h2=>⟨fun _=>trivial,fun _=>?_⟩⟩
  have:=DM FR hN h1 h2
  unfold QL
  omega
theorem KH (r:ah) (forum:Int) (f:ai) (day:Int) (c_:Claim) (hF:bu r f) (hf:f.facts.length≤202) (aV:f.Small) (bg:r.bD) (aO:r.Small) (dA:r.fD) (dm:r.cp):(lr r forum f day c_).a6 (fun _=>True):=by
 refine Sk.aG _ ?_
 unfold lr
 simp only [Sk.gL,Sk.aA,reduceCtorEq,ON,kk,kp,du,bB,bO,qw,maxLen]
 refine ⟨⟨hF,by (repeat' first | assumption | apply And.intro)⟩,fun x1 Bu _ O9=>⟨by assumption,fun U hU1 hU CW=>?_⟩⟩
 have FR:U.length≤8:=by simp only [LN] at CW; omega
 have qP:qp f U:=by rw [hU]; exact tV f day
 have hN:=BP U.length FR
 have agE:=yY FR
 have JB:0 < 2 ^ U.length:=Nat.two_pow_pos _
 generalize cF .u64 1 ((U.length:Nat):Int)=N at hN ⊢
 have hw:IntKind.u64.wrap (N - 1)=N - 1:=c6 (by omega) (by omega)
 rw [hw]
 refine ⟨⟨by omega,by omega,fg.nil _ _ _ fun s h1 h2 h3=>?_⟩,fun i hi=>⟨fun hc=>⟨⟨by omega,fun _=>⟨⟨⟨by omega,by omega,hi.2.2.congr fun s _ h=>abQ h⟩,fun j hj=>⟨fun hd=>⟨fun y hy=>⟨fun hk=>?_,fun hk=>⟨⟨⟨Nat.zero_le _,?_⟩,fun q hq hm=>⟨fun hl=>⟨⟨?_,?_⟩,fun _ _=>⟨?_,⟨?_,N7 hq.2⟩,?_⟩⟩,fun hl=>?_⟩⟩,fun b hb=>⟨fun hn=>?_,fun hn=>⟨⟨hF,hf,FR,⟨?_,?_⟩,qP,by assumption,by assumption,by assumption,by assumption⟩,fun d LB _=>?_⟩⟩⟩⟩,fun b _ hb=>?_⟩,fun hd=>?_⟩⟩,fun b hb=>hb⟩⟩,fun b _ hb=>?_⟩,fun hc=>?_⟩⟩
 ·have:=DM FR hN h1 h2
  unfold QL at h3
  omega
 ·refine hj.2.2.skip fun e=>?_
  rw [← e,hy] at hk
  simp at hk
 ·simp
 ·simp only [LN] at hl; omega
 ·simp only [LN] at hl; omega
 ·simp only [LN] at hl; exact (ar (by omega) (by omega)).trans (by omega)
 ·simp only [LN] at hl; omega
 ·simp only [LN] at hl; omega
 ·have e:q.2=j.2.1.length:=by simp only [LN] at hl; omega
  have:=hq.2
  rwa [e] at this
 ·exact hj.2.2.skip fun _ _=>Q9 hb (by simpa using hn)
 ·omega
 ·simp only [LN] at hd; exact (DM FR hN (by omega) hj.2.1).1
 ·have h0:0 < j.2.2:=by simp only [LN] at hd; omega
  obtain ⟨p1,p2,p3⟩:=DM FR hN h0 hj.2.1
  obtain ⟨v1,v2⟩:=SR (r:=r) (forum:=forum) (f:=f) (day:=day) (c:=c_) FR h0 p1
  rw [← LB] at v1 v2
  have hg:d.getD []=O0 r forum f day c_ U j.2.2:=by rw [LB]; rfl
  rw [hg]
  have hsk:d.isNone=true→fg (O0 r forum f day c_ U) N (QS i.2.2 (j.2.2 - 1)) j.1 j.2.1:=fun h=>hj.2.2.skip fun _ h2=>absurd (by rw [v1 h]; rfl) h2
  have hl:=hj.2.2.len (by omega)
  have hpu:d.isNone=false→fg (O0 r forum f day c_ U) N (QS i.2.2 (j.2.2 - 1)) (j.1++[O0 r forum f day c_ U j.2.2]) (j.2.1++[j.2.2]):=fun h =>
   hj.2.2.push h0 hj.2.1 (by omega) (by rw [← hy]; simpa using hk) (v2 h) (Q8 (hb.1 (by simpa using hn)))
  simp only [List.length_cons,List.length_nil]
  exact ⟨fun _=>⟨hsk,fun h=>⟨v2 h,fun _=>⟨by omega,fun _=>⟨by omega,fun _=>hpu h⟩⟩⟩⟩,fun _=>⟨hsk,fun h=>⟨v2 h,fun _=>⟨by omega,fun _=>⟨by omega,fun _=>hpu h⟩⟩⟩⟩⟩
 ·have h0:0 < j.2.2:=by simp only [LN] at hd; omega
  rw [c6 (by omega) (by omega)]
  exact ⟨⟨by omega,by omega,hb⟩,by omega⟩
 ·have h0:j.2.2=0:=by simp only [LN] at hd; omega
  have:=hj.2.2
  rw [h0] at this
  exact this.congr fun s h _=>abR h
 ·simp only [LN] at hc
  rw [ar (by omega) (by omega)]
  exact ⟨⟨by omega,by omega,hb⟩,by omega⟩
 ·simp only [LN] at hc
  refine ⟨_,hi.2.2.congr fun s h1 h2=>⟨fun _=>trivial,fun _=>?_⟩⟩
  have:=DM FR hN h1 h2
  unfold QL
  omega
def cQ r forum f day c_:=kp tok mixed Tryz.func16 [av r.cells,iv forum,av f.cells,iv day,av c_.cells] (fun x=>.fj [lv (LC Fact.E).cells x.1,iv x.2]) false (SS r forum f day c_) (u7 (KH r forum f day c_)) (H0 r forum f day c_)
def nm (a:List Fact) (b:List Fact):Sk (Bool) :=
 .br (((a.length:Nat):Int) != ((b.length:Nat):Int))
 (.fin false)
 (.bt
 (.loop (default:Sum (Bool) (Unit)) (fun i2=>i2≤a.length) (fun i2=>a.length - i2) (0:Nat)
 (fun (i2:Nat)=>⟨[(5,iv (i2:Int))],[]⟩) fun i2 =>
 .lt 0 0 i2 a.length
 (.r 6 (.al (.p (bN (i2:Int) a.length)) (.p (bN (i2:Int) b.length))) fun _ =>
 .br (!((((a.getD i2 default).kind) == ((b.getD i2 default).kind))&&((((a.getD i2 default).at_) == ((b.getD i2 default).at_))&&((((a.getD i2 default).n) == ((b.getD i2 default).n))&&true))))
 (.fin (.inl (.inl false)))
 (.nx 5 5 i2 (i2+1)))
 (.fin (.inl (.inr ()))))
 (fun (_:Unit)=>⟨[],[]⟩) fun _ =>
 .fin true)
def P8 a b:=(nm a b).val
theorem H2 (a:List Fact) (b:List Fact):(nm a b).a6 (fun _=>True):=by
 unfold nm
 exact nF
def oM a b:=kk tok mixed Tryz.func22 [lv Fact.cells a,lv Fact.cells b] (fun x=>bv x) true (nm a b) (P8 a b) (u0 (H2 a b))
def v8 (a:List (List Fact)) (b:List (List Fact)):Sk (Bool) :=
 .br (((a.length:Nat):Int) != ((b.length:Nat):Int))
 (.fin false)
 (.bt
 (.loop (default:Sum (Bool) (Unit)) (fun i2=>i2≤a.length) (fun i2=>a.length - i2) (0:Nat)
 (fun (i2:Nat)=>⟨[(5,iv (i2:Int))],[]⟩) fun i2 =>
 .lt 0 0 i2 a.length
 (.r 6 (.al (.p (bN (i2:Int) a.length)) (.al (.p (bN (i2:Int) b.length)) ((oM (a.getD i2 default) (b.getD i2 default)).c))) fun x3 =>
 .br (!x3)
 (.fin (.inl (.inl false)))
 (.nx 5 5 i2 (i2+1)))
 (.fin (.inl (.inr ()))))
 (fun (_:Unit)=>⟨[],[]⟩) fun _ =>
 .fin true)
def abS a b:=(v8 a b).val
theorem Vp (a:List (List Fact)) (b:List (List Fact)):(v8 a b).a6 (fun _=>True):=by
 unfold v8
 try simp only [oM]
 exact nF
def N8 a b:=kk tok mixed Tryz.func23 [lv (LC Fact.E).cells a,lv (LC Fact.E).cells b] (fun x=>bv x) true (v8 a b) (abS a b) (u0 (Vp a b))
def wa:Sk (Bool) :=
 .r 1 CH.c fun x1 =>
 .r 3 ((cQ x1.1 0 x1.2 50 ({ aW:=1,az:=2,part:=0,sign:=1,cz:=(-1),eD:=0,sum:=0,aE:=0,state:=0 }:Claim)).c) fun x2 =>
 .r 5 ((bO x1.2 50).c) fun x3 =>
 .r 6 (.al (.o [.pur 25]) (.o [.dn (dH Fact.E [({ kind:=0,at_:=1,n:=0 }:Fact)])])) fun _ =>
 .r 7 (.dep (.wh (x2.2 == 0) true ((bB x1.1 0 x1.2 50 ({ aW:=1,az:=2,part:=0,sign:=1,cz:=(-1),eD:=0,sum:=0,aE:=0,state:=0 }:Claim)).c)) fun x4=>.dep (.wh ((x2.2 == 0)&&(x4 == 2)) true ((oM x3 [({ kind:=0,at_:=1,n:=0 }:Fact)]).c)) fun x5=>.al (.wh (((x2.2 == 0)&&(x4 == 2))&&x5) true (.o [.dn (dH (LC Fact.E) [[({ kind:=0,at_:=1,n:=0 }:Fact)]])])) (.dep (.wh (((x2.2 == 0)&&(x4 == 2))&&x5) true ((N8 x2.1 [[({ kind:=0,at_:=1,n:=0 }:Fact)]]).c)) fun x6=>.dep (.wh ((((x2.2 == 0)&&(x4 == 2))&&x5)&&x6) true ((bB x1.1 0 x1.2 30 ({ aW:=1,az:=2,part:=0,sign:=1,cz:=(-1),eD:=0,sum:=0,aE:=0,state:=0 }:Claim)).c)) fun x7=>.wh (((((x2.2 == 0)&&(x4 == 2))&&x5)&&x6)&&(x7 == 0)) true ((bB x1.1 0 x1.2 50 ({ aW:=1,az:=0,part:=0,sign:=1,cz:=(-1),eD:=0,sum:=0,aE:=0,state:=0 }:Claim)).c))) fun p9 =>
 .fin ((((((x2.2 == 0)&&(p9.1 == 2))&&p9.2.1)&&p9.2.2.1)&&(p9.2.2.2.1 == 0))&&(p9.2.2.2.2 == 0))
def N9:Bool:=(wa).val
theorem P9:(fun (x:Bool)=>x=true) (N9):=(show N9=true by kernel_rfl)
theorem Vq:(wa).a6 (fun _=>True):=by
 refine Sk.aG _ ?_
 unfold wa
 simp only [Sk.gL,Sk.aA,reduceCtorEq,ON,kk,kp,CH,oM,N8,cQ,bB,bO,maxLen]
 intro x hx
 rw [hx]
 obtain ⟨e1,e2,e3,e4,e5,e6⟩:=aie
 have e7:aZ.2.Small:=e1.small
 generalize aZ=E at e1 e2 e3 e4 e5 e6 e7 ⊢
 all_goals (repeat' first | assumption | (apply And.intro) | (intro _))
def gE:iI (Bool):=kk tok mixed Tryz.func7 [] (fun x=>bv x) true (wa) (N9) (fun (_:True)=>Vq) (fun (x:Bool)=>x=true) (P9)
def uZ (f:ai):Sk (Bool) :=
 .fin ((((decide (((f.ae.length:Nat):Int)≤42))&&(decide (((f.aL.length:Nat):Int)≤6)))&&(decide (((f.aw.length:Nat):Int)≤102)))&&(decide (((f.facts.length:Nat):Int)≤202)))
def Yy f:=(uZ f).val
theorem zc (f:ai):Yy f=((((decide (((f.ae.length:Nat):Int)≤42))&&(decide (((f.aL.length:Nat):Int)≤6)))&&(decide (((f.aw.length:Nat):Int)≤102)))&&(decide (((f.facts.length:Nat):Int)≤202))):=rfl
theorem Vr (f:ai):(uZ f).cC (fun (x:Bool)=>x=true→f.Small∧f.facts.length≤202):=by
 unfold uZ
 try simp only [ai.Small,ah.Small]
 exact ET
theorem Xo (f:ai):(uZ f).a6 (fun _=>True):=by
 unfold uZ
 try simp only [ai.Small,ah.Small]
 exact od
def tW f:=kp tok mixed Tryz.func8 [av f.cells] (fun x=>bv x) true (Yy f) (u0 (Xo f)) (Vr f)
theorem Vs {g:ai} {i k n:Nat} {j:Int} (hk:k < 5) (hi:i < n) (hj:j=(((dF g (5 * i+k)).length:Nat):Int)) :
  (j < (((dF g (5 * n)).length:Nat):Int)→((((dF g (5 * n)).getD j.toNat default).kind == (k:Int))&&((((dF g (5 * n)).getD j.toNat default).at_ == (i:Int))&&((((dF g (5 * n)).getD j.toNat default).n == 0)&&true))) = !(bP g (k:Int) (i:Int)).known) ∧
  (¬ j < (((dF g (5 * n)).length:Nat):Int)→false = !(bP g (k:Int) (i:Int)).known) ∧
  ((bP g (k:Int) (i:Int)).known=false→j+1=(((dF g (5 * i+(k+1))).length:Nat):Int)) ∧
  ((bP g (k:Int) (i:Int)).known=true→j=(((dF g (5 * i+(k+1))).length:Nat):Int)):=by
 have et:j.toNat=(dF g (5 * i+k)).length:=by omega
 cases hkn:(bP g (k:Int) (i:Int)).known with
 | false =>
  obtain ⟨h1,h2,h3⟩:=ac2 (g:=g) hk hi (by rw [hkn]; decide)
  refine ⟨fun _=>?_,fun hh=>absurd (by omega) hh,fun _=>by omega,fun hh=>(by cases hh)⟩
  rw [et,h2]
  simp
 | true =>
  obtain ⟨h1,h2⟩:=aeP (g:=g) hk hi hkn
  refine ⟨fun hh=>?_,fun _=>rfl,fun hh=>(by cases hh),fun _=>by omega⟩
  have h3:=h1 (by omega)
  rw [← et] at h3
  cases hx:((((dF g (5 * n)).getD j.toNat default).kind == (k:Int))&&((((dF g (5 * n)).getD j.toNat default).at_ == (i:Int))&&((((dF g (5 * n)).getD j.toNat default).n == 0)&&true))) with
  | false=>rfl
  | true =>
   refine absurd ?_ h3
   simp only [Bool.and_eq_true,beq_iff_eq,and_true] at hx
   generalize (dF g (5 * n)).getD j.toNat default=y at hx
   obtain ⟨a,b,c⟩:=y
   simp only at hx
   rw [hx.1,hx.2.1,hx.2.2]
def fA (f:ai) (day:Int):Sk (Bool) :=
 .r 1 gE.c fun x1 =>
 .r 2 ((tW f).c) fun x2 =>
 .br (!x2)
 (.fin x1)
 (.r 4 ((bj f day).c) fun x3 =>
 .r 5 ((bO f day).c) fun x4 =>
 .bind true (fun b5=>b5=(((dF x3 (5 * x3.ae.length)).length:Nat):Int))
 (.loop (default:Sum (Bool) (Int)) (fun i6=>i6.2≤x3.ae.length∧i6.1=(((dF x3 (5 * i6.2)).length:Nat):Int)) (fun i6=>x3.ae.length - i6.2) ((0,0):Int × Nat)
 (fun (i6:Int × Nat)=>⟨[(8,iv i6.1),(9,iv (i6.2:Int))],[]⟩) fun i6 =>
 .lt 6 15 i6.2 x3.ae.length
 (.bind true (fun b7=>b7.1=(((dF x3 (5 * (i6.2+1))).length:Nat):Int))
 (.bind true (fun b8=>b8.1=(((dF x3 (5 * (i6.2+1))).length:Nat):Int))
 (.loop (default:Sum (Sum (Sum (Sum (Bool) (Int)) (Int × Nat)) (Int × Int × Int × Bool)) (Int × Int × Int × Bool)) (fun i9=>i9.2≤5∧i9.1=(((dF x3 (5 * i6.2+i9.2)).length:Nat):Int)) (fun i9=>5 - i9.2) ((i6.1,0):Int × Nat)
 (fun (i9:Int × Nat)=>⟨[(8,iv i9.1),(10,iv (i9.2:Int))],[]⟩) fun i9 =>
 .br (decide ((i9.2:Int) < 5))
 (.bind false (fun Up=>Up = !(bP x3 (i9.2:Int) (i6.2:Int)).known)
 (.br (decide (i9.1 < ((x4.length:Nat):Int)))
 (.r 15 (.p (bN i9.1 x4.length)) fun _ =>
 .fin (.inr ((((x4.getD i9.1.toNat default).kind) == (i9.2:Int))&&((((x4.getD i9.1.toNat default).at_) == (i6.2:Int))&&((((x4.getD i9.1.toNat default).n) == 0)&&true)))))
 (.fin (.inr false)))
 (fun (Up:Bool)=>⟨[(11,bv Up)],[]⟩) fun Up =>
 .r 16 ((cT x3 (i9.2:Int) (i6.2:Int)).c) fun Zz =>
 .br (Up == Zz.known)
 (.fin (.inl (.inl (.inl (.inl (.inl false))))))
 (.br Up
 (.nx 12 10 i9.2 (au (i9.1+1),i9.2+1))
 (.nx 12 10 i9.2 (i9.1,i9.2+1))))
 (.fin (.inl (.inr (i9.1,(i9.2:Int),(i9.2:Int),decide ((i9.2:Int) < 5))))))
 (fun (b8:Int × Int × Int × Bool)=>⟨[(8,iv b8.1),(10,iv b8.2.1),(30,iv b8.2.2.1),(31,bv b8.2.2.2)],[]⟩) fun b8 =>
 .fin (.inr (b8.1,b8.2.1,b8.2.2.1,b8.2.2.2)))
 (fun (b7:Int × Int × Int × Bool)=>⟨[(8,iv b7.1),(10,iv b7.2.1),(30,iv b7.2.2.1),(31,bv b7.2.2.2)],[]⟩) fun b7 =>
 .nx 9 9 i6.2 (b7.1,i6.2+1))
 (.fin (.inl (.inr i6.1))))
 (fun (b5:Int)=>⟨[(8,iv b5)],[]⟩) fun b5 =>
 .fin (x1&&(b5 == ((x4.length:Nat):Int))))
def iA f day:=(fA f day).val
theorem qx (f:ai) (day:Int):(fA f day).cC (fun (x:Bool)=>x=true):=by
 refine Sk.aP _ ?_
 unfold fA
 simp only [Sk.ct,Sk.aA,reduceCtorEq,ON,kk,kp,gE,tW,bO,bj,cT,zc,forall_eq,maxLen]
 intro Oa aeV
 refine ⟨fun _=>Oa,fun hfc hAt hU=>?_⟩
 have hsm:(aj f day).ae.length≤1000000:=by
  have:=(aeV (by simpa using hfc)).1.1
  omega
 rw [hU]
 clear hAt hU
 generalize aj f day=g at hsm ⊢
 refine ⟨⟨⟨Nat.zero_le _,rfl⟩,fun i hi=>⟨fun hc=>⟨⟨⟨⟨by omega,hi.2⟩,fun j hj=>⟨fun hd=>?_,fun hd=>?_⟩⟩,fun b hb=>hb⟩,fun b _ hb _=>⟨⟨?_,hb⟩,?_⟩⟩,fun hc=>?_⟩⟩,?_⟩
 all_goals try simp only [LN] at hc
 ·simp only [LN] at hd
  obtain ⟨s1,s2,s3,s4⟩:=Vs (g:=g) (i:=i.2) (k:=j.2) (n:=g.ae.length) (by omega) (by omega) hj.2
  have hl:=FM g (5 * i.2+j.2)
  refine ⟨⟨fun hl _=>s1 (by simpa using hl),fun hl=>s2 (by simpa using hl)⟩,fun b _ hb=>?_⟩
  rw [hb]
  cases hkn:(bP g ((j.2:Nat):Int) ((i.2:Nat):Int)).known with
  | false =>
   refine ⟨fun h=>(by cases h),fun _=>⟨fun _ _=>⟨⟨by omega,?_⟩,by omega⟩,fun h=>(by cases h)⟩⟩
   rw [ar (by omega) (by omega)]
   exact s3 hkn
  | true=>exact ⟨fun h=>(by cases h),fun _=>⟨fun h=>(by cases h),fun _ _=>⟨⟨by omega,s4 hkn⟩,by omega⟩⟩⟩
 ·have e:j.2=5:=by simp only [LN] at hd; omega
  rw [hj.2,e]; rfl
 ·omega
 ·omega
 ·have e:i.2=g.ae.length:=by omega
  rw [hi.2,e]
 ·rw [Oa]; simp
theorem xZ (f:ai) (day:Int):(fun (x:Bool)=>x=true) (iA f day):=have h:=Sk.cI _ (qx f day); h
theorem zN (f:ai) (day:Int):(fA f day).a6 (fun _=>True):=by
 refine Sk.aG _ ?_
 unfold fA
 simp only [Sk.gL,Sk.aA,reduceCtorEq,ON,kk,kp,gE,tW,bO,bj,cT,zc,forall_eq,maxLen]
 intro Oa aeV hfc
 have hS:=(aeV (by simpa using hfc)).1
 refine ⟨hS,fun hAt=>⟨hS,fun hU=>?_⟩⟩
 have hsm:(aj f day).ae.length≤1000000:=by
  have:=hS.1
  omega
 rw [hU]
 clear hAt hU
 generalize aj f day=g at hsm ⊢
 refine ⟨⟨Nat.zero_le _,rfl⟩,fun i hi hm=>⟨fun hc=>⟨⟨⟨⟨by omega,hi.2⟩,fun j hj=>⟨fun hd=>?_,fun hd=>?_⟩⟩,fun b hb=>hb⟩,fun b _ hb _=>⟨?_,⟨?_,hb⟩,?_⟩⟩,fun hc=>?_⟩⟩
 all_goals try simp only [LN] at hc
 ·simp only [LN] at hd
  obtain ⟨s1,s2,s3,s4⟩:=Vs (g:=g) (i:=i.2) (k:=j.2) (n:=g.ae.length) (by omega) (by omega) hj.2
  have hl:=FM g (5 * i.2+j.2)
  have wj:au ((j.2:Int)+1)=((j.2+1:Nat):Int):=(ar (by omega) (by omega)).trans (by omega)
  refine ⟨⟨fun hl=>⟨⟨by omega,by simpa using hl⟩,fun _=>s1 (by simpa using hl)⟩,fun hl=>s2 (by simpa using hl)⟩,fun b _ hb=>?_⟩
  rw [hb]
  cases hkn:(bP g ((j.2:Nat):Int) ((i.2:Nat):Int)).known with
  | false =>
   refine fun _=>⟨fun _ _=>⟨wj,⟨by omega,?_⟩,by omega⟩,fun h=>(by cases h)⟩
   rw [ar (by omega) (by omega)]
   exact s3 hkn
  | true=>exact fun _=>⟨fun h=>(by cases h),fun _ _=>⟨wj,⟨by omega,s4 hkn⟩,by omega⟩⟩
 ·have e:j.2=5:=by simp only [LN] at hd; omega
  rw [hj.2,e]; rfl
 ·exact (ar (by omega) (by omega)).trans (by omega)
 ·omega
 ·omega
 ·have e:i.2=g.ae.length:=by omega
  rw [hi.2,e]
def A9 f day:=kp tok mixed Tryz.func3 [av f.cells,iv day] (fun x=>bv x) true (iA f day) (u0 (zN f day)) (qx f day)
theorem zO (f:ai) (day:Int):eC Tryz.prog 3 [av f.cells,iv day] [] (bv (iA f day)) []:=(A9 f day).pf trivial
def u1 (r:ah):Sk (Bool) :=
 .bt
 (.loop (default:Sum (Bool) (Unit)) (fun i2=>i2≤r.bo.length) (fun i2=>r.bo.length - i2) (0:Nat)
 (fun (i2:Nat)=>⟨[(3,iv (i2:Int))],[]⟩) fun i2 =>
 .Eo 1 1 r.bo.length <|
 .br ((decide ((i2:Int) < ((r.bo.length:Nat):Int)))&&(decide ((i2:Int) < 50)))
 (.r 4 (.al (.p (bN (i2:Int) r.bo.length)) (.al (.wh (decide (((((r.bo.getD i2 default).j4).length:Nat):Int) > 70)) false (.p (bN (i2:Int) r.bo.length))) (.wh ((decide (((((r.bo.getD i2 default).j4).length:Nat):Int) > 70))||(decide (((((r.bo.getD i2 default).shut).length:Nat):Int) > 210))) false (.p (bN (i2:Int) r.bo.length))))) fun _ =>
 .br (((decide (((((r.bo.getD i2 default).j4).length:Nat):Int) > 70))||(decide (((((r.bo.getD i2 default).shut).length:Nat):Int) > 210)))||(decide (((((r.bo.getD i2 default).rest).length:Nat):Int) > 8)))
 (.fin (.inl (.inl false)))
 (.nx 3 3 i2 (i2+1)))
 (.fin (.inl (.inr ()))))
 (fun (_:Unit)=>⟨[],[]⟩) fun _ =>
 .bind true (fun b3=>∀ k,k < r.aN.length→k < 50→(r.aN.getD k default).bG.length≤40∧(r.aN.getD k default).rules.length≤40)
 (.loop (default:Sum (Bool) (Unit)) (fun i4=>(∀ k,k < i4→(r.aN.getD k default).bG.length≤40∧(r.aN.getD k default).rules.length≤40)∧i4≤r.aN.length) (fun i4=>r.aN.length - i4) (0:Nat)
 (fun (i4:Nat)=>⟨[(4,iv (i4:Int))],[]⟩) fun i4 =>
 .Eo 1 4 r.aN.length <|
 .br ((decide ((i4:Int) < ((r.aN.length:Nat):Int)))&&(decide ((i4:Int) < 50)))
 (.r 9 (.al (.p (bN (i4:Int) r.aN.length)) (.wh (decide (((((r.aN.getD i4 default).bG).length:Nat):Int) > 40)) false (.p (bN (i4:Int) r.aN.length)))) fun _ =>
 .br ((decide (((((r.aN.getD i4 default).bG).length:Nat):Int) > 40))||(decide (((((r.aN.getD i4 default).rules).length:Nat):Int) > 40)))
 (.fin (.inl (.inl false)))
 (.nx 8 4 i4 (i4+1)))
 (.fin (.inl (.inr ()))))
 (fun (_:Unit)=>⟨[],[]⟩) fun _ =>
 .fin ((((((((decide (((r.eJ.length:Nat):Int) < 50))&&(decide (((r.bo.length:Nat):Int) < 50)))&&(decide (((r.oW.length:Nat):Int) < 50)))&&(decide (((r.bU.length:Nat):Int) < 210)))&&(decide (((r.aN.length:Nat):Int) < 50)))&&(decide (((r.bR.length:Nat):Int) < 110)))&&(decide (((r.aI.length:Nat):Int) < 110)))&&(decide (((r.gq.length:Nat):Int) < 50)))
def ac6 r:=(u1 r).val
theorem Vt (r:ah):(u1 r).cC (fun (x:Bool)=>x=true→r.Small):=by
 unfold u1
 try simp only [ai.Small,ah.Small]
 exact ET
theorem Xp (r:ah):(u1 r).a6 (fun _=>True):=by
 unfold u1
 try simp only [ai.Small,ah.Small]
 exact nF
def H3 r:=kp tok mixed Tryz.func50 [av r.cells] (fun x=>bv x) true (ac6 r) (u0 (Xp r)) (Vt r)
def u9 (f:ai):Sk (Bool) :=
 .fin ((((decide (((f.ae.length:Nat):Int)≤50))&&(decide (((f.aL.length:Nat):Int)≤10)))&&(decide (((f.aw.length:Nat):Int)≤110)))&&(decide (((f.facts.length:Nat):Int)≤220)))
def Yz f:=(u9 f).val
theorem Oc (f:ai):Yz f=((((decide (((f.ae.length:Nat):Int)≤50))&&(decide (((f.aL.length:Nat):Int)≤10)))&&(decide (((f.aw.length:Nat):Int)≤110)))&&(decide (((f.facts.length:Nat):Int)≤220))):=rfl
theorem Vu (f:ai):(u9 f).cC (fun (x:Bool)=>x=true→f.Small):=by
 unfold u9
 try simp only [ai.Small,ah.Small]
 exact ET
theorem Xq (f:ai):(u9 f).a6 (fun _=>True):=by
 unfold u9
 try simp only [ai.Small,ah.Small]
 exact od
def H4 f:=kp tok mixed Tryz.func51 [av f.cells] (fun x=>bv x) true (Yz f) (u0 (Xq f)) (Vu f)
def Jt (rv:Term→Int→Int→Int) (rp:Term→Int→Int→Prop) (rf:∀ (t:Term) (n:Int) (levels:Int),rp t n levels→eC Tryz.prog 94 [av t.cells,iv n,iv levels] [] (iv (rv t n levels)) []) (t:Term) (n:Int) (levels:Int):iI (Int):=⟨Tryz.prog,94,[av t.cells,iv n,iv levels],fun x=>iv x,true,rv t n levels,rp t n levels,rf t n levels,fun _=>True,trivial⟩
def pB (rv:Term→Int→Int→Int) (rp:Term→Int→Int→Prop) (rf:∀ (t:Term) (n:Int) (levels:Int),rp t n levels→eC Tryz.prog 94 [av t.cells,iv n,iv levels] [] (iv (rv t n levels)) []) (t:Term) (n:Int) (levels:Int):Sk (Int) :=
 .br (decide (levels < 1))
 (.fin (-1))
 (.bt
 (.loop (default:Sum (Int) (Int)) (fun i2=>i2.2≤t.args.length) (fun i2=>t.args.length - i2.2) ((au (n - 1),0):Int × Nat)
 (fun (i2:Int × Nat)=>⟨[(1,iv i2.1),(7,iv (i2.2:Int))],[]⟩) fun i2 =>
 .Eo 3 2 t.args.length <|
 .br ((decide ((i2.2:Int) < ((t.args.length:Nat):Int)))&&(decide (i2.1≥0)))
 (.r 7 (.al (.al (.p (bN (i2.2:Int) t.args.length)) (.o [.cast 26 (acH (Term.MR (t.args.getD i2.2 default)))])) ((Jt rv rp rf (t.args.getD i2.2 default) i2.1 (au (levels - 1))).c)) fun x3 =>
 .nx 6 7 i2.2 (x3,i2.2+1))
 (.fin (.inl (.inr i2.1))))
 (fun (b1:Int)=>⟨[(1,iv b1)],[]⟩) fun b1 =>
 .fin b1)
def jJ:Nat→Term→Int→Int→Int
 | 0,_,_,_=>default
 | fu+1,t,n,levels=>(pB (jJ fu) (fun _ _ _=>False) (fun _ _ _=>fun h=>h.elim) t n levels).val
theorem Vv (fu:Nat) (rf:∀ (t:Term) (n:Int) (levels:Int),t.depth≤fu∧True→eC Tryz.prog 94 [av t.cells,iv n,iv levels] [] (iv (jJ fu t n levels)) []) (t:Term) (n:Int) (levels:Int) (hm:t.depth≤fu+1):(pB (jJ fu) (fun t n levels=>t.depth≤fu∧True) rf t n levels).a6 (fun _=>True):=by
 refine Sk.aG _ ?_
 unfold pB
 simp only [Sk.gL,Sk.aA,reduceCtorEq,ON,kk,kp,Jt,maxLen]
 all_goals (repeat' first | assumption | (apply And.intro) | (intro h))
 all_goals first | trivial | assumption | omega | (refine Nat.le_of_lt_succ (Nat.lt_of_lt_of_le (Term.kN t _ (by (try simp only [LN] at *); omega)) hm)) | ((try simp only [LN] at *) <;> first | omega | (refine (ar ?_ ?_).trans ?_ <;> omega) | (simp (disch:=omega) only [ar] at *; omega) | (grind) | (simp_all; done) | (simp_all; omega))
theorem SU (fu:Nat) (rp:Term→Int→Int→Prop) (rf:∀ (t:Term) (n:Int) (levels:Int),rp t n levels→eC Tryz.prog 94 [av t.cells,iv n,iv levels] [] (iv (jJ fu t n levels)) []) (t:Term) (n:Int) (levels:Int):(pB (jJ fu) rp rf t n levels).val=jJ (fu+1) t n levels:=by kernel_rfl
theorem SV (fu:Nat):∀ (t:Term) (n:Int) (levels:Int),t.depth≤fu→eC Tryz.prog 94 [av t.cells,iv n,iv levels] [] (iv (jJ fu t n levels)) []:=by
 induction fu with
 | zero=>intro t n levels hm; exact absurd hm (by have:=Term.tQ t; omega)
 | succ fu ih =>
  intro t n levels hm
  have h:eC Tryz.prog 94 [av t.cells,iv n,iv levels] [] (iv ((pB (jJ fu) (fun t n levels=>t.depth≤fu∧True) (fun t n levels h=>ih t n levels h.1) t n levels).val)) []:=eC.sk tok mixed (fun x=>iv x) (fun _=>[]) Tryz.func94 rfl (by kernel_rfl) 3000 (pB (jJ fu) (fun t n levels=>t.depth≤fu∧True) (fun t n levels h=>ih t n levels h.1) t n levels) (by kernel_rfl) (Vv fu _ t n levels hm)
  rw [SU] at h
  exact h
def Vw (t:Term) (n:Int) (levels:Int):Int:=jJ (t.depth) t n levels
theorem Vx (t:Term) (n:Int) (levels:Int):eC Tryz.prog 94 [av t.cells,iv n,iv levels] [] (iv (Vw t n levels)) []:=SV _ t n levels (Nat.le_refl _)
def Od (t:Term) (n:Int) (levels:Int):iI (Int):=⟨Tryz.prog,94,[av t.cells,iv n,iv levels],fun x=>iv x,true,Vw t n levels,True,fun _=>Vx t n levels,fun _=>True,trivial⟩
def zd (t:Term):Sk (Bool) :=
 .r 1 ((Od t 100 20).c) fun x1 =>
 .fin (decide (x1≥0))
def ac7 t:=(zd t).val
theorem Xr (t:Term):(zd t).a6 (fun _=>True):=by
 unfold zd
 try simp only [Od]
 exact od
def Ra t:=kk tok mixed Tryz.func80 [av t.cells] (fun x=>bv x) true (zd t) (ac7 t) (u0 (Xr t))
def zf (o:Order):Sk (Bool) :=
 .br ((decide (((o.rules.length:Nat):Int) > 60))||(decide (((o.bG.length:Nat):Int) > 60)))
 (.fin false)
 (.bt
 (.loop (default:Sum (Bool) (Unit)) (fun i2=>i2≤o.rules.length) (fun i2=>o.rules.length - i2) (0:Nat)
 (fun (i2:Nat)=>⟨[(3,iv (i2:Int))],[]⟩) fun i2 =>
 .lt 1 3 i2 o.rules.length
 (.r 6 (.al (.p (bN (i2:Int) o.rules.length)) ((Ra ((o.rules.getD i2 default).term)).c)) fun x3 =>
 .br (!x3)
 (.fin (.inl (.inl false)))
 (.nx 5 3 i2 (i2+1)))
 (.fin (.inl (.inr ()))))
 (fun (_:Unit)=>⟨[],[]⟩) fun _ =>
 .fin true)
def ac8 o:=(zf o).val
theorem Xs (o:Order):(zf o).a6 (fun _=>True):=by
 unfold zf
 try simp only [Ra]
 exact nF
def H5 o:=kk tok mixed Tryz.func52 [av o.cells] (fun x=>bv x) true (zf o) (ac8 o) (u0 (Xs o))
def va (r:ah) (f:ai):Sk (Bool) :=
 .r 1 (.dep ((H3 r).c) fun x1=>.wh (!x1) false ((H4 f).c)) fun p6 =>
 .br ((!p6.1)||(!p6.2))
 (.fin false)
 (.bt
 (.loop (default:Sum (Bool) (Unit)) (fun i4=>i4≤r.aN.length) (fun i4=>r.aN.length - i4) (0:Nat)
 (fun (i4:Nat)=>⟨[(5,iv (i4:Int))],[]⟩) fun i4 =>
 .lt 2 4 i4 r.aN.length
 (.r 6 (.al (.p (bN (i4:Int) r.aN.length)) ((H5 (r.aN.getD i4 default)).c)) fun x5 =>
 .br (!x5)
 (.fin (.inl (.inl false)))
 (.nx 5 5 i4 (i4+1)))
 (.fin (.inl (.inr ()))))
 (fun (_:Unit)=>⟨[],[]⟩) fun _ =>
 .fin true)
def ac9 r f:=(va r f).val
theorem Vy (r:ah) (f:ai):(va r f).cC (fun (x:Bool)=>x=true→r.Small∧f.Small):=by
 unfold va
 try simp only [H3,H4,H5,Oc,ai.Small,ah.Small]
 exact X9
theorem Xt (r:ah) (f:ai):(va r f).a6 (fun _=>True):=by
 unfold va
 try simp only [H3,H4,H5,Oc,ai.Small,ah.Small]
 exact GD
def H6 r f:=kp tok mixed Tryz.func26 [av r.cells,av f.cells] (fun x=>bv x) true (ac9 r f) (u0 (Xt r f)) (Vy r f)
def np (n:Int) (length:Int):Sk (Bool) :=
 .fin ((decide (n≥0))&&(decide (n < length)))
def CQ n length:=(np n length).val
theorem yb (n:Int) (length:Int):CQ n length=((decide (n≥0))&&(decide (n < length))):=rfl
theorem H7 (n:Int) (length:Int):(np n length).a6 (fun _=>True):=by
 unfold np
 exact od
def dR n length:=kk tok mixed Tryz.func75 [iv n,iv length] (fun x=>bv x) true (np n length) (CQ n length) (u0 (H7 n length))
def nr (b:qA):Sk (Bool) :=
 .bind false (fun _=>True)
 (.br (b.da.kind == 0)
 (.fin (.inr (b.da.kind == 0)))
 (.fin (.inr (b.da.kind == 4))))
 (fun (b1:Bool)=>⟨[(8,bv b1)],[]⟩) fun b1 =>
 .br b1
 (.fin ((b.da.n == 0)&&(b.da.unit == 0)))
 (.bind false (fun _=>True)
 (.br (b.da.kind == 1)
 (.fin (.inr (b.da.kind == 1)))
 (.fin (.inr (b.da.kind == 2))))
 (fun (b2:Bool)=>⟨[(19,bv b2)],[]⟩) fun b2 =>
 .br b2
 (.fin (((decide (b.da.n≥1))&&(decide (b.da.n≤400)))&&((b.da.unit == 0)||(b.da.unit == 1))))
 (.br (b.da.kind == 3)
 (.fin (((decide (b.da.n≥b.day))&&(decide (b.da.n≤100000)))&&(b.da.unit == 0)))
 (.fin false)))
def Qa b:=(nr b).val
theorem H8 (b:qA):(nr b).a6 (fun _=>True):=by
 unfold nr
 exact od
def sO b:=kk tok mixed Tryz.func76 [av b.cells] (fun x=>bv x) true (nr b) (Qa b) (u0 (H8 b))
def kx (r:ah) (b:qA):Sk (Int) :=
 .r 1 ((fT r).c) fun x1 =>
 .br (x1 != 0)
 (.fin x1)
 (.r 5 (.dep ((dR b.Ap ((r.bU.length:Nat):Int)).c) fun x2=>.dep (.wh x2 true ((dR b.qT ((r.bU.length:Nat):Int)).c)) fun x3=>.dep (.wh (x2&&x3) true (.wh (b.eH == (-1)) false ((dR b.eH ((r.bU.length:Nat):Int)).c))) fun x4=>.wh ((x2&&x3)&&((b.eH == (-1))||x4)) true (.wh (b.need == (-1)) false ((dR b.need ((r.bU.length:Nat):Int)).c))) fun Vz =>
 .r 6 (.dep (.wh (!(((Vz.1&&Vz.2.1)&&((b.eH == (-1))||Vz.2.2.1))&&((b.need == (-1))||Vz.2.2.2))) false ((dR b.aE ((r.eJ.length:Nat):Int)).c)) fun x6=>.dep (.wh ((!(((Vz.1&&Vz.2.1)&&((b.eH == (-1))||Vz.2.2.1))&&((b.need == (-1))||Vz.2.2.2)))||(!x6)) false ((dR b.bK ((r.bo.length:Nat):Int)).c)) fun x7=>.wh (((!(((Vz.1&&Vz.2.1)&&((b.eH == (-1))||Vz.2.2.1))&&((b.need == (-1))||Vz.2.2.2)))||(!x6))||(!x7)) false ((dR b.JK ((r.bo.length:Nat):Int)).c)) fun GF =>
 .br ((((!(((Vz.1&&Vz.2.1)&&((b.eH == (-1))||Vz.2.2.1))&&((b.need == (-1))||Vz.2.2.2)))||(!GF.1))||(!GF.2.1))||(!GF.2.2))
 (.fin 1)
 (.br ((((((decide (b.sum < 1))||(decide (b.sum > 1099511627776)))||(decide (b.day < 0)))||(decide (b.day > 100000)))||(decide (b.pF < 0)))||(decide (b.pF > 1000)))
 (.fin 3)
 (.br ((decide (b.parts < 1))||(decide (b.parts > 4)))
 (.fin 15)
 (.r 12 (.wh (((decide (b.flags < 0))||(decide (b.flags > 7)))||(((aD .i64 b.flags 4) != 0)&&(b.eH == (-1)))) false ((sO b).c)) fun x9 =>
 .br ((((decide (b.flags < 0))||(decide (b.flags > 7)))||(((aD .i64 b.flags 4) != 0)&&(b.eH == (-1))))||(!x9))
 (.fin 2)
 (.br (b.da.kind == 4)
 (.r 15 ((mD r b.bK b.JK).c) fun JN =>
 .fin JN.2)
 (.fin 0))))))
def CR r b:=(kx r b).val
theorem FT (r:ah) (b:qA):(kx r b).cC (fun (x:Int)=>x=0→Uy r b∧(b.eH = -1∨(0≤b.eH∧b.eH < r.bU.length))):=by
 unfold kx
 try simp only [fT,mD,dR,sO,yb,ai.Small,ah.Small,ah.bD,ah.fb,ah.fD,ah.cp]
 exact X9
theorem H9 (r:ah) (b:qA) (aO:r.Small):(kx r b).a6 (fun _=>True):=by
 simp only [ai.Small,ah.Small,ah.bD,ah.fb,ah.fD,ah.cp] at aO
 unfold kx
 try simp only [fT,mD,dR,sO,yb,ai.Small,ah.Small,ah.bD,ah.fb,ah.fD,ah.cp]
 exact GD
def oO r b:=kp tok mixed Tryz.func45 [av r.cells,av b.cells] (fun x=>iv x) true (CR r b) (H9 r b) (FT r b)
def wb (n:Int) (low:Int) (high:Int):Sk (Bool) :=
 .fin ((decide (n≥low))&&(decide (n≤high)))
def VA n low high:=(wb n low high).val
theorem dC (n:Int) (low:Int) (high:Int):VA n low high=((decide (n≥low))&&(decide (n≤high))):=rfl
theorem VB (n:Int) (low:Int) (high:Int):(wb n low high).a6 (fun _=>True):=by
 unfold wb
 exact od
def aY n low high:=kk tok mixed Tryz.func47 [iv n,iv low,iv high] (fun x=>bv x) true (wb n low high) (VA n low high) (u0 (VB n low high))
def oP (f:ai) (i:Int) (part:Int):Sk (Bool) :=
 .r 1 (.wh (i == 0) false (.p (bN i f.ae.length))) fun _ =>
 .fin ((i == 0)||(((f.ae.getD i.toNat default).part) == part))
def SW f i part:=(oP f i part).val
theorem KI (f:ai) (i:Int) (part:Int) (hi:i=0∨(0≤i∧i < (f.ae.length:Int))):(oP f i part).a6 (fun _=>True):=by
 unfold oP
 exact nF
def ky f i part:=kk tok mixed Tryz.func93 [av f.cells,iv i,iv part] (fun x=>bv x) true (oP f i part) (SW f i part) (KI f i part)
def kz (f:ai) (i:Int) (kinds:List Int):Sk (Bool) :=
 .r 1 (.p (bN i f.ae.length)) fun _ =>
 .r 2 (.dep ((aY ((f.ae.getD i.toNat default).for_) 0 (au (i - 1))).c) fun x1=>.al (.wh x1 true (.p (bN i f.ae.length))) (.dep (.wh x1 true ((ky f ((f.ae.getD i.toNat default).for_) ((f.ae.getD i.toNat default).part)).c)) fun x2=>.al (.wh (x1&&x2) true (.p (bN ((f.ae.getD i.toNat default).for_) f.ae.length))) (.wh (x1&&x2) true ((aC kinds ((f.ae.getD (((f.ae.getD i.toNat default).for_).toNat) default).kind)).c)))) fun p4 =>
 .fin ((p4.1&&p4.2.1)&&p4.2.2)
def Ju f i kinds:=(kz f i kinds).val
theorem KJ (f:ai) (i:Int) (kinds:List Int) (hP:(0≤i∧i < (f.ae.length:Int))∧f.ae.length≤40):(kz f i kinds).cC (fun (x:Bool)=>x=true→0≤(f.ae.getD i.toNat default).for_∧(f.ae.getD i.toNat default).for_ < i):=by
 unfold kz
 try simp only [aY,ky,aC,dC]
 exact X9
theorem Ia (f:ai) (i:Int) (kinds:List Int):(fun (x:Bool)=>((0≤i∧i < (f.ae.length:Int))∧f.ae.length≤40)→(x=true→0≤(f.ae.getD i.toNat default).for_∧(f.ae.getD i.toNat default).for_ < i)) (Ju f i kinds):=fun hP=>Sk.cI _ (KJ f i kinds hP)
theorem Oe (f:ai) (i:Int) (kinds:List Int) (hi:0≤i∧i < (f.ae.length:Int)) (hf:f.ae.length≤1000000):(kz f i kinds).a6 (fun _=>True):=by
 unfold kz
 try simp only [aY,ky,aC,dC]
 exact GD
def rM f i kinds:=kk tok mixed Tryz.func92 [av f.cells,iv i,lv bS kinds] (fun x=>bv x) true (kz f i kinds) (Ju f i kinds) (u2 (Oe f i kinds)) (fun (x:Bool)=>((0≤i∧i < (f.ae.length:Int))∧f.ae.length≤40)→(x=true→0≤(f.ae.getD i.toNat default).for_∧(f.ae.getD i.toNat default).for_ < i)) (Ia f i kinds)
def lG (r:ah) (f:ai) (i:Int):Sk (Bool) :=
 .r 1 (.p (bN i f.ae.length)) fun _ =>
 .br ((!((i == 0) == (((f.ae.getD i.toNat default).kind) == 0)))||((((f.ae.getD i.toNat default).kind) != 2)&&(((f.ae.getD i.toNat default).cw) != (-1))))
 (.fin false)
 (.br (((((f.ae.getD i.toNat default).kind) != 3)&&(((f.ae.getD i.toNat default).kind) != 4))&&(((f.ae.getD i.toNat default).for_) != (-1)))
 (.fin false)
 (.r 7 ((aY ((f.ae.getD i.toNat default).sum) 1 1099511627776).c) fun x1 =>
 .br (((f.ae.getD i.toNat default).kind) == 0)
 (.fin ((((((((f.ae.getD i.toNat default).dS) == f.aX.Ap)&&(((f.ae.getD i.toNat default).sum) == 0))&&((VR .i64 ((f.ae.getD i.toNat default).flags) 1) == 1))&&(((f.ae.getD i.toNat default).part) == 0))&&(((f.ae.getD i.toNat default).day) == f.aX.day))&&(((f.ae.getD i.toNat default).bK) == f.aX.bK)))
 (.br (((f.ae.getD i.toNat default).kind) == 1)
 (.fin ((((f.ae.getD i.toNat default).dS) == f.aX.qT)&&(x1&&(((f.ae.getD i.toNat default).flags) == 0))))
 (.br (((f.ae.getD i.toNat default).kind) == 2)
 (.r 15 (.dep ((aY ((f.ae.getD i.toNat default).cw) (-1) (au (((r.bU.length:Nat):Int) - 1))).c) fun x2=>.wh (x2&&(((f.ae.getD i.toNat default).sum) == 0)) true ((aY ((f.ae.getD i.toNat default).flags) 0 7).c)) fun p4 =>
 .fin (((p4.1&&(((f.ae.getD i.toNat default).sum) == 0))&&p4.2)&&((aD .i64 ((f.ae.getD i.toNat default).flags) 6) != 6)))
 (.br (((f.ae.getD i.toNat default).kind) == 3)
 (.r 17 (.al (.wh ((((f.ae.getD i.toNat default).sum) == 0)&&(((f.ae.getD i.toNat default).flags) == 0)) true (.o [.dn (dH dV [0,1,2,4])])) (.wh ((((f.ae.getD i.toNat default).sum) == 0)&&(((f.ae.getD i.toNat default).flags) == 0)) true ((rM f i [0,1,2,4]).c))) fun x5 =>
 .fin (((((f.ae.getD i.toNat default).sum) == 0)&&(((f.ae.getD i.toNat default).flags) == 0))&&x5))
 (.br (((f.ae.getD i.toNat default).kind) == 4)
 (.r 19 (.al (.wh ((x1&&(((f.ae.getD i.toNat default).flags) == 0))&&(((f.ae.getD i.toNat default).dS) != f.aX.qT)) true (.o [.dn (dH dV [0,2])])) (.wh ((x1&&(((f.ae.getD i.toNat default).flags) == 0))&&(((f.ae.getD i.toNat default).dS) != f.aX.qT)) true ((rM f i [0,2]).c))) fun x6 =>
 .fin (((x1&&(((f.ae.getD i.toNat default).flags) == 0))&&(((f.ae.getD i.toNat default).dS) != f.aX.qT))&&x6))
 (.fin false)))))))
def Og r f i:=(lG r f i).val
theorem Oh (r:ah) (f:ai) (i:Int) (hP:(0≤i∧i < (f.ae.length:Int))∧f.ae.length≤40∧r.bU.length≤200):(lG r f i).cC (fun (x:Bool)=>x=true→MS f i.toNat∧ToQ r f i.toNat):=by
 refine Sk.aP _ ?_
 unfold lG
 simp only [Sk.ct,Sk.aA,reduceCtorEq,ON,kk,kp,rM,aY,dC,forall_eq,maxLen]
 intro _ h1 h2
 obtain ⟨hi,hn,hr⟩:=hP
 have hw:au ((r.bU.length:Int) - 1)=(r.bU.length:Int) - 1:=ar (by omega) (by omega)
 rw [hw]
 unfold MS ToQ nL
 generalize f.ae.getD i.toNat default=s at *
 have Qq:(s.kind=0↔i.toNat=0)∧(s.kind=2∨s.cw = -1):=by
  by_cases a:i=0 <;> by_cases b:s.kind=0 <;> simp [a,b] at h1 ⊢ <;> omega
 clear h1
 obtain ⟨q1,q2⟩:=Qq
 refine ⟨fun k0 h=>?_,fun k0=>⟨fun k1 h=>?_,fun k1=>⟨fun k2 h=>?_,fun k2=>⟨fun k3 hb h=>?_,fun k3 k4 hb h=>?_⟩⟩⟩⟩
 all_goals simp only [LN] at *
 ·exact ⟨⟨by omega,by omega,q1,by omega⟩,by omega⟩
 ·exact ⟨⟨by omega,by omega,q1,by omega⟩,by omega⟩
 ·exact ⟨⟨by omega,by omega,q1,by omega⟩,by omega⟩
 ·have:=hb ⟨hi,hn⟩ h.2
  exact ⟨⟨by omega,by omega,q1,fun _=>by omega⟩,by omega⟩
 ·have:=hb ⟨hi,hn⟩ h.2
  exact ⟨⟨by omega,by omega,q1,fun _=>by omega⟩,by omega⟩
theorem KK (r:ah) (f:ai) (i:Int):(fun (x:Bool)=>((0≤i∧i < (f.ae.length:Int))∧f.ae.length≤40∧r.bU.length≤200)→(x=true→MS f i.toNat∧ToQ r f i.toNat)) (Og r f i):=fun hP=>Sk.cI _ (Oh r f i hP)
theorem Qb (r:ah) (f:ai) (i:Int) (hi:0≤i∧i < (f.ae.length:Int)) (hf:f.ae.length≤1000000):(lG r f i).a6 (fun _=>True):=by
 unfold lG
 try simp only [rM,aY,dC]
 exact GD
def zg r f i:=kk tok mixed Tryz.func78 [av r.cells,av f.cells,iv i] (fun x=>bv x) true (lG r f i) (Og r f i) (u2 (Qb r f i)) (fun (x:Bool)=>((0≤i∧i < (f.ae.length:Int))∧f.ae.length≤40∧r.bU.length≤200)→(x=true→MS f i.toNat∧ToQ r f i.toNat)) (KK r f i)
theorem Rb {α:Type} [Inhabited α] (L:List α) (n i:Nat) (h:i < n):(fa L 0 n).getD i default=L.getD i default:=by
 simp [fa,List.getD,h]
def lH (r:ah) (f:ai) (i:Int):Sk (Int) :=
 .r 1 (.p (bN i f.ae.length)) fun _ =>
 .r 2 ((aY ((f.ae.getD i.toNat default).part) 0 (au (f.aX.parts - 1))).c) fun x1 =>
 .br (!x1)
 (.fin 15)
 (.r 4 (.dep ((aY ((f.ae.getD i.toNat default).dS) 0 (au (((r.bU.length:Nat):Int) - 1))).c) fun x2=>.wh (!x2) false ((aY ((f.ae.getD i.toNat default).bK) 0 (au (((r.bo.length:Nat):Int) - 1))).c)) fun p8 =>
 .br ((!p8.1)||(!p8.2))
 (.fin 1)
 (.r 7 (.al (.o [.dn (aa0 Sign.E f.ae 0 i.toNat)]) (.pt (0≤i∧i≤((f.ae.length:Nat):Int)) (Sign.E.lens f.ae))) fun _ =>
 .bind true (fun b4=>b4.1=(if i.toNat=0 then f.aX.day else (f.ae.getD (i.toNat - 1) default).day))
 (.loop (default:Sum (Int) (Int × Bool)) (fun i5=>i5.2.2≤i.toNat∧i5.1=(if i5.2.2=0 then f.aX.day else (f.ae.getD (i5.2.2 - 1) default).day)) (fun i5=>(fa f.ae 0 i.toNat).length - i5.2.2) ((f.aX.day,false,0):Int × Bool × Nat)
 (fun (i5:Int × Bool × Nat)=>⟨[(8,iv i5.1),(9,bv i5.2.1),(51,iv (i5.2.2:Int))],[]⟩) fun i5 =>
 .lt 49 0 i5.2.2 ((fa f.ae 0 i.toNat).length)
 (.r 9 (.p (bN (i5.2.2:Int) ((fa f.ae 0 i.toNat).length))) fun _ =>
 .r 12 .z fun _ =>
 .wi 51 (au ((i5.2.2:Int)+1)) ((i5.2.2+1:Nat):Int) <|
 .fin (.inr (((fa f.ae 0 i.toNat).getD i5.2.2 default).day,i5.2.1||(((((f.ae.getD i.toNat default).kind) == 1)&&((((fa f.ae 0 i.toNat).getD i5.2.2 default).kind) == 1))&&((((fa f.ae 0 i.toNat).getD i5.2.2 default).part) == ((f.ae.getD i.toNat default).part))),i5.2.2+1)))
 (.fin (.inl (.inr (i5.1,i5.2.1)))))
 (fun (b4:Int × Bool)=>⟨[(8,iv b4.1),(9,bv b4.2)],[]⟩) fun b4 =>
 .r 13 ((aY ((f.ae.getD i.toNat default).day) b4.1 100000).c) fun x6 =>
 .br ((!x6)||((i == 0)&&(((f.ae.getD i.toNat default).day) != b4.1)))
 (.fin 13)
 (.r 15 ((zg r f i).c) fun x7 =>
 .br (!x7)
 (.fin 14)
 (.br b4.2
 (.fin 5)
 (.fin 0)))))
def zh r f i:=(lH r f i).val
theorem Oi (r:ah) (f:ai) (i:Int) (hP:(0≤i∧i < (f.ae.length:Int))∧f.ae.length≤40∧r.bU.length≤200∧Uy r f.aX):(lH r f i).cC (fun (x:Int)=>x=0→MT r f i.toNat∧ToQ r f i.toNat):=by
 refine Sk.aP _ ?_
 unfold lH
 simp only [Sk.ct,Sk.aA,reduceCtorEq,ON,kk,kp,zg,aY,dC,forall_eq,ai.Small,ah.Small,maxLen]
 intro _
 obtain ⟨hi,hn,hr,hB⟩:=hP
 have hB2:=hB.2.2.2.1
 refine ⟨fun _ h=>absurd h (by decide),fun abT=>⟨fun _ h=>absurd h (by decide),fun aeW _=>⟨⟨⟨by omega,by simp⟩,fun k hk=>⟨fun hc _ _=>⟨⟨?_,?_⟩,?_⟩,fun hc=>?_⟩⟩,fun b hb=>⟨fun _ h=>absurd h (by decide),fun hd hF=>⟨fun _ h=>absurd h (by decide),fun hf=>⟨fun _ h=>absurd h (by decide),fun _=>?_⟩⟩⟩⟩⟩⟩
 all_goals (try simp only [LN] at hc)
 ·omega
 ·rw [Rb _ _ _ (by omega),if_neg (by simp)]; rfl
 ·simp only [pj] at hc ⊢; omega
 ·have e:k.2.2=i.toNat:=by omega
  rw [hk.2,e]
 ·have hF:=hF ⟨hi,hn,hr⟩ (by simpa using hf)
  simp only [LN] at abT aeW hd
  obtain ⟨⟨w1,w2⟩,_⟩:=aeW
  obtain ⟨⟨d1,d2⟩,d3⟩:=hd
  rw [ar (by omega) (by omega)] at w2 abT
  refine ⟨⟨⟨w1,by omega⟩,fun h0=>?_,d2,fun h0=>?_,abT,hF.1⟩,hF.2⟩
  ·rw [if_neg h0] at hb
   rw [← hb]; exact d1
  ·rw [if_pos h0] at hb
   rw [← hb]
   rcases d3 with d3 | d3
   ·omega
   ·exact d3
theorem KL (r:ah) (f:ai) (i:Int):(fun (x:Int)=>((0≤i∧i < (f.ae.length:Int))∧f.ae.length≤40∧r.bU.length≤200∧Uy r f.aX)→(x=0→MT r f i.toNat∧ToQ r f i.toNat)) (zh r f i):=fun hP=>Sk.cI _ (Oi r f i hP)
theorem Qc (r:ah) (f:ai) (i:Int) (hi:0≤i∧i < (f.ae.length:Int)) (hf:f.ae.length≤1000000) (hr:r.Small):(lH r f i).a6 (fun _=>True):=by
 simp only [ai.Small,ah.Small] at hr
 refine Sk.aG _ ?_
 unfold lH
 simp only [Sk.gL,Sk.aA,reduceCtorEq,ON,kk,kp,zg,aY,dC,forall_eq,ai.Small,ah.Small,maxLen]
 refine ⟨hi,fun _ hp aeW=>⟨⟨hi.1,by omega⟩,fun _=>⟨⟨⟨by omega,by simp⟩,fun k hk hl=>⟨fun hc=>⟨⟨by omega,of_decide_eq_true hc⟩,fun _ _=>⟨?_,⟨⟨?_,?_⟩,?_⟩⟩⟩,fun hc=>?_⟩⟩,?_⟩⟩⟩
 all_goals (try simp only [LN] at hc)
 ·exact ar (by simp only [pj] at hl; omega) (by simp only [pj] at hl; omega)
 ·omega
 ·rw [Rb _ _ _ (by omega),if_neg (by simp)]; rfl
 ·simp only [pj] at hc ⊢; omega
 ·have e:k.2.2=i.toNat:=by omega
  rw [hk.2,e]
 ·intro b hb hd
  exact ⟨hi,hf⟩
def tF r f i:=kk tok mixed Tryz.func46 [av r.cells,av f.cells,iv i] (fun x=>iv x) true (lH r f i) (zh r f i) (u3 (Qc r f i)) (fun (x:Int)=>((0≤i∧i < (f.ae.length:Int))∧f.ae.length≤40∧r.bU.length≤200∧Uy r f.aX)→(x=0→MT r f i.toNat∧ToQ r f i.toNat)) (KL r f i)
def nw (r:ah) (f:ai) (a:ba):Sk (Bool) :=
 .r 1 (.dep ((aY a.at_ 0 (au (((f.ae.length:Nat):Int) - 1))).c) fun x1=>.wh x1 true ((ky f a.at_ a.part).c)) fun GF =>
 .r 2 (.wh (GF.1&&GF.2) true (.p (bN a.at_ f.ae.length))) fun _ =>
 .r 3 ((aY a.cw 0 (au (((r.bU.length:Nat):Int) - 1))).c) fun x3 =>
 .r 4 ((aY a.dS 0 (au (((r.bU.length:Nat):Int) - 1))).c) fun x4 =>
 .br ((!x4)||((a.kind != 4)&&(a.form != 0)))
 (.fin false)
 (.bind false (fun _=>True)
 (.br (a.kind == 0)
 (.fin (.inr (a.kind == 0)))
 (.br (a.kind == 1)
 (.fin (.inr (a.kind == 1)))
 (.fin (.inr (a.kind == 2)))))
 (fun (b5:Bool)=>⟨[(65,bv b5)],[]⟩) fun b5 =>
 .br b5
 (.fin ((x3&&(a.at_ == (-1)))&&(a.sum == 0)))
 (.bind false (fun _=>True)
 (.br (a.kind == 3)
 (.fin (.inr (a.kind == 3)))
 (.br (a.kind == 5)
 (.fin (.inr (a.kind == 5)))
 (.fin (.inr (a.kind == 4)))))
 (fun (b6:Bool)=>⟨[(80,bv b6)],[]⟩) fun b6 =>
 .br b6
 (.r 14 (.dep (.wh (x3&&(a.at_ == (-1))) true ((aY a.sum 0 1099511627776).c)) fun x7=>.wh ((x3&&(a.at_ == (-1)))&&x7) true ((aY a.form 0 1).c)) fun p9 =>
 .fin (((x3&&(a.at_ == (-1)))&&p9.1)&&p9.2))
 (.br (a.kind == 6)
 (.r 16 (.wh (x3&&((GF.1&&GF.2)&&(((f.ae.getD a.at_.toNat default).dS) == a.dS))) true ((aY a.sum 1 1099511627776).c)) fun JN =>
 .fin ((x3&&((GF.1&&GF.2)&&(((f.ae.getD a.at_.toNat default).dS) == a.dS)))&&JN))
 (.br (a.kind == 9)
 (.fin (((a.cw == (-1))&&((GF.1&&GF.2)&&(((f.ae.getD a.at_.toNat default).dS) == a.dS)))&&(a.sum == 0)))
 (.fin (((a.cw == (-1))&&(GF.1&&GF.2))&&(a.sum == 0)))))))
def Rc r f a:=(nw r f a).val
theorem Qd (r:ah) (f:ai) (a:ba) (hP:f.ae.length≤40):(nw r f a).cC (fun (x:Bool)=>x=true→(a.at_ = -1∨(0≤a.at_∧a.at_ < (f.ae.length:Int)))∧nL a.sum∧(a.kind=6→0≤a.at_∧(f.ae.getD a.at_.toNat default).dS=a.dS)):=by
 unfold nw
 try simp only [aY,ky,dC]
 exact X9
theorem Oj (r:ah) (f:ai) (a:ba):(fun (x:Bool)=>(f.ae.length≤40)→(x=true→(a.at_ = -1∨(0≤a.at_∧a.at_ < (f.ae.length:Int)))∧nL a.sum∧(a.kind=6→0≤a.at_∧(f.ae.getD a.at_.toNat default).dS=a.dS))) (Rc r f a):=fun hP=>Sk.cI _ (Qd r f a hP)
theorem SX (r:ah) (f:ai) (a:ba) (hf:f.ae.length≤1000000):(nw r f a).a6 (fun _=>True):=by
 unfold nw
 try simp only [aY,ky,dC]
 exact GD
def Ba r f a:=kk tok mixed Tryz.func79 [av r.cells,av f.cells,av a.cells] (fun x=>bv x) true (nw r f a) (Rc r f a) (SX r f a) (fun (x:Bool)=>(f.ae.length≤40)→(x=true→(a.at_ = -1∨(0≤a.at_∧a.at_ < (f.ae.length:Int)))∧nL a.sum∧(a.kind=6→0≤a.at_∧(f.ae.getD a.at_.toNat default).dS=a.dS))) (Oj r f a)
end
section
open Go Go.Av
def lI (r:ah) (f:ai):Sk (Int) :=
 .bind true (fun b1=>∀ q,q < f.aw.length→G7 f q)
 (.loop (default:Sum (Int) (Unit)) (fun i2=>i2≤f.aw.length∧∀ q,q < i2→G7 f q) (fun i2=>f.aw.length - i2) (0:Nat)
 (fun (i2:Nat)=>⟨[(11,iv (i2:Int))],[]⟩) fun i2 =>
 .lt 9 0 i2 f.aw.length
 (.r 3 (.p (bN (i2:Int) f.aw.length)) fun _ =>
 .r 4 ((aY ((f.aw.getD i2 default).part) 0 (au (f.aX.parts - 1))).c) fun x3 =>
 .br (!x3)
 (.fin (.inl (.inl 15)))
 (.r 6 (.dep ((aY ((f.aw.getD i2 default).bK) 0 (au (((r.bo.length:Nat):Int) - 1))).c) fun x4=>.wh (!x4) false ((aY ((f.aw.getD i2 default).kind) 0 9).c)) fun UI =>
 .br ((!UI.1)||(!UI.2))
 (.fin (.inl (.inl 1)))
 (.r 8 ((Ba r f (f.aw.getD i2 default)).c) fun x6 =>
 .br (!x6)
 (.fin (.inl (.inl 14)))
 (.bind false (fun b7=>f.aX.day≤b7∧(0≤(f.aw.getD i2 default).at_→(f.ae.getD (f.aw.getD i2 default).at_.toNat default).day≤b7))
 (.br (((f.aw.getD i2 default).at_) != (-1))
 (.r 12 (.p (bN ((f.aw.getD i2 default).at_) f.ae.length)) fun _ =>
 .fin (.inr (bW f.aX.day ((f.ae.getD (((f.aw.getD i2 default).at_).toNat) default).day))))
 (.fin (.inr f.aX.day)))
 (fun (b7:Int)=>⟨[(7,iv b7)],[]⟩) fun b7 =>
 .bind false (fun b8=>f.aX.day≤b8∧(0≤(f.aw.getD i2 default).at_→(f.ae.getD (f.aw.getD i2 default).at_.toNat default).day≤b8)∧(i2≠0→(f.aw.getD (i2 - 1) default).day≤b8))
 (.br (decide ((i2:Int) > 0))
 (.r 14 (.p (bN (au ((i2:Int) - 1)) f.aw.length)) fun _ =>
 .fin (.inr (bW b7 ((f.aw.getD ((au ((i2:Int) - 1)).toNat) default).day))))
 (.fin (.inr b7)))
 (fun (b8:Int)=>⟨[(7,iv b8)],[]⟩) fun b8 =>
 .r 15 ((aY ((f.aw.getD i2 default).day) b8 100000).c) fun x9 =>
 .br (!x9)
 (.fin (.inl (.inl 13)))
 (.nx 17 11 i2 (i2+1))))))
 (.fin (.inl (.inr ()))))
 (fun (_:Unit)=>⟨[],[]⟩) fun _ =>
 .fin 0
def vd r f:=(lI r f).val
theorem Ol (r:ah) (f:ai) (hP:f.ae.length≤40∧f.aw.length≤100):(lI r f).cC (fun (x:Int)=>x=0→∀ q,q < f.aw.length→G7 f q):=by
 refine Sk.aP _ ?_
 unfold lI
 simp only [Sk.ct,Sk.aA,reduceCtorEq,ON,kk,kp,Ba,aY,dC,forall_eq,maxLen]
 obtain ⟨hf,ha⟩:=hP
 refine ⟨⟨⟨by omega,fun q hq=>absurd hq (by omega)⟩,fun k hk=>⟨fun hc _=>⟨fun _ h=>absurd h (by decide),fun _=>⟨fun _ h=>absurd h (by decide),fun _ ada=>⟨fun _ h=>absurd h (by decide),fun ha2=>⟨⟨fun _ _=>⟨?_,fun _=>?_⟩,fun rl=>⟨Int.le_refl _,fun h=>?_⟩⟩,fun b _ hb=>⟨⟨fun Qq _=>⟨?_,fun h=>?_,fun _=>?_⟩,fun Qq=>⟨hb.1,hb.2,fun h=>?_⟩⟩,fun c _ QA=>⟨fun _ h=>absurd h (by decide),fun hd _=>⟨⟨?_,fun q hq=>?_⟩,?_⟩⟩⟩⟩⟩⟩⟩,fun hc q hq=>hk.2 q (by simp only [LN] at hc; omega)⟩⟩,?_⟩
 all_goals (try simp only [LN] at hc)
 ·unfold bW; omega
 ·unfold bW; omega
 ·simp only [LN] at rl; omega
 ·have:=hb.1; unfold bW; omega
 ·have:=hb.2 h; unfold bW; omega
 ·simp only [LN] at Qq
  have e:(au ((k:Int) - 1)).toNat=k - 1:=by rw [ar (by omega) (by omega)]; omega
  rw [e]; unfold bW; omega
 ·simp only [LN] at Qq; omega
 ·omega
 ·simp only [LN] at hd
  by_cases e:q=k
  ·subst e
   have A:=ada hf (by simpa using ha2)
   exact ⟨A.2.1,⟨by omega,hd.2⟩,fun h=>by have:=QA.2.2 h; omega,fun h6=>⟨⟨(A.2.2 h6).1,by have:=(A.2.2 h6).1; have:=A.1; omega⟩,by have:=QA.2.1 (A.2.2 h6).1; omega,(A.2.2 h6).2⟩⟩
  ·exact hk.2 q (by omega)
 ·omega
 ·first | exact fun _ hb=>hb | exact fun _ hb _=>hb | trivial
theorem KM (r:ah) (f:ai):(fun (x:Int)=>(f.ae.length≤40∧f.aw.length≤100)→(x=0→∀ q,q < f.aw.length→G7 f q)) (vd r f):=fun hP=>Sk.cI _ (Ol r f hP)
theorem Qe (r:ah) (f:ai) (hf:f.ae.length≤40) (ha:f.aw.length≤1000000):(lI r f).a6 (fun _=>True):=by
 refine Sk.aG _ ?_
 unfold lI
 simp only [Sk.gL,Sk.aA,reduceCtorEq,ON,kk,kp,Ba,aY,dC,forall_eq,maxLen]
 refine ⟨⟨by omega,fun q hq=>absurd hq (by omega)⟩,fun k hk hl=>⟨fun hc=>⟨⟨by omega,of_decide_eq_true hc⟩,fun _ _ _=>⟨by omega,fun ada ha2=>⟨⟨fun rl=>⟨?_,fun _=>⟨?_,fun _=>?_⟩⟩,fun rl=>⟨Int.le_refl _,fun h=>?_⟩⟩,fun b _ hb=>⟨⟨fun Qq=>⟨⟨?_,?_⟩,fun _=>⟨?_,fun h=>?_,fun _=>?_⟩⟩,fun Qq=>⟨hb.1,hb.2,fun h=>?_⟩⟩,fun c _ QA hd _=>⟨?_,⟨?_,fun q hq=>?_⟩,?_⟩⟩⟩⟩⟩,fun hc q hq=>hk.2 q (by simp only [LN] at hc; omega)⟩⟩
 all_goals (try simp only [LN] at hc)
 ·simp only [LN] at rl
  have:=(ada hf (by simpa using ha2)).1
  omega
 ·unfold bW; omega
 ·unfold bW; omega
 ·simp only [LN] at rl; omega
 ·simp only [LN] at Qq; rw [ar (by omega) (by omega)]; omega
 ·simp only [LN] at Qq; rw [ar (by omega) (by omega)]; omega
 ·have:=hb.1; unfold bW; omega
 ·have:=hb.2 h; unfold bW; omega
 ·simp only [LN] at Qq
  have e:(au ((k:Int) - 1)).toNat=k - 1:=by rw [ar (by omega) (by omega)]; omega
  rw [e]; unfold bW; omega
 ·simp only [LN] at Qq; omega
 ·exact ar (by omega) (by omega)
 ·omega
 ·simp only [LN] at hd
  by_cases e:q=k
  ·subst e
   have A:=ada hf (by simpa using ha2)
   exact ⟨A.2.1,⟨by omega,hd.2⟩,fun h=>by have:=QA.2.2 h; omega,fun h6=>⟨⟨(A.2.2 h6).1,by have:=(A.2.2 h6).1; have:=A.1; omega⟩,by have:=QA.2.1 (A.2.2 h6).1; omega,(A.2.2 h6).2⟩⟩
  ·exact hk.2 q (by omega)
 ·omega
def tG r f:=kk tok mixed Tryz.func48 [av r.cells,av f.cells] (fun x=>iv x) true (lI r f) (vd r f) (u2 (Qe r f)) (fun (x:Int)=>(f.ae.length≤40∧f.aw.length≤100)→(x=0→∀ q,q < f.aw.length→G7 f q)) (KM r f)
def FLt (x y:Fact):Prop:=x.at_ < y.at_∨(x.at_=y.at_∧x.kind < y.kind)
def YA (n:Nat) (x:Fact):Prop:=(0≤x.kind∧x.kind≤4)∧(0≤x.at_∧x.at_ < (n:Int))∧(x.n=0∨x.n=1)
def LO (n:Nat) (F:List Fact):Prop:=(∀ x,x∈F→YA n x)∧F.Pairwise FLt
theorem LO.push {n:Nat} {F:List Fact} {i:Nat} (h:LO n (F.take i)) (hi:i < F.length) (hx:YA n (F.getD i default)) (hl:i≠0→FLt (F.getD (i - 1) default) (F.getD i default)):LO n (F.take (i+1)):=by
 have e:F.getD i default=F[i]:=by simp [List.getD,hi]
 rw [e] at hx hl
 rw [List.take_succ_eq_append_getElem hi]
 refine ⟨fun x hm=>?_,List.pairwise_append.2 ⟨h.2,List.pairwise_singleton _ _,fun a ha b hb=>?_⟩⟩
 ·rcases List.mem_append.1 hm with hm | hm
  ·exact h.1 x hm
  ·rw [List.mem_singleton] at hm; rw [hm]; exact hx
 ·rw [List.mem_singleton] at hb
  subst hb
  by_cases h0:i=0
  ·subst h0; simp at ha
  ·have hl:=hl h0
   have e2:F.getD (i - 1) default=F[i - 1]:=by simp [List.getD,show i - 1 < F.length by omega]
   rw [e2] at hl
   have e3:F.take i=F.take (i - 1)++[F[i - 1]]:=by
    have:=List.take_succ_eq_append_getElem (show i - 1 < F.length by omega)
    rwa [show i - 1+1=i by omega] at this
   rw [e3] at ha
   rcases List.mem_append.1 ha with ha | ha
   ·have hp:=h.2
    rw [e3] at hp
    have:=(List.pairwise_append.1 hp).2.2 a ha F[i - 1] (by simp)
    unfold FLt at this hl ⊢
    omega
   ·rw [List.mem_singleton] at ha; rw [ha]; exact hl
theorem LO.at_ {n:Nat} {F:List Fact} (h:LO n F) {i:Nat} (hi:i < F.length):YA n (F.getD i default)∧(i≠0→FLt (F.getD (i - 1) default) (F.getD i default)):=by
 have e:∀ j (hj:j < F.length),F.getD j default=F[j]:=fun j hj=>by simp [List.getD,hj]
 refine ⟨h.1 _ (gH hi _),fun h0=>?_⟩
 rw [e _ hi,e _ (by omega)]
 exact List.pairwise_iff_getElem.1 h.2 _ _ _ _ (by omega)
theorem abU (x y:Fact):DK [gj x.at_ y.at_,gj x.kind y.kind]≥0↔¬ FLt x y:=ac5 _ _ _ _
def kA (f:ai):Sk (Int) :=
 .bind true (fun b1=>((f.ae.length≤1000000∧f.facts.length≤1000000)→LO f.ae.length f.facts))
 (.loop (default:Sum (Int) (Unit)) (fun i2=>i2≤f.facts.length∧((f.ae.length≤1000000∧f.facts.length≤1000000)→LO f.ae.length (f.facts.take i2))) (fun i2=>f.facts.length - i2) (0:Nat)
 (fun (i2:Nat)=>⟨[(9,iv (i2:Int))],[]⟩) fun i2 =>
 .lt 7 0 i2 f.facts.length
 (.r 3 (.p (bN (i2:Int) f.facts.length)) fun _ =>
 .r 4 (.dep ((aY ((f.facts.getD i2 default).kind) 0 4).c) fun x3=>.dep (.wh (!x3) false ((aY ((f.facts.getD i2 default).at_) 0 (au (((f.ae.length:Nat):Int) - 1))).c)) fun x4=>.wh ((!x3)||(!x4)) false ((aY ((f.facts.getD i2 default).n) 0 1).c)) fun UI =>
 .br (((!UI.1)||(!UI.2.1))||(!UI.2.2))
 (.fin (.inl (.inl 1)))
 (.br ((i2:Int) == 0)
 (.nx 10 9 i2 (i2+1))
 (.r 7 (.p (bN (au ((i2:Int) - 1)) f.facts.length)) fun _ =>
 .r 8 (.dep ((jI ((f.facts.getD ((au ((i2:Int) - 1)).toNat) default).at_) ((f.facts.getD i2 default).at_)).c) fun x6=>.dep ((jI ((f.facts.getD ((au ((i2:Int) - 1)).toNat) default).kind) ((f.facts.getD i2 default).kind)).c) fun x7=>.al (.o [.dn (dH dV [x6,x7])]) ((A8 [x6,x7]).c)) fun p9 =>
 .br (decide (p9.2.2≥0))
 (.fin (.inl (.inl 5)))
 (.nx 10 9 i2 (i2+1)))))
 (.fin (.inl (.inr ()))))
 (fun (_:Unit)=>⟨[],[]⟩) fun _ =>
 .fin 0
def Bb f:=(kA f).val
theorem KN (f:ai) (hP:f.ae.length≤1000000∧f.facts.length≤1000000):(kA f).cC (fun (x:Int)=>x=0↔LO f.ae.length f.facts):=by
 refine Sk.aP _ ?_
 unfold kA
 simp only [Sk.ct,Sk.aA,reduceCtorEq,ON,kk,kp,jI,A8,aY,dC,forall_eq,maxLen]
 refine ⟨⟨⟨Nat.zero_le _,fun _=>⟨fun x hx=>by simp at hx,by simp⟩⟩,fun i hi=>⟨fun hc _=>⟨fun h=>?_,fun h=>⟨fun h0 _=>⟨⟨?_,fun _=>?_⟩,?_⟩,fun h0 _=>⟨fun hd=>?_,fun hd _=>⟨⟨?_,fun _=>?_⟩,?_⟩⟩⟩⟩,fun hc _=>?_⟩⟩,fun _ hb=>⟨fun _=>hb hP,fun _=>trivial⟩⟩
 all_goals simp only [LN] at hc
 all_goals try omega
 ·refine ⟨fun e=>absurd e (by omega),fun hF=>?_⟩
  have:=(hF.at_ (show i < f.facts.length by omega)).1
  unfold YA at this
  simp only [LN] at h
  rw [ar (by omega) (by omega)] at h
  omega
 ·have hx:YA f.ae.length (f.facts.getD i default):=by
   unfold YA
   simp only [LN] at h
   rw [ar (by omega) (by omega)] at h
   omega
  exact (hi.2 hP).push (by omega) hx (fun hn=>absurd (by simpa using h0) hn)
 ·have hn:i≠0:=by simpa using h0
  refine ⟨fun e=>absurd e (by omega),fun hF=>?_⟩
  have hl:=(hF.at_ (show i < f.facts.length by omega)).2 hn
  rw [ar (by omega) (by omega),show ((i:Int) - 1).toNat=i - 1 by omega,decide_eq_true_eq,abU] at hd
  exact absurd hl hd
 ·have hn:i≠0:=by simpa using h0
  have hx:YA f.ae.length (f.facts.getD i default):=by
   unfold YA
   simp only [LN] at h
   rw [ar (by omega) (by omega)] at h
   omega
  rw [ar (by omega) (by omega),show ((i:Int) - 1).toNat=i - 1 by omega,decide_eq_false_iff_not,abU,Classical.not_not] at hd
  exact (hi.2 hP).push (by omega) hx (fun _=>hd)
 ·have:=hi.2 hP
  rwa [show i=f.facts.length by omega,List.take_length] at this
theorem yc (f:ai):(fun (x:Int)=>(f.ae.length≤1000000∧f.facts.length≤1000000)→(x=0↔LO f.ae.length f.facts)) (Bb f):=fun hP=>Sk.cI _ (KN f hP)
theorem Om (f:ai):(kA f).a6 (fun _=>True):=by
 refine Sk.aG _ ?_
 unfold kA
 simp only [Sk.gL,Sk.aA,reduceCtorEq,ON,kk,kp,jI,A8,aY,dC,forall_eq,maxLen]
 refine ⟨⟨Nat.zero_le _,fun _=>⟨fun x hx=>by simp at hx,by simp⟩⟩,fun i hi hm=>⟨fun hc=>⟨?_,fun _ h=>⟨fun h0 _=>⟨?_,⟨?_,fun hP=>?_⟩,?_⟩,fun h0=>⟨?_,fun _ hd _=>⟨?_,⟨?_,fun hP=>?_⟩,?_⟩⟩⟩⟩,fun hc hP=>?_⟩⟩
 all_goals simp only [LN] at hc
 all_goals try omega
 ·exact (ar (by omega) (by omega)).trans (by omega)
 ·have hx:YA f.ae.length (f.facts.getD i default):=by
   unfold YA
   simp only [LN] at h
   rw [ar (by omega) (by omega)] at h
   omega
  exact (hi.2 hP).push (by omega) hx (fun hn=>absurd (by simpa using h0) hn)
 ·have hn:i≠0:=by simpa using h0
  rw [ar (by omega) (by omega)]; omega
 ·exact (ar (by omega) (by omega)).trans (by omega)
 ·have hn:i≠0:=by simpa using h0
  have hx:YA f.ae.length (f.facts.getD i default):=by
   unfold YA
   simp only [LN] at h
   rw [ar (by omega) (by omega)] at h
   omega
  rw [ar (by omega) (by omega),show ((i:Int) - 1).toNat=i - 1 by omega,decide_eq_false_iff_not,abU,Classical.not_not] at hd
  exact (hi.2 hP).push (by omega) hx (fun _=>hd)
 ·have:=hi.2 hP
  rwa [show i=f.facts.length by omega,List.take_length] at this
def rN f:=kk tok mixed Tryz.func49 [av f.cells] (fun x=>iv x) true (kA f) (Bb f) (u0 (Om f)) (fun (x:Int)=>(f.ae.length≤1000000∧f.facts.length≤1000000)→(x=0↔LO f.ae.length f.facts)) (yc f)
def iB (r:ah) (f:ai):Sk (Int) :=
 .br ((((decide (((f.ae.length:Nat):Int) > 40))||(decide (((f.aL.length:Nat):Int) > 4)))||(decide (((f.aw.length:Nat):Int) > 100)))||(decide (((f.facts.length:Nat):Int) > 200)))
 (.fin 6)
 (.r 3 ((oO r f.aX).c) fun x1 =>
 .br (x1 != 0)
 (.fin x1)
 (.br (((f.ae.length:Nat):Int) == 0)
 (.fin 14)
 (.bind true (fun b2=>(r.bU.length≤200→∀ q,q < f.ae.length→MT r f q∧ToQ r f q))
 (.loop (default:Sum (Int) (Unit)) (fun i3=>i3≤f.ae.length∧(r.bU.length≤200→∀ q,q < i3→MT r f q∧ToQ r f q)) (fun i3=>f.ae.length - i3) (0:Nat)
 (fun (i3:Nat)=>⟨[(48,iv (i3:Int))],[]⟩) fun i3 =>
 .lt 3 15 i3 f.ae.length
 (.r 11 ((tF r f (i3:Int)).c) fun x4 =>
 .br (x4 != 0)
 (.fin (.inl (.inl x4)))
 (.nx 14 48 i3 (i3+1)))
 (.fin (.inl (.inr ()))))
 (fun (_:Unit)=>⟨[],[]⟩) fun _ =>
 .bind true (fun b5=>(∀ q,q < f.aL.length→nL (f.aL.getD q default).sum))
 (.loop (default:Sum (Int) (Unit)) (fun i6=>i6.2≤f.aL.length∧(∀ q,q < i6.2→nL (f.aL.getD q default).sum)) (fun i6=>f.aL.length - i6.2) ((0,0):Int × Nat)
 (fun (i6:Int × Nat)=>⟨[(8,iv i6.1),(62,iv (i6.2:Int))],[]⟩) fun i6 =>
 .lt 60 0 i6.2 f.aL.length
 (.r 18 (.p (bN (i6.2:Int) f.aL.length)) fun _ =>
 .r 19 ((aY ((f.aL.getD i6.2 default).at_) (au (i6.1+1)) ((f.ae.length:Nat):Int)).c) fun x7 =>
 .br (!x7)
 (.fin (.inl (.inl 1)))
 (.r 21 ((aY ((f.aL.getD i6.2 default).sum) 1 1099511627776).c) fun x8 =>
 .br (!x8)
 (.fin (.inl (.inl 3)))
 (.nx 24 62 i6.2 ((f.aL.getD i6.2 default).at_,i6.2+1))))
 (.fin (.inl (.inr ()))))
 (fun (_:Unit)=>⟨[],[]⟩) fun _ =>
 .r 25 ((tG r f).c) fun x9 =>
 .br (x9 != 0)
 (.fin x9)
 (.r 28 ((rN f).c) fun JN =>
 .fin JN))))
def gm r f:=(iB r f).val
theorem KO (r:ah) (f:ai) (hP:r.bU.length≤200):(iB r f).cC (fun (x:Int)=>x=0→(bu r f∧ToF r f)∧LO f.ae.length f.facts):=by
 refine Sk.aP _ ?_
 unfold iB
 simp only [Sk.ct,Sk.aA,reduceCtorEq,ON,kk,kp,tG,rN,aY,tF,oO,dC,forall_eq,maxLen]
 refine ⟨fun _ h=>absurd h (by decide),fun hlen hw=>⟨fun h1 h2=>?_,fun hwz=>⟨fun _ h=>absurd h (by decide),fun rl=>⟨⟨⟨by omega,fun _ q hq=>absurd hq (by omega)⟩,fun k hk=>⟨fun hc hs=>⟨fun h1 h2=>?_,fun h1 _=>⟨⟨?_,fun hr q hq=>?_⟩,?_⟩⟩,fun hc hr q hq=>hk.2 hr q (by simp only [LN] at hc; omega)⟩⟩,fun _ hsg=>⟨⟨⟨by omega,fun q hq=>absurd hq (by omega)⟩,fun k hk=>⟨fun hc _=>⟨fun _ h=>absurd h (by decide),fun _=>⟨fun _ h=>absurd h (by decide),fun hs _=>⟨⟨?_,fun q hq=>?_⟩,?_⟩⟩⟩,fun hc q hq=>hk.2 q (by simp only [LN] at hc; omega)⟩⟩,fun _ hal hac=>⟨fun h1 h2=>?_,fun h1 hfk h2=>?_⟩⟩⟩⟩⟩⟩
 all_goals simp only [LN] at hlen
 all_goals (try simp only [LN] at hc)
 ·rw [h2] at h1; exact absurd h1 (by decide)
 ·rw [h2] at h1; exact absurd h1 (by decide)
 ·omega
 ·by_cases e:q=k
  ·subst e
   have:=hs ⟨by omega,by omega,hP,(hw (by simpa using hwz)).1⟩ (by simpa using h1)
   simpa using this
  ·exact hk.2 hr q (by omega)
 ·omega
 ·omega
 ·by_cases e:q=k.2
  ·subst e
   simp only [LN] at hs
   exact ⟨by omega,by omega⟩
  ·exact hk.2 q (by omega)
 ·omega
 ·rw [h2] at h1; exact absurd h1 (by decide)
 ·have W:=hw (by simpa using hwz)
  simp only [LN] at rl
  exact ⟨⟨⟨W.1,⟨by omega,by omega,by omega,by omega,by omega⟩,fun q hq=>(hsg hP q hq).1,hal,hac ⟨by omega,by omega⟩ (by simpa using h1)⟩,W.2,fun q hq=>(hsg hP q hq).2⟩,(hfk ⟨by omega,by omega⟩).1 h2⟩
theorem Ib (r:ah) (f:ai):(fun (x:Int)=>(r.bU.length≤200)→(x=0→(bu r f∧ToF r f)∧LO f.ae.length f.facts)) (gm r f):=fun hP=>Sk.cI _ (KO r f hP)
theorem Oo (r:ah) (f:ai) (hr:r.Small):(iB r f).a6 (fun _=>True):=by
 refine Sk.aG _ ?_
 unfold iB
 simp only [Sk.gL,Sk.aA,reduceCtorEq,ON,kk,kp,tG,rN,aY,tF,oO,dC,forall_eq,maxLen]
 intro hlen
 simp only [LN] at hlen
 refine ⟨hr,fun hw hwz rl=>⟨⟨⟨by omega,fun _ q hq=>absurd hq (by omega)⟩,fun k hk hl=>⟨fun hc=>⟨⟨⟨by omega,of_decide_eq_true hc⟩,by omega,hr⟩,fun hs h1 _=>⟨?_,⟨?_,fun hr2 q hq=>?_⟩,?_⟩⟩,fun hc hr2 q hq=>hk.2 hr2 q (by simp only [LN] at hc; omega)⟩⟩,fun _ hsg=>⟨⟨⟨by omega,fun q hq=>absurd hq (by omega)⟩,fun k hk hl=>⟨fun hc=>⟨⟨by omega,of_decide_eq_true hc⟩,fun _ _ hs _=>⟨?_,⟨?_,fun q hq=>?_⟩,?_⟩⟩,fun hc q hq=>hk.2 q (by simp only [LN] at hc; omega)⟩⟩,fun _ _=>⟨by omega,by omega⟩⟩⟩⟩
 all_goals (try simp only [LN] at hc)
 ·exact ar (by omega) (by omega)
 ·omega
 ·by_cases e:q=k
  ·subst e
   have:=hs ⟨by omega,by omega,hr2,(hw (by simpa using hwz)).1⟩ (by simpa using h1)
   simpa using this
  ·exact hk.2 hr2 q (by omega)
 ·omega
 ·exact ar (by omega) (by omega)
 ·omega
 ·by_cases e:q=k.2
  ·subst e
   simp only [LN] at hs
   exact ⟨by omega,by omega⟩
  ·exact hk.2 q (by omega)
 ·omega
def lJ r f:=kk tok mixed Tryz.func20 [av r.cells,av f.cells] (fun x=>iv x) true (iB r f) (gm r f) (Oo r f) (fun (x:Int)=>(r.bU.length≤200)→(x=0→(bu r f∧ToF r f)∧LO f.ae.length f.facts)) (Ib r f)
theorem yd {α:Type} [Inhabited α] (p:α→Bool):∀ (l:List α) (i:Nat),i≤l.length→(∀ q,q < i→p (l.getD q default)=true)→(i=l.length∨p (l.getD i default)=false)→i=(l.takeWhile p).length
 | [],i,h,_,_=>by simpa using h
 | x :: r,0,_,_,h=>by
  have h:p x=false:=by
   rcases h with h | h
   ·simp at h
   ·exact h
  rw [List.takeWhile_cons,h]; rfl
 | x :: r,i+1,h,hp,he=>by
  have h0:p x=true:=hp 0 (by omega)
  rw [List.takeWhile_cons,h0,if_pos rfl,List.length_cons]
  have:=yd p r i (by simpa using h) (fun q hq=>hp (q+1) (by omega)) (by simpa using he)
  omega
theorem Xu {α:Type} [Inhabited α] (l:List α) (n:Nat) (h:n≤l.length):fa l 0 n=l.take n:=by
 refine List.ext_getElem (by simp [fa]; omega) (fun i h1 h2=>?_)
 have hi:i < l.length:=by rw [pj] at h1; omega
 simp [fa,List.getD,hi]
theorem YB {α:Type} [Inhabited α] (p:α→Bool) (l:List α):fa l 0 (l.takeWhile p).length=l.takeWhile p:=by
 rw [Xu _ _ (List.takeWhile_sublist _).length_le]
 exact (List.prefix_iff_eq_take.1 (List.takeWhile_prefix p)).symm
theorem kI {α:Type} [Inhabited α] (p:α→Bool) (l:List α) (i:Nat) (h:i < l.length):(l.take (i+1)).filter p=(l.take i).filter p++(bif p (l.getD i default) then [l.getD i default] else []):=by
 rw [List.take_succ_eq_append_getElem h,List.filter_append,show l.getD i default=l[i] by simp [List.getD,h]]
 cases hc:p l[i] <;> simp [hc]
theorem SY {P:Nat→Prop} {i:Nat} (h:∀ q,q < i→P q) (h2:P i) (q:Nat) (hq:q < i+1):P q:=(Nat.lt_succ_iff_lt_or_eq.1 hq).elim (h q) (fun e=>e ▸ h2)
theorem Bc {α:Type} (p:α→Bool) (l:List α) (i:Nat):((l.take i).filter p).length≤i:=Nat.le_trans (List.length_filter_le _ _) (by rw [List.length_take]; exact Nat.min_le_left _ _)
def ye (f:ai) (day:Int):Sk (ai) :=
 .bind true (fun b1=>b1=((f.ae.takeWhile (fun s=>decide (s.day≤day))).length:Int))
 (.loop (default:Sum (ai) (Int)) (fun i2=>i2≤f.ae.length∧∀ q,q < i2→(f.ae.getD q default).day≤day) (fun i2=>f.ae.length - i2) (0:Nat)
 (fun (i2:Nat)=>⟨[(5,iv (i2:Int))],[]⟩) fun i2 =>
 .Eo 2 15 f.ae.length <|
 .r 2 (.wh (decide ((i2:Int) < ((f.ae.length:Nat):Int))) true (.p (bN (i2:Int) f.ae.length))) fun _ =>
 .br ((decide ((i2:Int) < ((f.ae.length:Nat):Int)))&&(decide (((f.ae.getD i2 default).day)≤day)))
 (.nx 3 5 i2 (i2+1))
 (.fin (.inl (.inr (i2:Int)))))
 (fun (b1:Int)=>⟨[(5,iv b1)],[]⟩) fun b1 =>
 .bind true (fun b3=>b3=((f.aw.takeWhile (fun s=>decide (s.day≤day))).length:Int))
 (.loop (default:Sum (ai) (Int)) (fun i4=>i4≤f.aw.length∧∀ q,q < i4→(f.aw.getD q default).day≤day) (fun i4=>f.aw.length - i4) (0:Nat)
 (fun (i4:Nat)=>⟨[(6,iv (i4:Int))],[]⟩) fun i4 =>
 .Eo 2 17 f.aw.length <|
 .r 5 (.wh (decide ((i4:Int) < ((f.aw.length:Nat):Int))) true (.p (bN (i4:Int) f.aw.length))) fun _ =>
 .br ((decide ((i4:Int) < ((f.aw.length:Nat):Int)))&&(decide (((f.aw.getD i4 default).day)≤day)))
 (.nx 6 6 i4 (i4+1))
 (.fin (.inl (.inr (i4:Int)))))
 (fun (b3:Int)=>⟨[(6,iv b3)],[]⟩) fun b3 =>
 .r 7 (.al (.o [.dn (dH Sign.E ([]:List Sign))]) (.al (.al (.o [.dn (aa0 Sign.E f.ae 0 b1.toNat)]) (.pt (0≤b1∧b1≤((f.ae.length:Nat):Int)) (Sign.E.lens f.ae))) (.al (.al (.o [.dn (kE Sign.E ([]:List Sign) (fa f.ae 0 b1.toNat))]) (.al (.t (Sign.E.src (fa f.ae 0 b1.toNat))) (.p (vE (([]:List Sign).length) (fa f.ae 0 b1.toNat).length 72)))) (.al (.o [.dn (dH ba.E ([]:List ba))]) (.al (.al (.o [.dn (aa0 ba.E f.aw 0 b3.toNat)]) (.pt (0≤b3∧b3≤((f.aw.length:Nat):Int)) (ba.E.lens f.aw))) (.al (.o [.dn (kE ba.E ([]:List ba) (fa f.aw 0 b3.toNat))]) (.al (.t (ba.E.src (fa f.aw 0 b3.toNat))) (.p (vE (([]:List ba).length) (fa f.aw 0 b3.toNat).length 72))))))))) fun _ =>
 .bind true (fun b5=>b5=f.aL.filter (fun a=>decide (a.at_≤b1)))
 (.loop (default:Sum (ai) ((List cJ))) (fun i6=>i6.1≤f.aL.length∧i6.2=(f.aL.take i6.1).filter (fun a=>decide (a.at_≤b1))) (fun i6=>f.aL.length - i6.1) ((0,[]):Nat × (List cJ))
 (fun (i6:Nat × (List cJ))=>⟨[(8,iv (i6.1:Int))],[(100002,aU 78 2 cJ.cells i6.2),(7,.box (f.aX.cells.map .d++[ow 51 (([]:List Sign)++(fa f.ae 0 b1.toNat)),ow 100002 i6.2,ow 57 (([]:List ba)++(fa f.aw 0 b3.toNat))]++[nv]))]⟩) fun i6 =>
 .lt 2 16 i6.1 f.aL.length
 (.r 11 (.p (bN (i6.1:Int) f.aL.length)) fun _ =>
 .br (decide (((f.aL.getD i6.1 default).at_)≤b1))
 (.r 12 (.al (.p (bN (i6.1:Int) f.aL.length)) (.al (.o [.dn (dH cJ.E [f.aL.getD i6.1 default])]) (.al (.o [.dn (kE cJ.E i6.2 [f.aL.getD i6.1 default])]) (.al (.t (cJ.E.mT [f.aL.getD i6.1 default])) (.p (vE i6.2.length [f.aL.getD i6.1 default].length 16)))))) fun _ =>
 .nx 10 8 i6.1 (i6.1+1,i6.2++[f.aL.getD i6.1 default]))
 (.nx 10 8 i6.1 (i6.1+1,i6.2)))
 (.fin (.inl (.inr i6.2))))
 (fun (b5:(List cJ))=>⟨[],[(100001,aU 78 2 cJ.cells b5),(7,.box (f.aX.cells.map .d++[ow 51 (([]:List Sign)++(fa f.ae 0 b1.toNat)),ow 100001 b5,ow 57 (([]:List ba)++(fa f.aw 0 b3.toNat))]++[nv]))]⟩) fun b5 =>
 .bind true (fun b7=>b7=f.facts.filter (fun x=>decide (x.at_≥0)&&decide (x.at_ < b1)))
 (.loop (default:Sum (ai) ((List Fact))) (fun i8=>i8.1≤f.facts.length∧i8.2=(f.facts.take i8.1).filter (fun x=>decide (x.at_≥0)&&decide (x.at_ < b1))) (fun i8=>f.facts.length - i8.1) ((0,[]):Nat × (List Fact))
 (fun (i8:Nat × (List Fact))=>⟨[(9,iv (i8.1:Int))],[(100005,aU 37 3 Fact.cells i8.2),(7,.box (f.aX.cells.map .d++[ow 51 (([]:List Sign)++(fa f.ae 0 b1.toNat)),ow 100001 b5,ow 57 (([]:List ba)++(fa f.aw 0 b3.toNat)),ow 100005 i8.2]))]⟩) fun i8 =>
 .lt 2 18 i8.1 f.facts.length
 (.r 16 (.al (.p (bN (i8.1:Int) f.facts.length)) (.wh (decide (((f.facts.getD i8.1 default).at_)≥0)) true (.p (bN (i8.1:Int) f.facts.length)))) fun _ =>
 .br ((decide (((f.facts.getD i8.1 default).at_)≥0))&&(decide (((f.facts.getD i8.1 default).at_) < b1)))
 (.r 17 (.al (.p (bN (i8.1:Int) f.facts.length)) (.al (.o [.dn (dH Fact.E [f.facts.getD i8.1 default])]) (.al (.o [.dn (kE Fact.E i8.2 [f.facts.getD i8.1 default])]) (.al (.t (Fact.E.mT [f.facts.getD i8.1 default])) (.p (vE i8.2.length [f.facts.getD i8.1 default].length 24)))))) fun _ =>
 .nx 15 9 i8.1 (i8.1+1,i8.2++[f.facts.getD i8.1 default]))
 (.nx 15 9 i8.1 (i8.1+1,i8.2)))
 (.fin (.inl (.inr i8.2))))
 (fun (b7:(List Fact))=>⟨[],[(100004,aU 37 3 Fact.cells b7),(7,.box (f.aX.cells.map .d++[ow 51 (([]:List Sign)++(fa f.ae 0 b1.toNat)),ow 100001 b5,ow 57 (([]:List ba)++(fa f.aw 0 b3.toNat)),ow 100004 b7]))]⟩) fun b7 =>
 .fin ({ f with ae:=([]:List Sign)++(fa f.ae 0 b1.toNat),aL:=b5,aw:=([]:List ba)++(fa f.aw 0 b3.toNat),facts:=b7 })
def aeX f day:=(ye f day).val
theorem Xv (f:ai) (day:Int):(ye f day).cC (fun (x:ai)=>x=aj f day):=by
 refine Sk.aP _ ?_
 unfold ye
 simp only [Sk.ct,Sk.aA,reduceCtorEq,ON,kk,kp,ai.Small,ah.Small,maxLen]
 refine ⟨⟨⟨Nat.zero_le _,fun q hq=>absurd hq (by omega)⟩,fun i hi _=>⟨fun hc _=>?_,fun hc=>?_⟩⟩,fun b1 RM=>⟨⟨⟨Nat.zero_le _,fun q hq=>absurd hq (by omega)⟩,fun i hi _=>⟨fun hc _=>?_,fun hc=>?_⟩⟩,fun b3 Wk _=>⟨⟨⟨Nat.zero_le _,rfl⟩,fun i hi=>⟨fun hc _=>⟨fun h _ _=>?_,fun h _=>?_⟩,fun hc=>?_⟩⟩,fun b5 hb5=>⟨⟨⟨Nat.zero_le _,rfl⟩,fun i hi=>⟨fun hc _=>⟨fun h _ _=>?_,fun h _=>?_⟩,fun hc=>?_⟩⟩,fun b7 hb7=>?_⟩⟩⟩⟩
 ·simp only [LN] at hc
  exact ⟨⟨by omega,SY hi.2 hc.2⟩,by omega⟩
 ·simp only [LN] at hc
  have:=yd (fun s:Sign=>decide (s.day≤day)) f.ae i hi.1 (fun q hq=>decide_eq_true (hi.2 q hq)) (by rw [decide_eq_false_iff_not]; omega)
  omega
 ·simp only [LN] at hc
  exact ⟨⟨by omega,SY hi.2 hc.2⟩,by omega⟩
 ·simp only [LN] at hc
  have:=yd (fun s:ba=>decide (s.day≤day)) f.aw i hi.1 (fun q hq=>decide_eq_true (hi.2 q hq)) (by rw [decide_eq_false_iff_not]; omega)
  omega
 ·simp only [LN] at hc
  refine ⟨⟨by omega,?_⟩,by omega⟩
  rw [kI _ _ _ (by omega),← hi.2]; simp only [h,cond_true]
 ·simp only [LN] at hc
  refine ⟨⟨by omega,?_⟩,by omega⟩
  rw [kI _ _ _ (by omega),← hi.2]; simp only [h,cond_false,List.append_nil]
 ·simp only [LN] at hc
  have e:i.1=f.aL.length:=by omega
  rw [hi.2,e,List.take_length]
 ·simp only [LN] at hc
  refine ⟨⟨by omega,?_⟩,by omega⟩
  rw [kI _ _ _ (by omega),← hi.2]; simp only [h,cond_true]
 ·simp only [LN] at hc
  refine ⟨⟨by omega,?_⟩,by omega⟩
  rw [kI _ _ _ (by omega),← hi.2]; simp only [h,cond_false,List.append_nil]
 ·simp only [LN] at hc
  have e:i.1=f.facts.length:=by omega
  rw [hi.2,e,List.take_length]
 ·subst RM Wk hb5 hb7
  rw [Int.toNat_natCast,Int.toNat_natCast,YB,YB,List.nil_append,List.nil_append,gP]
theorem ZW (f:ai) (day:Int) (hf:f.Small):(ye f day).a6 (fun _=>True):=by
 simp only [ai.Small,ah.Small] at hf
 refine Sk.aG _ ?_
 unfold ye
 simp only [Sk.gL,Sk.aA,reduceCtorEq,ON,kk,kp,ai.Small,ah.Small,maxLen]
 have w1:∀ i n:Nat,i < n→n≤1000000→au ((i:Int)+1)=((i+1:Nat):Int):=fun i n h h2=>(ar (by omega) (by omega)).trans (by omega)
 obtain ⟨n1,n2,n3,n4⟩:=hf
 have s1:=(List.takeWhile_sublist (l:=f.ae) fun s=>decide (s.day≤day)).length_le
 have s2:=(List.takeWhile_sublist (l:=f.aw) fun s=>decide (s.day≤day)).length_le
 refine ⟨⟨⟨Nat.zero_le _,fun q hq=>absurd hq (by omega)⟩,fun i hi _=>⟨fun hc=>?_,fun _=>⟨fun hc _=>?_,fun hc=>?_⟩⟩⟩,fun b1 RM=>⟨⟨⟨Nat.zero_le _,fun q hq=>absurd hq (by omega)⟩,fun i hi _=>⟨fun hc=>?_,fun _=>⟨fun hc _=>?_,fun hc=>?_⟩⟩⟩,fun b3 Wk=>⟨?_,fun _=>⟨⟨⟨Nat.zero_le _,rfl⟩,fun i hi _=>⟨fun hc=>⟨?_,fun _=>⟨fun h=>⟨?_,fun _ _=>⟨?_,?_⟩⟩,fun h _=>⟨?_,?_⟩⟩⟩,fun hc=>?_⟩⟩,fun b5 hb5=>⟨⟨Nat.zero_le _,rfl⟩,fun i hi _=>⟨fun hc=>⟨?_,fun _=>⟨fun h=>⟨?_,fun _ _=>⟨?_,?_⟩⟩,fun h _=>⟨?_,?_⟩⟩⟩,fun hc=>?_⟩⟩⟩⟩⟩⟩
 ·simp only [LN] at hc
  exact ⟨by omega,by omega⟩
 ·simp only [LN] at hc
  exact ⟨w1 _ _ (by omega) n1,⟨by omega,SY hi.2 hc.2⟩,by omega⟩
 ·simp only [LN] at hc
  have:=yd (fun s:Sign=>decide (s.day≤day)) f.ae i hi.1 (fun q hq=>decide_eq_true (hi.2 q hq)) (by rw [decide_eq_false_iff_not]; omega)
  omega
 ·simp only [LN] at hc
  exact ⟨by omega,by omega⟩
 ·simp only [LN] at hc
  exact ⟨w1 _ _ (by omega) n3,⟨by omega,SY hi.2 hc.2⟩,by omega⟩
 ·simp only [LN] at hc
  have:=yd (fun s:ba=>decide (s.day≤day)) f.aw i hi.1 (fun q hq=>decide_eq_true (hi.2 q hq)) (by rw [decide_eq_false_iff_not]; omega)
  omega
 ·simp only [LN]
  omega
 ·simp only [LN] at hc
  exact ⟨by omega,by omega⟩
 ·simp only [LN] at hc ⊢
  have:=Bc (fun a:cJ=>decide (a.at_≤b1)) f.aL i.1
  rw [← hi.2] at this
  omega
 ·simp only [LN] at hc
  exact w1 _ _ (by omega) n2
 ·simp only [LN] at hc
  refine ⟨⟨by omega,?_⟩,by omega⟩
  rw [kI _ _ _ (by omega),← hi.2]; simp only [h,cond_true]
 ·simp only [LN] at hc
  exact w1 _ _ (by omega) n2
 ·simp only [LN] at hc
  refine ⟨⟨by omega,?_⟩,by omega⟩
  rw [kI _ _ _ (by omega),← hi.2]; simp only [h,cond_false,List.append_nil]
 ·simp only [LN] at hc
  have e:i.1=f.aL.length:=by omega
  rw [hi.2,e,List.take_length]
 ·simp only [LN] at hc
  exact ⟨⟨by omega,by omega⟩,fun _=>⟨by omega,by omega⟩⟩
 ·simp only [LN] at hc ⊢
  have:=Bc (fun x:Fact=>decide (x.at_≥0)&&decide (x.at_ < b1)) f.facts i.1
  rw [← hi.2] at this
  omega
 ·simp only [LN] at hc
  exact w1 _ _ (by omega) n4
 ·simp only [LN] at hc
  refine ⟨⟨by omega,?_⟩,by omega⟩
  rw [kI _ _ _ (by omega),← hi.2]; simp only [h,cond_true]
 ·simp only [LN] at hc
  exact w1 _ _ (by omega) n4
 ·simp only [LN] at hc
  refine ⟨⟨by omega,?_⟩,by omega⟩
  rw [kI _ _ _ (by omega),← hi.2]; simp only [h,cond_false,List.append_nil]
 ·simp only [LN] at hc
  have e:i.1=f.facts.length:=by omega
  rw [hi.2,e,List.take_length]
def Oq f day:=kp tok mixed Tryz.func64 [av f.cells,iv day] (fun x=>av x.cells) false (aeX f day) (ZW f day) (Xv f day)
def so (f:ai) (kind:Int) (at_:Int):Sk (aH) :=
 .bt
 (.loop (default:Sum (aH) (Unit)) (fun i2=>i2≤f.facts.length) (fun i2=>f.facts.length - i2) (0:Nat)
 (fun (i2:Nat)=>⟨[(7,iv (i2:Int))],[]⟩) fun i2 =>
 .lt 3 18 i2 f.facts.length
 (.r 4 (.al (.p (bN (i2:Int) f.facts.length)) (.wh (((f.facts.getD i2 default).kind) == kind) true (.p (bN (i2:Int) f.facts.length)))) fun _ =>
 .br ((((f.facts.getD i2 default).kind) == kind)&&(((f.facts.getD i2 default).at_) == at_))
 (.r 5 (.p (bN (i2:Int) f.facts.length)) fun _ =>
 .br (((f.facts.getD i2 default).n) == 0)
 (.fin (.inl (.inl ({ known:=true,n:=0 }:aH))))
 (.fin (.inl (.inl ({ known:=true,n:=1 }:aH)))))
 (.nx 3 7 i2 (i2+1)))
 (.fin (.inl (.inr ()))))
 (fun (_:Unit)=>⟨[],[]⟩) fun _ =>
 .fin ({ known:=false,n:=0 }:aH)
def FU f kind at_:=(so f kind at_).val
theorem VC (f:ai) (kind:Int) (at_:Int):(so f kind at_).a6 (fun _=>True):=by
 unfold so
 exact nF
def DN f kind at_:=kk tok mixed Tryz.func65 [av f.cells,iv kind,iv at_] (fun x=>av x.cells) true (so f kind at_) (FU f kind at_) (u0 (VC f kind at_))
def LP (kind at_:Int) (x:Fact) (s:Unit):aH ⊕ Unit:=bif (x.kind == kind)&&(x.at_ == at_) then .inl (bif x.n == 0 then ⟨true,0⟩ else ⟨true,1⟩) else .inr ()
theorem Xw (f:ai) (kind at_:Int):FU f kind at_=walk (LP kind at_) (fun _=>⟨false,0⟩) f.facts ():=by
 simp only [FU,so,Sk.j3,Sk.lf,Sk.oa,Sk.kL,Sk.qF,Sk.sA,Sk.gN,iI.G3,kk,kp]
 refine (mo f.facts (fun s i=>i) (LP kind at_) id _ (fun s i hi=>?_) (fun s=>?_) (by simp) ()).trans rfl
 ·rw [decide_eq_true (by omega),cond_true]
  unfold LP
  cases (((f.facts.getD i default).kind == kind)&&((f.facts.getD i default).at_ == at_)) with
  | false=>rfl
  | true=>cases (f.facts.getD i default).n == 0 <;> rfl
 ·rw [decide_eq_false (by omega),cond_false]
theorem abV (b:Bool):kQ b=bif b then ⟨true,1⟩ else ⟨true,0⟩:=by cases b <;> kernel_rfl
theorem FV (f:ai) (kind at_:Int):FU f kind at_=bP f kind at_:=by
 rw [Xw,EX]
 congr 1
 funext x s
 unfold LP gI
 rw [abV]
 cases hn:x.n == 0 with
 | true =>
  have:(x.n != 0)=false:=by simpa [bne] using hn
  rw [this]; rfl
 | false =>
  have:(x.n != 0)=true:=by simp [bne,hn]
  rw [this]; rfl
theorem YC {i:Int} (h:0≤i) (h2:i < 1000000000000):i.tmod 5=((i.toNat % 5:Nat):Int)∧au (i.tdiv 5)=((i.toNat / 5:Nat):Int):=by
 rw [Int.tmod_eq_emod_of_nonneg h,Int.tdiv_eq_ediv_of_nonneg h,ar (by omega) (by omega)]
 omega
theorem LQ (g:ai) (s:Nat) {b:Bool} (h:(bP g ((s % 5:Nat):Int) ((s / 5:Nat):Int)).known=b):FK g s=if b then [] else [{ kind:=((s % 5:Nat):Int),at_:=((s / 5:Nat):Int),n:=0 }]:=by
 unfold FK
 rw [h]
 cases b <;> rfl
def kB (f:ai) (day:Int):Sk ((List Fact)) :=
 .r 1 ((Oq f day).c) fun x1 =>
 .bind true (fun b2=>b2=dF x1 (5 * x1.ae.length))
 (.loop (default:Sum ((List Fact)) ((List Fact))) (fun i3=>0≤i3.2∧i3.2≤5 * (x1.ae.length:Int)∧i3.1=dF x1 i3.2.toNat) (fun i3=>(5 * (x1.ae.length:Int) - i3.2).toNat) (([],0):(List Fact) × Int)
 (fun (i3:(List Fact) × Int)=>⟨[(6,ow 100002 i3.1),(7,iv i3.2)],[(100002,aU 37 3 Fact.cells i3.1)]⟩) fun i3 =>
 .br (decide (i3.2 < (au (((x1.ae.length:Nat):Int) * 5))))
 (.r 6 (.al (.p ((5:Int)≠0)) (.al (.p ((5:Int)≠0)) ((DN x1 (i3.2.tmod 5) (au (i3.2.tdiv 5))).c))) fun x4 =>
 .br (!x4.known)
 (.r 8 (.al (.p ((5:Int)≠0)) (.al (.p ((5:Int)≠0)) (.al (.o [.dn (dH Fact.E [({ kind:=i3.2.tmod 5,at_:=au (i3.2.tdiv 5),n:=0 }:Fact)])]) (.al (.o [.dn (kE Fact.E i3.1 [({ kind:=i3.2.tmod 5,at_:=au (i3.2.tdiv 5),n:=0 }:Fact)])]) (.al (.t (Fact.E.mT [({ kind:=i3.2.tmod 5,at_:=au (i3.2.tdiv 5),n:=0 }:Fact)])) (.p (vE i3.1.length [({ kind:=i3.2.tmod 5,at_:=au (i3.2.tdiv 5),n:=0 }:Fact)].length 24))))))) fun _ =>
 .fin (.inr (i3.1++[({ kind:=i3.2.tmod 5,at_:=au (i3.2.tdiv 5),n:=0 }:Fact)],au (i3.2+1))))
 (.fin (.inr (i3.1,au (i3.2+1)))))
 (.fin (.inl (.inr i3.1))))
 (fun (b2:(List Fact))=>⟨[(6,ow 100001 b2)],[(100001,aU 37 3 Fact.cells b2)]⟩) fun b2 =>
 .fin b2
def sq f day:=(kB f day).val
theorem KP (f:ai) (day:Int) (hP:f.Small):(kB f day).cC (fun (x:(List Fact))=>x=dF (aj f day) (5 * (aj f day).ae.length)):=by
 refine Sk.aP _ ?_
 unfold kB
 simp only [Sk.ct,Sk.aA,reduceCtorEq,ON,kk,kp,Oq,DN,ai.Small,ah.Small,maxLen]
 intro x _ hx
 have hs:x.ae.length≤1000000:=by rw [hx]; have:=(mq f day).1; have:=hP.1; omega
 rw [ar (by omega) (by omega)]
 refine ⟨⟨⟨by omega,by omega,rfl⟩,fun i hi=>⟨fun hc=>?_,fun hc=>?_⟩⟩,fun b hb=>by rw [hb,hx]⟩
 ·have dK:i.2 < (x.ae.length:Int) * 5:=by simpa using hc
  obtain ⟨e1,e2⟩:=YC (i:=i.2) (by omega) (by omega)
  have ew:au (i.2+1)=i.2+1:=ar (by omega) (by omega)
  rw [e1,e2,FV,ew,show (i.2+1).toNat=i.2.toNat+1 by omega,hX,← hi.2.2]
  refine fun y hy=>⟨fun hk _=>⟨⟨by omega,by omega,?_⟩,by omega⟩,fun hk=>⟨⟨by omega,by omega,?_⟩,by omega⟩⟩
  ·rw [LQ x i.2.toNat (b:=false) (by rw [← hy]; simpa using hk)]; rfl
  ·rw [LQ x i.2.toNat (b:=true) (by rw [← hy]; simpa using hk)]; simp
 ·have hge:¬ i.2 < (x.ae.length:Int) * 5:=by simpa using hc
  rw [hi.2.2,show i.2.toNat=5 * x.ae.length by omega]
theorem kC (f:ai) (day:Int):(fun (x:(List Fact))=>(f.Small)→(x=dF (aj f day) (5 * (aj f day).ae.length))) (sq f day):=fun hP=>Sk.cI _ (KP f day hP)
theorem Ot (f:ai) (day:Int) (hf:f.Small):(kB f day).a6 (fun _=>True):=by
 simp only [ai.Small,ah.Small] at hf
 refine Sk.aG _ ?_
 unfold kB
 simp only [Sk.gL,Sk.aA,reduceCtorEq,ON,kk,kp,Oq,DN,ai.Small,ah.Small,maxLen]
 refine ⟨hf,fun x _ hx=>?_⟩
 have hs:x.ae.length≤1000000:=by rw [hx]; have:=(mq f day).1; have:=hf.1; omega
 rw [ar (by omega) (by omega)]
 refine ⟨⟨by omega,by omega,rfl⟩,fun i hi=>⟨fun hc=>?_,fun hc=>?_⟩⟩
 ·have dK:i.2 < (x.ae.length:Int) * 5:=by simpa using hc
  obtain ⟨e1,e2⟩:=YC (i:=i.2) (by omega) (by omega)
  have hu:=FM x i.2.toNat
  rw [← hi.2.2] at hu
  have ew:au (i.2+1)=i.2+1:=ar (by omega) (by omega)
  rw [e1,e2,FV,ew,show (i.2+1).toNat=i.2.toNat+1 by omega,hX,← hi.2.2]
  refine ⟨by omega,fun y hy=>⟨fun hk=>⟨⟨by omega,by omega,?_⟩,fun _=>⟨⟨by omega,by omega,?_⟩,by omega⟩⟩,fun hk=>⟨⟨by omega,by omega,?_⟩,by omega⟩⟩⟩
  ·simp only [List.length_cons,List.length_nil]; omega
  ·rw [LQ x i.2.toNat (b:=false) (by rw [← hy]; simpa using hk)]; rfl
  ·rw [LQ x i.2.toNat (b:=true) (by rw [← hy]; simpa using hk)]; simp
 ·have hge:¬ i.2 < (x.ae.length:Int) * 5:=by simpa using hc
  rw [hi.2.2,show i.2.toNat=5 * x.ae.length by omega]
def wV f day:=kk tok mixed Tryz.func28 [av f.cells,iv day] (fun x=>lv Fact.cells x) false (kB f day) (sq f day) (Ot f day) (fun (x:(List Fact))=>(f.Small)→(x=dF (aj f day) (5 * (aj f day).ae.length))) (kC f day)
def pC (r:ah) (f:ai) (day:Int) (cK:Int):Sk (Bool) :=
 .r 1 (.dep ((H6 r f).c) fun x1=>.dep (.wh x1 true ((fT r).c)) fun x2=>.dep (.wh (x1&&(x2 == 0)) true ((tW f).c)) fun x3=>.dep (.wh ((x1&&(x2 == 0))&&x3) true ((lJ r f).c)) fun x4=>.wh (((x1&&(x2 == 0))&&x3)&&(x4 == 0)) true ((wV f day).c)) fun p6 =>
 .fin ((((p6.1&&(p6.2.1 == 0))&&p6.2.2.1)&&(p6.2.2.2.1 == 0))&&(decide (((p6.2.2.2.2.length:Nat):Int)≤cK)))
def VD r f day cK:=(pC r f day cK).val
theorem SZ (r:ah) (f:ai) (day:Int) (cK:Int) (hP:∀ x,x∈r.aI→(-9223372036854775808≤x.num∧x.num≤9223372036854775807)∧(-9223372036854775808≤x.den∧x.den≤9223372036854775807)):(pC r f day cK).cC (fun (x:Bool)=>x=true→r.Small∧r.bD∧r.fb∧r.fD∧r.cp∧bu r f∧f.facts.length≤202∧(gm r f=0∧LO f.ae.length f.facts)∧(((sq f day).length:Nat):Int)≤cK):=by
 refine Sk.aP _ ?_
 unfold pC
 simp only [Sk.ct,Sk.aA,reduceCtorEq,ON,kk,kp,tW,H6,wV,lJ,fT,zc,forall_eq,maxLen]
 rintro ⟨h1,h2,h3,h4,-⟩ h
 rw [Bool.and_eq_true,Bool.and_eq_true,Bool.and_eq_true,Bool.and_eq_true] at h
 obtain ⟨⟨⟨⟨a,b⟩,c⟩,d⟩,e⟩:=h
 have b2:=h2 (by simpa using b)
 have d2:gm r f=0:=by simpa using d
 exact ⟨(h1 a).1,b2.2.2.1,b2.1,b2.2.2.2.1,b2.2.1 hP,(h4 b2.2.2.2.2 d2).1.1,(h3 c).2,⟨d2,(h4 b2.2.2.2.2 d2).2⟩,by simpa using e⟩
theorem Qf (r:ah) (f:ai) (day:Int) (cK:Int):(fun (x:Bool)=>(∀ x,x∈r.aI→(-9223372036854775808≤x.num∧x.num≤9223372036854775807)∧(-9223372036854775808≤x.den∧x.den≤9223372036854775807))→(x=true→r.Small∧r.bD∧r.fb∧r.fD∧r.cp∧bu r f∧f.facts.length≤202∧(gm r f=0∧LO f.ae.length f.facts)∧(((sq f day).length:Nat):Int)≤cK)) (VD r f day cK):=fun hP=>Sk.cI _ (SZ r f day cK hP)
theorem VE (r:ah) (f:ai) (day:Int) (cK:Int):(pC r f day cK).a6 (fun _=>True):=by
 refine Sk.aG _ ?_
 unfold pC
 simp only [Sk.gL,Sk.aA,reduceCtorEq,ON,kk,kp,tW,H6,wV,lJ,fT,zc,forall_eq,maxLen]
 intro h1
 refine ⟨fun h=>(h1 h).1,fun _ _=>⟨fun h=>?_,fun _ h=>?_⟩⟩
 ·rw [Bool.and_eq_true,Bool.and_eq_true] at h
  exact (h1 h.1.1).1
 ·rw [Bool.and_eq_true,Bool.and_eq_true,Bool.and_eq_true] at h
  exact (h1 h.1.1.1).2
def k8 r f day cK:=kk tok mixed Tryz.func12 [av r.cells,av f.cells,iv day,iv cK] (fun x=>bv x) true (pC r f day cK) (VD r f day cK) (u0 (VE r f day cK)) (fun (x:Bool)=>(∀ x,x∈r.aI→(-9223372036854775808≤x.num∧x.num≤9223372036854775807)∧(-9223372036854775808≤x.den∧x.den≤9223372036854775807))→(x=true→r.Small∧r.bD∧r.fb∧r.fD∧r.cp∧bu r f∧f.facts.length≤202∧(gm r f=0∧LO f.ae.length f.facts)∧(((sq f day).length:Nat):Int)≤cK)) (Qf r f day cK)
def BS (a:Claim) (b:Claim):Sk (Bool) :=
 .fin (((((a.aW == b.aW)&&(a.az == b.az))&&(a.part == b.part))&&(a.sign == b.sign))&&(a.cz == b.cz))
def abW a b:=(BS a b).val
theorem Re (a:Claim) (b:Claim):abW a b=(((((a.aW == b.aW)&&(a.az == b.az))&&(a.part == b.part))&&(a.sign == b.sign))&&(a.cz == b.cz)):=rfl
theorem ZX (a:Claim) (b:Claim):(BS a b).a6 (fun _=>True):=by
 unfold BS
 exact od
def Ou a b:=kk tok mixed Tryz.func15 [av a.cells,av b.cells] (fun x=>bv x) true (BS a b) (abW a b) (u0 (ZX a b))
end
section
open Go Go.Av
theorem bq {ds:List D} (h:dw TT 3 ds):∃ c:Int,aF ds (bS c)∧(fun n=>cY n) c:=by
 obtain ⟨x,rfl,w⟩:=h.nZ rfl rfl
 exact ⟨x,aF.refl _,acw w⟩
structure qG.ok (c:qG):Prop where
 kind:(fun n=>cY n) c.kind
 n:(fun n=>cY n) c.n
 unit:(fun n=>cY n) c.unit
theorem qG.of {ds:List D} (h:dw TT 23 ds):∃ c:qG,aF ds c.cells∧c.ok:=by
 have q0:=h.cU rfl rfl
 obtain ⟨p0,r0,rfl,h0,q1⟩:=q0.cons_inv
 obtain ⟨x0,y0,w0⟩:=bq h0
 obtain ⟨p1,r1,rfl,h1,q2⟩:=q1.cons_inv
 obtain ⟨x1,y1,w1⟩:=bq h1
 obtain ⟨p2,r2,rfl,h2,q3⟩:=q2.cons_inv
 obtain ⟨x2,y2,w2⟩:=bq h2
 cases q3.iC
 refine ⟨⟨x0,x1,x2⟩,?_,⟨w0,w1,w2⟩⟩
 have hh:=(aF.append y0 (aF.append y1 (aF.append y2 aF.nil)))
 simpa only [qG.cells,bS,kJ,pL,List.append_assoc,List.cons_append,List.nil_append,List.append_nil] using hh
structure qA.ok (c:qA):Prop where
 Ap:(fun n=>cY n) c.Ap
 qT:(fun n=>cY n) c.qT
 eH:(fun n=>cY n) c.eH
 sum:(fun n=>cY n) c.sum
 aE:(fun n=>cY n) c.aE
 da:qG.ok c.da
 day:(fun n=>cY n) c.day
 bK:(fun n=>cY n) c.bK
 JK:(fun n=>cY n) c.JK
 need:(fun n=>cY n) c.need
 pF:(fun n=>cY n) c.pF
 flags:(fun n=>cY n) c.flags
 parts:(fun n=>cY n) c.parts
theorem qA.of {ds:List D} (h:dw TT 25 ds):∃ c:qA,aF ds c.cells∧c.ok:=by
 have q0:=h.cU rfl rfl
 obtain ⟨p0,r0,rfl,h0,q1⟩:=q0.cons_inv
 obtain ⟨x0,y0,w0⟩:=bq h0
 obtain ⟨p1,r1,rfl,h1,q2⟩:=q1.cons_inv
 obtain ⟨x1,y1,w1⟩:=bq h1
 obtain ⟨p2,r2,rfl,h2,q3⟩:=q2.cons_inv
 obtain ⟨x2,y2,w2⟩:=bq h2
 obtain ⟨p3,r3,rfl,h3,q4⟩:=q3.cons_inv
 obtain ⟨x3,y3,w3⟩:=bq h3
 obtain ⟨p4,r4,rfl,h4,q5⟩:=q4.cons_inv
 obtain ⟨x4,y4,w4⟩:=bq h4
 obtain ⟨p5,r5,rfl,h5,q6⟩:=q5.cons_inv
 obtain ⟨x5,y5,w5⟩:=qG.of h5
 obtain ⟨p6,r6,rfl,h6,q7⟩:=q6.cons_inv
 obtain ⟨x6,y6,w6⟩:=bq h6
 obtain ⟨p7,r7,rfl,h7,q8⟩:=q7.cons_inv
 obtain ⟨x7,y7,w7⟩:=bq h7
 obtain ⟨p8,r8,rfl,h8,q9⟩:=q8.cons_inv
 obtain ⟨x8,y8,w8⟩:=bq h8
 obtain ⟨p9,r9,rfl,h9,q10⟩:=q9.cons_inv
 obtain ⟨x9,y9,w9⟩:=bq h9
 obtain ⟨UI,r10,rfl,h10,q11⟩:=q10.cons_inv
 obtain ⟨JN,Xf,w10⟩:=bq h10
 obtain ⟨GF,r11,rfl,h11,q12⟩:=q11.cons_inv
 obtain ⟨Zz,y11,w11⟩:=bq h11
 obtain ⟨Vz,r12,rfl,h12,q13⟩:=q12.cons_inv
 obtain ⟨GG,y12,w12⟩:=bq h12
 cases q13.iC
 refine ⟨⟨x0,x1,x2,x3,x4,x5,x6,x7,x8,x9,JN,Zz,GG⟩,?_,⟨w0,w1,w2,w3,w4,w5,w6,w7,w8,w9,w10,w11,w12⟩⟩
 have hh:=(aF.append y0 (aF.append y1 (aF.append y2 (aF.append y3 (aF.append y4 (aF.append y5 (aF.append y6 (aF.append y7 (aF.append y8 (aF.append y9 (aF.append Xf (aF.append y11 (aF.append y12 aF.nil)))))))))))))
 simpa only [qA.cells,bS,kJ,pL,List.append_assoc,List.cons_append,List.nil_append,List.append_nil] using hh
structure Sign.ok (c:Sign):Prop where
 kind:(fun n=>cY n) c.kind
 part:(fun n=>cY n) c.part
 dS:(fun n=>cY n) c.dS
 for_:(fun n=>cY n) c.for_
 cw:(fun n=>cY n) c.cw
 sum:(fun n=>cY n) c.sum
 day:(fun n=>cY n) c.day
 bK:(fun n=>cY n) c.bK
 flags:(fun n=>cY n) c.flags
theorem Sign.of {ds:List D} (h:dw TT 74 ds):∃ c:Sign,aF ds c.cells∧c.ok:=by
 have q0:=h.cU rfl rfl
 obtain ⟨p0,r0,rfl,h0,q1⟩:=q0.cons_inv
 obtain ⟨x0,y0,w0⟩:=bq h0
 obtain ⟨p1,r1,rfl,h1,q2⟩:=q1.cons_inv
 obtain ⟨x1,y1,w1⟩:=bq h1
 obtain ⟨p2,r2,rfl,h2,q3⟩:=q2.cons_inv
 obtain ⟨x2,y2,w2⟩:=bq h2
 obtain ⟨p3,r3,rfl,h3,q4⟩:=q3.cons_inv
 obtain ⟨x3,y3,w3⟩:=bq h3
 obtain ⟨p4,r4,rfl,h4,q5⟩:=q4.cons_inv
 obtain ⟨x4,y4,w4⟩:=bq h4
 obtain ⟨p5,r5,rfl,h5,q6⟩:=q5.cons_inv
 obtain ⟨x5,y5,w5⟩:=bq h5
 obtain ⟨p6,r6,rfl,h6,q7⟩:=q6.cons_inv
 obtain ⟨x6,y6,w6⟩:=bq h6
 obtain ⟨p7,r7,rfl,h7,q8⟩:=q7.cons_inv
 obtain ⟨x7,y7,w7⟩:=bq h7
 obtain ⟨p8,r8,rfl,h8,q9⟩:=q8.cons_inv
 obtain ⟨x8,y8,w8⟩:=bq h8
 cases q9.iC
 refine ⟨⟨x0,x1,x2,x3,x4,x5,x6,x7,x8⟩,?_,⟨w0,w1,w2,w3,w4,w5,w6,w7,w8⟩⟩
 have hh:=(aF.append y0 (aF.append y1 (aF.append y2 (aF.append y3 (aF.append y4 (aF.append y5 (aF.append y6 (aF.append y7 (aF.append y8 aF.nil)))))))))
 simpa only [Sign.cells,bS,kJ,pL,List.append_assoc,List.cons_append,List.nil_append,List.append_nil] using hh
theorem aeY {ds:List D} (h:dw TT 26 ds):∃ l:List Sign,aF ds [mR Sign.cells l]∧(fun l=>∀ x,x∈l→Sign.ok x) l:=by
 obtain ⟨n,f,rfl,g⟩:=h.fC rfl rfl
 obtain ⟨l,y,-,w⟩:=kK Sign.cells Sign.ok (fun ds h=>Sign.of h) g
 exact ⟨l,aF.one y,w⟩
structure cJ.ok (c:cJ):Prop where
 at_:(fun n=>cY n) c.at_
 sum:(fun n=>cY n) c.sum
theorem cJ.of {ds:List D} (h:dw TT 78 ds):∃ c:cJ,aF ds c.cells∧c.ok:=by
 have q0:=h.cU rfl rfl
 obtain ⟨p0,r0,rfl,h0,q1⟩:=q0.cons_inv
 obtain ⟨x0,y0,w0⟩:=bq h0
 obtain ⟨p1,r1,rfl,h1,q2⟩:=q1.cons_inv
 obtain ⟨x1,y1,w1⟩:=bq h1
 cases q2.iC
 refine ⟨⟨x0,x1⟩,?_,⟨w0,w1⟩⟩
 have hh:=(aF.append y0 (aF.append y1 aF.nil))
 simpa only [cJ.cells,bS,kJ,pL,List.append_assoc,List.cons_append,List.nil_append,List.append_nil] using hh
theorem aeZ {ds:List D} (h:dw TT 27 ds):∃ l:List cJ,aF ds [mR cJ.cells l]∧(fun l=>∀ x,x∈l→cJ.ok x) l:=by
 obtain ⟨n,f,rfl,g⟩:=h.fC rfl rfl
 obtain ⟨l,y,-,w⟩:=kK cJ.cells cJ.ok (fun ds h=>cJ.of h) g
 exact ⟨l,aF.one y,w⟩
structure ba.ok (c:ba):Prop where
 kind:(fun n=>cY n) c.kind
 dS:(fun n=>cY n) c.dS
 cw:(fun n=>cY n) c.cw
 part:(fun n=>cY n) c.part
 at_:(fun n=>cY n) c.at_
 sum:(fun n=>cY n) c.sum
 day:(fun n=>cY n) c.day
 bK:(fun n=>cY n) c.bK
 form:(fun n=>cY n) c.form
theorem ba.of {ds:List D} (h:dw TT 76 ds):∃ c:ba,aF ds c.cells∧c.ok:=by
 have q0:=h.cU rfl rfl
 obtain ⟨p0,r0,rfl,h0,q1⟩:=q0.cons_inv
 obtain ⟨x0,y0,w0⟩:=bq h0
 obtain ⟨p1,r1,rfl,h1,q2⟩:=q1.cons_inv
 obtain ⟨x1,y1,w1⟩:=bq h1
 obtain ⟨p2,r2,rfl,h2,q3⟩:=q2.cons_inv
 obtain ⟨x2,y2,w2⟩:=bq h2
 obtain ⟨p3,r3,rfl,h3,q4⟩:=q3.cons_inv
 obtain ⟨x3,y3,w3⟩:=bq h3
 obtain ⟨p4,r4,rfl,h4,q5⟩:=q4.cons_inv
 obtain ⟨x4,y4,w4⟩:=bq h4
 obtain ⟨p5,r5,rfl,h5,q6⟩:=q5.cons_inv
 obtain ⟨x5,y5,w5⟩:=bq h5
 obtain ⟨p6,r6,rfl,h6,q7⟩:=q6.cons_inv
 obtain ⟨x6,y6,w6⟩:=bq h6
 obtain ⟨p7,r7,rfl,h7,q8⟩:=q7.cons_inv
 obtain ⟨x7,y7,w7⟩:=bq h7
 obtain ⟨p8,r8,rfl,h8,q9⟩:=q8.cons_inv
 obtain ⟨x8,y8,w8⟩:=bq h8
 cases q9.iC
 refine ⟨⟨x0,x1,x2,x3,x4,x5,x6,x7,x8⟩,?_,⟨w0,w1,w2,w3,w4,w5,w6,w7,w8⟩⟩
 have hh:=(aF.append y0 (aF.append y1 (aF.append y2 (aF.append y3 (aF.append y4 (aF.append y5 (aF.append y6 (aF.append y7 (aF.append y8 aF.nil)))))))))
 simpa only [ba.cells,bS,kJ,pL,List.append_assoc,List.cons_append,List.nil_append,List.append_nil] using hh
theorem ae0 {ds:List D} (h:dw TT 28 ds):∃ l:List ba,aF ds [mR ba.cells l]∧(fun l=>∀ x,x∈l→ba.ok x) l:=by
 obtain ⟨n,f,rfl,g⟩:=h.fC rfl rfl
 obtain ⟨l,y,-,w⟩:=kK ba.cells ba.ok (fun ds h=>ba.of h) g
 exact ⟨l,aF.one y,w⟩
structure Fact.ok (c:Fact):Prop where
 kind:(fun n=>cY n) c.kind
 at_:(fun n=>cY n) c.at_
 n:(fun n=>cY n) c.n
theorem Fact.of {ds:List D} (h:dw TT 37 ds):∃ c:Fact,aF ds c.cells∧c.ok:=by
 have q0:=h.cU rfl rfl
 obtain ⟨p0,r0,rfl,h0,q1⟩:=q0.cons_inv
 obtain ⟨x0,y0,w0⟩:=bq h0
 obtain ⟨p1,r1,rfl,h1,q2⟩:=q1.cons_inv
 obtain ⟨x1,y1,w1⟩:=bq h1
 obtain ⟨p2,r2,rfl,h2,q3⟩:=q2.cons_inv
 obtain ⟨x2,y2,w2⟩:=bq h2
 cases q3.iC
 refine ⟨⟨x0,x1,x2⟩,?_,⟨w0,w1,w2⟩⟩
 have hh:=(aF.append y0 (aF.append y1 (aF.append y2 aF.nil)))
 simpa only [Fact.cells,bS,kJ,pL,List.append_assoc,List.cons_append,List.nil_append,List.append_nil] using hh
theorem ae1 {ds:List D} (h:dw TT 29 ds):∃ l:List Fact,aF ds [mR Fact.cells l]∧(fun l=>∀ x,x∈l→Fact.ok x) l:=by
 obtain ⟨n,f,rfl,g⟩:=h.fC rfl rfl
 obtain ⟨l,y,-,w⟩:=kK Fact.cells Fact.ok (fun ds h=>Fact.of h) g
 exact ⟨l,aF.one y,w⟩
structure ai.ok (c:ai):Prop where
 aX:qA.ok c.aX
 ae:(fun l=>∀ x,x∈l→Sign.ok x) c.ae
 aL:(fun l=>∀ x,x∈l→cJ.ok x) c.aL
 aw:(fun l=>∀ x,x∈l→ba.ok x) c.aw
 facts:(fun l=>∀ x,x∈l→Fact.ok x) c.facts
theorem ai.of {ds:List D} (h:dw TT 31 ds):∃ c:ai,aF ds c.cells∧c.ok:=by
 have q0:=h.cU rfl rfl
 obtain ⟨p0,r0,rfl,h0,q1⟩:=q0.cons_inv
 obtain ⟨x0,y0,w0⟩:=qA.of h0
 obtain ⟨p1,r1,rfl,h1,q2⟩:=q1.cons_inv
 obtain ⟨x1,y1,w1⟩:=aeY h1
 obtain ⟨p2,r2,rfl,h2,q3⟩:=q2.cons_inv
 obtain ⟨x2,y2,w2⟩:=aeZ h2
 obtain ⟨p3,r3,rfl,h3,q4⟩:=q3.cons_inv
 obtain ⟨x3,y3,w3⟩:=ae0 h3
 obtain ⟨p4,r4,rfl,h4,q5⟩:=q4.cons_inv
 obtain ⟨x4,y4,w4⟩:=ae1 h4
 cases q5.iC
 refine ⟨⟨x0,x1,x2,x3,x4⟩,?_,⟨w0,w1,w2,w3,w4⟩⟩
 have hh:=(aF.append y0 (aF.append y1 (aF.append y2 (aF.append y3 (aF.append y4 aF.nil)))))
 simpa only [ai.cells,bS,kJ,pL,List.append_assoc,List.cons_append,List.nil_append,List.append_nil] using hh
theorem S4 {ds:List D} (h:dw TT 9 ds):∃ c:ByteArray,aF ds (kJ c)∧(fun s:ByteArray=>s.size≤maxLen) c:=by
 obtain ⟨x,rfl,w⟩:=h.acv rfl rfl
 exact ⟨x,aF.refl _,w⟩
theorem ae2 {ds:List D} (h:dw TT 42 ds):∃ l:List ByteArray,aF ds [mR kJ l]∧(fun l=>∀ x,x∈l→(fun s:ByteArray=>s.size≤maxLen) x) l:=by
 obtain ⟨n,f,rfl,g⟩:=h.fC rfl rfl
 obtain ⟨l,y,-,w⟩:=kK kJ (fun s:ByteArray=>s.size≤maxLen) (fun ds h=>S4 h) g
 exact ⟨l,aF.one y,w⟩
theorem S5 {ds:List D} (h:dw TT 105 ds):∃ l:List Int,aF ds [mR bS l]∧(fun l=>∀ x,x∈l→(fun n=>cY n) x) l:=by
 obtain ⟨n,f,rfl,g⟩:=h.fC rfl rfl
 obtain ⟨l,y,-,w⟩:=kK bS (fun n=>cY n) (fun ds h=>bq h) g
 exact ⟨l,aF.one y,w⟩
structure jg.ok (c:jg):Prop where
 name:(fun s:ByteArray=>s.size≤maxLen) c.name
 order:(fun n=>cY n) c.order
 aE:(fun n=>cY n) c.aE
 rest:(fun l=>∀ x,x∈l→(fun n=>cY n) x) c.rest
 j4:(fun l=>∀ x,x∈l→(fun n=>cY n) x) c.j4
 shut:(fun l=>∀ x,x∈l→(fun n=>cY n) x) c.shut
theorem jg.of {ds:List D} (h:dw TT 107 ds):∃ c:jg,aF ds c.cells∧c.ok:=by
 have q0:=h.cU rfl rfl
 obtain ⟨p0,r0,rfl,h0,q1⟩:=q0.cons_inv
 obtain ⟨x0,y0,w0⟩:=S4 h0
 obtain ⟨p1,r1,rfl,h1,q2⟩:=q1.cons_inv
 obtain ⟨x1,y1,w1⟩:=bq h1
 obtain ⟨p2,r2,rfl,h2,q3⟩:=q2.cons_inv
 obtain ⟨x2,y2,w2⟩:=bq h2
 obtain ⟨p3,r3,rfl,h3,q4⟩:=q3.cons_inv
 obtain ⟨x3,y3,w3⟩:=S5 h3
 obtain ⟨p4,r4,rfl,h4,q5⟩:=q4.cons_inv
 obtain ⟨x4,y4,w4⟩:=S5 h4
 obtain ⟨p5,r5,rfl,h5,q6⟩:=q5.cons_inv
 obtain ⟨x5,y5,w5⟩:=S5 h5
 cases q6.iC
 refine ⟨⟨x0,x1,x2,x3,x4,x5⟩,?_,⟨w0,w1,w2,w3,w4,w5⟩⟩
 have hh:=(aF.append y0 (aF.append y1 (aF.append y2 (aF.append y3 (aF.append y4 (aF.append y5 aF.nil))))))
 simpa only [jg.cells,bS,kJ,pL,List.append_assoc,List.cons_append,List.nil_append,List.append_nil] using hh
theorem ae3 {ds:List D} (h:dw TT 43 ds):∃ l:List jg,aF ds [mR jg.cells l]∧(fun l=>∀ x,x∈l→jg.ok x) l:=by
 obtain ⟨n,f,rfl,g⟩:=h.fC rfl rfl
 obtain ⟨l,y,-,w⟩:=kK jg.cells jg.ok (fun ds h=>jg.of h) g
 exact ⟨l,aF.one y,w⟩
structure iO.ok (c:iO):Prop where
 QJ:(fun n=>cY n) c.QJ
theorem iO.of {ds:List D} (h:dw TT 109 ds):∃ c:iO,aF ds c.cells∧c.ok:=by
 have q0:=h.cU rfl rfl
 obtain ⟨p0,r0,rfl,h0,q1⟩:=q0.cons_inv
 obtain ⟨x0,y0,w0⟩:=bq h0
 cases q1.iC
 refine ⟨⟨x0⟩,?_,⟨w0⟩⟩
 have hh:=(aF.append y0 aF.nil)
 simpa only [iO.cells,bS,kJ,pL,List.append_assoc,List.cons_append,List.nil_append,List.append_nil] using hh
theorem ae4 {ds:List D} (h:dw TT 44 ds):∃ l:List iO,aF ds [mR iO.cells l]∧(fun l=>∀ x,x∈l→iO.ok x) l:=by
 obtain ⟨n,f,rfl,g⟩:=h.fC rfl rfl
 obtain ⟨l,y,-,w⟩:=kK iO.cells iO.ok (fun ds h=>iO.of h) g
 exact ⟨l,aF.one y,w⟩
structure rV.ok (c:rV):Prop where
 name:(fun s:ByteArray=>s.size≤maxLen) c.name
 bK:(fun n=>cY n) c.bK
 group:(fun n=>cY n) c.group
theorem rV.of {ds:List D} (h:dw TT 111 ds):∃ c:rV,aF ds c.cells∧c.ok:=by
 have q0:=h.cU rfl rfl
 obtain ⟨p0,r0,rfl,h0,q1⟩:=q0.cons_inv
 obtain ⟨x0,y0,w0⟩:=S4 h0
 obtain ⟨p1,r1,rfl,h1,q2⟩:=q1.cons_inv
 obtain ⟨x1,y1,w1⟩:=bq h1
 obtain ⟨p2,r2,rfl,h2,q3⟩:=q2.cons_inv
 obtain ⟨x2,y2,w2⟩:=bq h2
 cases q3.iC
 refine ⟨⟨x0,x1,x2⟩,?_,⟨w0,w1,w2⟩⟩
 have hh:=(aF.append y0 (aF.append y1 (aF.append y2 aF.nil)))
 simpa only [rV.cells,bS,kJ,pL,List.append_assoc,List.cons_append,List.nil_append,List.append_nil] using hh
theorem ae5 {ds:List D} (h:dw TT 45 ds):∃ l:List rV,aF ds [mR rV.cells l]∧(fun l=>∀ x,x∈l→rV.ok x) l:=by
 obtain ⟨n,f,rfl,g⟩:=h.fC rfl rfl
 obtain ⟨l,y,-,w⟩:=kK rV.cells rV.ok (fun ds h=>rV.of h) g
 exact ⟨l,aF.one y,w⟩
theorem YD {ds:List D} (h:dw TT 4 ds):∃ c:Bool,aF ds (pL c)∧True:=by
 obtain ⟨x,rfl⟩:=h.aaN rfl rfl
 exact ⟨x,aF.refl _,trivial⟩
structure Choice.ok (c:Choice):Prop where
 ask:(fun n=>cY n) c.ask
 cz:(fun n=>cY n) c.cz
 whole:(fun _=>True) c.whole
theorem Choice.of {ds:List D} (h:dw TT 145 ds):∃ c:Choice,aF ds c.cells∧c.ok:=by
 have q0:=h.cU rfl rfl
 obtain ⟨p0,r0,rfl,h0,q1⟩:=q0.cons_inv
 obtain ⟨x0,y0,w0⟩:=bq h0
 obtain ⟨p1,r1,rfl,h1,q2⟩:=q1.cons_inv
 obtain ⟨x1,y1,w1⟩:=bq h1
 obtain ⟨p2,r2,rfl,h2,q3⟩:=q2.cons_inv
 obtain ⟨x2,y2,w2⟩:=YD h2
 cases q3.iC
 refine ⟨⟨x0,x1,x2⟩,?_,⟨w0,w1,w2⟩⟩
 have hh:=(aF.append y0 (aF.append y1 (aF.append y2 aF.nil)))
 simpa only [Choice.cells,bS,kJ,pL,List.append_assoc,List.cons_append,List.nil_append,List.append_nil] using hh
theorem adb {ds:List D} (h:dw TT 115 ds):∃ l:List Choice,aF ds [mR Choice.cells l]∧(fun l=>∀ x,x∈l→Choice.ok x) l:=by
 obtain ⟨n,f,rfl,g⟩:=h.fC rfl rfl
 obtain ⟨l,y,-,w⟩:=kK Choice.cells Choice.ok (fun ds h=>Choice.of h) g
 exact ⟨l,aF.one y,w⟩
theorem Term.ade {t:Nat} {ds:List D} (h:dw TT t ds):(t=104→∃ c:Term,aF ds c.kM)∧(t=102→∃ l:List Term,aF ds [mR Term.kM l]):=by
 refine dw.rec (motive_1:=fun t ds _=>(t=104→∃ c:Term,aF ds c.kM)∧(t=102→∃ l:List Term,aF ds [mR Term.kM l]))
  (motive_2:=fun ts ds _=>(ts=[]→ds=[])∧(ts=[102]→∃ l:List Term,aF ds [mR Term.kM l])∧(ts=[3,102]→∃ (n:Int) (l:List Term),aF ds [dI n,mR Term.kM l])∧(ts=[3,3,102]→∃ (m n:Int) (l:List Term),aF ds [dI m,dI n,mR Term.kM l])) ?_ ?_ ?_ ?_ ?_ ?_ ?_ h
 ·intro t i k hi hk n hw
  exact ⟨fun e=>(by subst e; cases hi; cases hk),fun e=>(by subst e; cases hi; cases hk)⟩
 ·intro t i hi hk b
  exact ⟨fun e=>(by subst e; cases hi; cases hk),fun e=>(by subst e; cases hi; cases hk)⟩
 ·intro t i hi hk s hw
  exact ⟨fun e=>(by subst e; cases hi; cases hk),fun e=>(by subst e; cases hi; cases hk)⟩
 ·intro t e i hi hk n f hh ih
  refine ⟨fun e=>(by subst e; cases hi; cases hk),fun e=>?_⟩
  subst e
  cases hi
  cases hk
  classical
  let g:Nat→Term:=fun j=>if hj:j < n then ((ih j hj).1 rfl).choose else default
  have hg:∀ j,j < n→aF (f j) (g j).kM:=fun j hj=>by
   simp only [g,hj,dif_pos]
   exact ((ih j hj).1 rfl).choose_spec
  refine ⟨(List.range n).map g,aF.one ?_⟩
  have e:mR Term.kM ((List.range n).map g)=.sl n fun i=>Term.kM (((List.range n).map g).getD i default):=by simp [mR]
  rw [e]
  refine su.adw fun i hi=>?_
  have:((List.range n).map g).getD i default=g i:=by simp [List.getD,hi]
  rw [this]
  exact hg i hi
 ·intro t i fs hi hk ds hs ih
  refine ⟨fun e=>?_,fun e=>(by subst e; cases hi; cases hk)⟩
  subst e
  cases hi
  cases hk
  obtain ⟨m,n,l,hl⟩:=ih.2.2.2 rfl
  refine ⟨⟨m,n,l⟩,?_⟩
  have h2:=(Term.Ux ⟨m,n,l⟩).2
  have:aF [dI m,dI n,mR Term.kM l] (Term.kM ⟨m,n,l⟩):=aF.cons su.rfl' (aF.cons su.rfl' (aF.one h2))
  exact ⟨hl.1.trans this.1,fun j hj=>(hl.2 j hj).trans (this.2 j (by rw [← hl.1]; exact hj))⟩
 ·exact ⟨fun _=>rfl,fun e=>(by cases e),fun e=>(by cases e),fun e=>(by cases e)⟩
 ·intro t ts p ds hp hs ih1 ih2
  refine ⟨fun e=>(by cases e),fun e=>?_,fun e=>?_,fun e=>?_⟩
  ·cases e
   obtain ⟨l,hl⟩:=ih1.2 rfl
   have:=ih2.1 rfl
   subst this
   exact ⟨l,by simpa using hl⟩
  ·cases e
   obtain ⟨x,rfl,w⟩:=hp.nZ rfl rfl
   obtain ⟨l,hl⟩:=ih2.2.1 rfl
   exact ⟨x,l,aF.append (aF.refl _) hl⟩
  ·cases e
   obtain ⟨x,rfl,w⟩:=hp.nZ rfl rfl
   obtain ⟨n,l,hl⟩:=ih2.2.2.1 rfl
   exact ⟨x,n,l,aF.append (aF.refl _) hl⟩
theorem Term.ofR {ds:List D} (h:dw TT 104 ds):∃ c:Term,aF ds c.kM∧True:=by
 obtain ⟨c,hc⟩:=(Term.ade h).1 rfl
 exact ⟨c,hc,trivial⟩
theorem Term.of {ds:List D} (h:dw TT 104 ds):∃ c:Term,aF ds c.cells∧True:=by
 obtain ⟨c,hc,_⟩:=Term.ofR h
 have hu:=c.MR
 exact ⟨c,⟨hc.1.trans hu.1,fun j hj=>(hc.2 j hj).trans (hu.2 j (by rw [← hc.1]; exact hj))⟩,trivial⟩
structure kF.ok (c:kF):Prop where
 ask:(fun n=>cY n) c.ask
 term:(fun _=>True) c.term
theorem kF.of {ds:List D} (h:dw TT 113 ds):∃ c:kF,aF ds c.cells∧c.ok:=by
 have q0:=h.cU rfl rfl
 obtain ⟨p0,r0,rfl,h0,q1⟩:=q0.cons_inv
 obtain ⟨x0,y0,w0⟩:=bq h0
 obtain ⟨p1,r1,rfl,h1,q2⟩:=q1.cons_inv
 obtain ⟨x1,y1,w1⟩:=Term.of h1
 cases q2.iC
 refine ⟨⟨x0,x1⟩,?_,⟨w0,w1⟩⟩
 have hh:=(aF.append y0 (aF.append y1 aF.nil))
 simpa only [kF.cells,bS,kJ,pL,List.append_assoc,List.cons_append,List.nil_append,List.append_nil] using hh
theorem adf {ds:List D} (h:dw TT 114 ds):∃ l:List kF,aF ds [mR kF.cells l]∧(fun l=>∀ x,x∈l→kF.ok x) l:=by
 obtain ⟨n,f,rfl,g⟩:=h.fC rfl rfl
 obtain ⟨l,y,-,w⟩:=kK kF.cells kF.ok (fun ds h=>kF.of h) g
 exact ⟨l,aF.one y,w⟩
structure Order.ok (c:Order):Prop where
 name:(fun s:ByteArray=>s.size≤maxLen) c.name
 BA:(fun _=>True) c.BA
 bG:(fun l=>∀ x,x∈l→Choice.ok x) c.bG
 rules:(fun l=>∀ x,x∈l→kF.ok x) c.rules
theorem Order.of {ds:List D} (h:dw TT 117 ds):∃ c:Order,aF ds c.cells∧c.ok:=by
 have q0:=h.cU rfl rfl
 obtain ⟨p0,r0,rfl,h0,q1⟩:=q0.cons_inv
 obtain ⟨x0,y0,w0⟩:=S4 h0
 obtain ⟨p1,r1,rfl,h1,q2⟩:=q1.cons_inv
 obtain ⟨x1,y1,w1⟩:=YD h1
 obtain ⟨p2,r2,rfl,h2,q3⟩:=q2.cons_inv
 obtain ⟨x2,y2,w2⟩:=adb h2
 obtain ⟨p3,r3,rfl,h3,q4⟩:=q3.cons_inv
 obtain ⟨x3,y3,w3⟩:=adf h3
 cases q4.iC
 refine ⟨⟨x0,x1,x2,x3⟩,?_,⟨w0,w1,w2,w3⟩⟩
 have hh:=(aF.append y0 (aF.append y1 (aF.append y2 (aF.append y3 aF.nil))))
 simpa only [Order.cells,bS,kJ,pL,List.append_assoc,List.cons_append,List.nil_append,List.append_nil] using hh
theorem ae6 {ds:List D} (h:dw TT 46 ds):∃ l:List Order,aF ds [mR Order.cells l]∧(fun l=>∀ x,x∈l→Order.ok x) l:=by
 obtain ⟨n,f,rfl,g⟩:=h.fC rfl rfl
 obtain ⟨l,y,-,w⟩:=kK Order.cells Order.ok (fun ds h=>Order.of h) g
 exact ⟨l,aF.one y,w⟩
structure eI.ok (c:eI):Prop where
 from_:(fun n=>cY n) c.from_
 cw:(fun n=>cY n) c.cw
 days:(fun n=>cY n) c.days
theorem eI.of {ds:List D} (h:dw TT 147 ds):∃ c:eI,aF ds c.cells∧c.ok:=by
 have q0:=h.cU rfl rfl
 obtain ⟨p0,r0,rfl,h0,q1⟩:=q0.cons_inv
 obtain ⟨x0,y0,w0⟩:=bq h0
 obtain ⟨p1,r1,rfl,h1,q2⟩:=q1.cons_inv
 obtain ⟨x1,y1,w1⟩:=bq h1
 obtain ⟨p2,r2,rfl,h2,q3⟩:=q2.cons_inv
 obtain ⟨x2,y2,w2⟩:=bq h2
 cases q3.iC
 refine ⟨⟨x0,x1,x2⟩,?_,⟨w0,w1,w2⟩⟩
 have hh:=(aF.append y0 (aF.append y1 (aF.append y2 aF.nil)))
 simpa only [eI.cells,bS,kJ,pL,List.append_assoc,List.cons_append,List.nil_append,List.append_nil] using hh
theorem ae7 {ds:List D} (h:dw TT 47 ds):∃ l:List eI,aF ds [mR eI.cells l]∧(fun l=>∀ x,x∈l→eI.ok x) l:=by
 obtain ⟨n,f,rfl,g⟩:=h.fC rfl rfl
 obtain ⟨l,y,-,w⟩:=kK eI.cells eI.ok (fun ds h=>eI.of h) g
 exact ⟨l,aF.one y,w⟩
structure pk.ok (c:pk):Prop where
 from_:(fun n=>cY n) c.from_
 cw:(fun n=>cY n) c.cw
 num:(fun n=>cY n) c.num
 den:(fun n=>cY n) c.den
 since:(fun n=>cY n) c.since
theorem pk.of {ds:List D} (h:dw TT 149 ds):∃ c:pk,aF ds c.cells∧c.ok:=by
 have q0:=h.cU rfl rfl
 obtain ⟨p0,r0,rfl,h0,q1⟩:=q0.cons_inv
 obtain ⟨x0,y0,w0⟩:=bq h0
 obtain ⟨p1,r1,rfl,h1,q2⟩:=q1.cons_inv
 obtain ⟨x1,y1,w1⟩:=bq h1
 obtain ⟨p2,r2,rfl,h2,q3⟩:=q2.cons_inv
 obtain ⟨x2,y2,w2⟩:=bq h2
 obtain ⟨p3,r3,rfl,h3,q4⟩:=q3.cons_inv
 obtain ⟨x3,y3,w3⟩:=bq h3
 obtain ⟨p4,r4,rfl,h4,q5⟩:=q4.cons_inv
 obtain ⟨x4,y4,w4⟩:=bq h4
 cases q5.iC
 refine ⟨⟨x0,x1,x2,x3,x4⟩,?_,⟨w0,w1,w2,w3,w4⟩⟩
 have hh:=(aF.append y0 (aF.append y1 (aF.append y2 (aF.append y3 (aF.append y4 aF.nil)))))
 simpa only [pk.cells,bS,kJ,pL,List.append_assoc,List.cons_append,List.nil_append,List.append_nil] using hh
theorem ae8 {ds:List D} (h:dw TT 48 ds):∃ l:List pk,aF ds [mR pk.cells l]∧(fun l=>∀ x,x∈l→pk.ok x) l:=by
 obtain ⟨n,f,rfl,g⟩:=h.fC rfl rfl
 obtain ⟨l,y,-,w⟩:=kK pk.cells pk.ok (fun ds h=>pk.of h) g
 exact ⟨l,aF.one y,w⟩
structure Halt.ok (c:Halt):Prop where
 order:(fun n=>cY n) c.order
 from_:(fun n=>cY n) c.from_
 cw:(fun n=>cY n) c.cw
theorem Halt.of {ds:List D} (h:dw TT 151 ds):∃ c:Halt,aF ds c.cells∧c.ok:=by
 have q0:=h.cU rfl rfl
 obtain ⟨p0,r0,rfl,h0,q1⟩:=q0.cons_inv
 obtain ⟨x0,y0,w0⟩:=bq h0
 obtain ⟨p1,r1,rfl,h1,q2⟩:=q1.cons_inv
 obtain ⟨x1,y1,w1⟩:=bq h1
 obtain ⟨p2,r2,rfl,h2,q3⟩:=q2.cons_inv
 obtain ⟨x2,y2,w2⟩:=bq h2
 cases q3.iC
 refine ⟨⟨x0,x1,x2⟩,?_,⟨w0,w1,w2⟩⟩
 have hh:=(aF.append y0 (aF.append y1 (aF.append y2 aF.nil)))
 simpa only [Halt.cells,bS,kJ,pL,List.append_assoc,List.cons_append,List.nil_append,List.append_nil] using hh
theorem ae9 {ds:List D} (h:dw TT 49 ds):∃ l:List Halt,aF ds [mR Halt.cells l]∧(fun l=>∀ x,x∈l→Halt.ok x) l:=by
 obtain ⟨n,f,rfl,g⟩:=h.fC rfl rfl
 obtain ⟨l,y,-,w⟩:=kK Halt.cells Halt.ok (fun ds h=>Halt.of h) g
 exact ⟨l,aF.one y,w⟩
structure ah.ok (c:ah):Prop where
 eJ:(fun l=>∀ x,x∈l→(fun s:ByteArray=>s.size≤maxLen) x) c.eJ
 bo:(fun l=>∀ x,x∈l→jg.ok x) c.bo
 oW:(fun l=>∀ x,x∈l→iO.ok x) c.oW
 bU:(fun l=>∀ x,x∈l→rV.ok x) c.bU
 aN:(fun l=>∀ x,x∈l→Order.ok x) c.aN
 bR:(fun l=>∀ x,x∈l→eI.ok x) c.bR
 aI:(fun l=>∀ x,x∈l→pk.ok x) c.aI
 gq:(fun l=>∀ x,x∈l→Halt.ok x) c.gq
theorem ah.of {ds:List D} (h:dw TT 51 ds):∃ c:ah,aF ds c.cells∧c.ok:=by
 have q0:=h.cU rfl rfl
 obtain ⟨p0,r0,rfl,h0,q1⟩:=q0.cons_inv
 obtain ⟨x0,y0,w0⟩:=ae2 h0
 obtain ⟨p1,r1,rfl,h1,q2⟩:=q1.cons_inv
 obtain ⟨x1,y1,w1⟩:=ae3 h1
 obtain ⟨p2,r2,rfl,h2,q3⟩:=q2.cons_inv
 obtain ⟨x2,y2,w2⟩:=ae4 h2
 obtain ⟨p3,r3,rfl,h3,q4⟩:=q3.cons_inv
 obtain ⟨x3,y3,w3⟩:=ae5 h3
 obtain ⟨p4,r4,rfl,h4,q5⟩:=q4.cons_inv
 obtain ⟨x4,y4,w4⟩:=ae6 h4
 obtain ⟨p5,r5,rfl,h5,q6⟩:=q5.cons_inv
 obtain ⟨x5,y5,w5⟩:=ae7 h5
 obtain ⟨p6,r6,rfl,h6,q7⟩:=q6.cons_inv
 obtain ⟨x6,y6,w6⟩:=ae8 h6
 obtain ⟨p7,r7,rfl,h7,q8⟩:=q7.cons_inv
 obtain ⟨x7,y7,w7⟩:=ae9 h7
 cases q8.iC
 refine ⟨⟨x0,x1,x2,x3,x4,x5,x6,x7⟩,?_,⟨w0,w1,w2,w3,w4,w5,w6,w7⟩⟩
 have hh:=(aF.append y0 (aF.append y1 (aF.append y2 (aF.append y3 (aF.append y4 (aF.append y5 (aF.append y6 (aF.append y7 aF.nil))))))))
 simpa only [ah.cells,bS,kJ,pL,List.append_assoc,List.cons_append,List.nil_append,List.append_nil] using hh
structure Claim.ok (c:Claim):Prop where
 aW:(fun n=>cY n) c.aW
 az:(fun n=>cY n) c.az
 part:(fun n=>cY n) c.part
 sign:(fun n=>cY n) c.sign
 cz:(fun n=>cY n) c.cz
 eD:(fun n=>cY n) c.eD
 sum:(fun n=>cY n) c.sum
 aE:(fun n=>cY n) c.aE
 state:(fun n=>cY n) c.state
theorem Claim.of {ds:List D} (h:dw TT 53 ds):∃ c:Claim,aF ds c.cells∧c.ok:=by
 have q0:=h.cU rfl rfl
 obtain ⟨p0,r0,rfl,h0,q1⟩:=q0.cons_inv
 obtain ⟨x0,y0,w0⟩:=bq h0
 obtain ⟨p1,r1,rfl,h1,q2⟩:=q1.cons_inv
 obtain ⟨x1,y1,w1⟩:=bq h1
 obtain ⟨p2,r2,rfl,h2,q3⟩:=q2.cons_inv
 obtain ⟨x2,y2,w2⟩:=bq h2
 obtain ⟨p3,r3,rfl,h3,q4⟩:=q3.cons_inv
 obtain ⟨x3,y3,w3⟩:=bq h3
 obtain ⟨p4,r4,rfl,h4,q5⟩:=q4.cons_inv
 obtain ⟨x4,y4,w4⟩:=bq h4
 obtain ⟨p5,r5,rfl,h5,q6⟩:=q5.cons_inv
 obtain ⟨x5,y5,w5⟩:=bq h5
 obtain ⟨p6,r6,rfl,h6,q7⟩:=q6.cons_inv
 obtain ⟨x6,y6,w6⟩:=bq h6
 obtain ⟨p7,r7,rfl,h7,q8⟩:=q7.cons_inv
 obtain ⟨x7,y7,w7⟩:=bq h7
 obtain ⟨p8,r8,rfl,h8,q9⟩:=q8.cons_inv
 obtain ⟨x8,y8,w8⟩:=bq h8
 cases q9.iC
 refine ⟨⟨x0,x1,x2,x3,x4,x5,x6,x7,x8⟩,?_,⟨w0,w1,w2,w3,w4,w5,w6,w7,w8⟩⟩
 have hh:=(aF.append y0 (aF.append y1 (aF.append y2 (aF.append y3 (aF.append y4 (aF.append y5 (aF.append y6 (aF.append y7 (aF.append y8 aF.nil)))))))))
 simpa only [Claim.cells,bS,kJ,pL,List.append_assoc,List.cons_append,List.nil_append,List.append_nil] using hh
end
end
end Go.Proofs.YtkbkoaoolojhaaaGreatDoor
