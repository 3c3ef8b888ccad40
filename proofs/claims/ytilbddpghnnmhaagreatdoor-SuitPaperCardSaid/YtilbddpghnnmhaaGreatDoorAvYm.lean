/- slices.Sort and slices.Compact of a call's own row of ints, by the contracts of the kit's shelf. -/
import Derived.Test.YtilbddpghnnmhaaGreatDoorAvT
import Derived.Sort.OwnSortedInts
set_option linter.unusedSimpArgs false
set_option linter.unusedVariables false
namespace Go.Av
open Go Go.Sort
set_option linter.unusedSectionVars false
variable [qz]
def UI (l:List Int):List Int:=l.mergeSort fun x y=>decide (x≤y)
variable {w : World} {S : Nat → Prop} {μ : Mu} {e g c : Nat} {L : List Int}
theorem zjt (h:qd w S μ (jz e 1 jC L) g c):Holds (Value.int .i64) w g 0 L.toArray∧∃ cur,w.heap[g]? = some (.cells cur e (0,0))∧L.length≤c∧c≤maxLen∧cur.size=c:=by
 obtain ⟨cur,hg,hns,hcs,hnc,hcm,hrow⟩:=h
 refine ⟨fun j hj=>?_,cur,hg,hnc,hcm,by omega⟩
 have hj':j < L.length:=by simpa using hj
 refine ⟨?_,by simp [World.frozen?,hg]⟩
 obtain ⟨x,hx,hr⟩:=(hrow j hj').2 0 (by omega)
 have hx:cur[j]? = some x:=by simpa using hx
 have hr:Rd w S (.v (.int .i64 (L.getD j default))) x:=by simpa [jC,dI] using hr
 cases hr
 simp only [World.cell?,hg,Nat.zero_add]
 simp only [Option.isSome_none,Bool.false_eq_true,if_false,hx]
 simp [List.getD,hj']
theorem zoH {k:Nat} {os:Array Obj} {d L':List Int} (h:qd w S μ (jz e 1 jC L) g c) (hd:d.length≤c) (hl:L'.length≤d.length) (he:∀ i,i < L'.length→d.getD i default=L'.getD i default) :
  qd (grow (putRow (Value.int .i64) (Sort.ahead w k) g 0 d.toArray) os) S μ (jz e 1 jC L') g c:=by
 obtain ⟨cur,hg,hns,hcs,hnc,hcm,hrow⟩:=h
 refine ⟨_,heap_sortedI d.toArray hg,hns,by simpa [putCells] using hcs,by omega,hcm,fun i hi=>⟨rfl,fun j hj=>?_⟩⟩
 have hj0:j=0:=by omega
 subst hj0
 have hid:i < d.length:=by omega
 have hic:i < cur.size:=by omega
 refine ⟨.int .i64 (L'.getD i default),?_,Rd.v _ rfl⟩
 have:=he i hi
 simp only [putCells,Nat.mul_one,Nat.add_zero,Nat.zero_le,Nat.zero_add,Nat.sub_zero,true_and,Array.getElem?_mapIdx,List.size_toArray,hid,if_true]
 rw [Array.getElem?_eq_getElem hic]
 simp only [Option.map_some,Option.some.injEq,Value.int.injEq,true_and]
 rw [← this]
 simp [List.getD,hid]
theorem zdk {k:Nat} {os:Array Obj} {d:Array Int} {κ:Nat} (h:μ κ=some (some (g,c))):Kept w (grow (putRow (Value.int .i64) (Sort.ahead w k) g 0 d) os) (fun q=>∃ c,μ κ=some (some (q,c))):=by
 have hb:=grownBy_sortedI (w:=w) (g:=g) (n:=k) (os:=os) d
 exact ⟨hb.os,hb.tape,hb.output,hb.size,fun b hlt hb'=>hb.block b hlt (fun e=>by cases e; exact hb' ⟨c,h⟩)⟩
theorem zqx {P:Program} {f:FuncId} (hc:qV P f=true)
  (h1:∀ (blk off cap:Nat) (zs:List Int) (w:World),Holds (Value.int .i64) w blk off zs.toArray→blk < w.heap.size→zs.length < 4611686018427387904 →
   Calls P f #[.slice (some ⟨blk,off,none⟩) zs.length cap] w fun e w'=>e=.returned (.tuple #[])∧∃ n os,w'=grow (putRow (Value.int .i64) (Sort.ahead w n) blk off (zs.mergeSort fun x y=>decide (x≤y)).toArray) os)
  (h0:∀ (p:Option Addr) (cap:Nat) (w:World),Calls P f #[.slice p 0 cap] w fun e w'=>e=.returned (.tuple #[])∧w'=w) (κ e:Nat) (L:List Int) (hL:L.length < 4611686018427387904) :
  FnS P f [ow κ L] κ (jz e 1 jC L) (jz e 1 jC (UI L)):=by
 refine ⟨hc,fun w S μ vs hS hg hr hb=>?_⟩
 obtain ⟨v,rfl⟩:∃ v,vs = #[v]:=by
  have:=(hr fun _=>false).1
  match vs,this with
  | ⟨[v]⟩,_=>exact ⟨v,rfl⟩
 have hv:Rel w S μ (fun _=>false) (.own κ L.length) v:=by simpa using (hr fun _=>false).2 0 (by simp)
 have hsl:(UI L).length=L.length:=by simp [UI]
 generalize hn:L.length=n at hv
 cases hv with
 | ownNil hm =>
  refine (h0 _ _ w).mono ?_
  rintro e' w' ⟨rfl,rfl⟩
  refine ⟨⟨_,rfl⟩,?_,Kept.refl _ _⟩
  rw [hm]
  show (UI L).length=0
  omega
 | @own _ _ g cap hm =>
  rw [hm] at hb
  have hat:qd w S μ (jz e 1 jC L) g cap:=hb
  obtain ⟨q1,cur,q2,q3,q4,q5⟩:=zjt hat
  subst hn
  refine (h1 g 0 cap L w q1 (Array.getElem?_eq_some_iff.1 q2).1 hL).mono ?_
  rintro e' w' ⟨rfl,k,os,rfl⟩
  refine ⟨⟨_,rfl⟩,?_,zdk hm⟩
  rw [hm]
  exact zoH (d:=UI L) (L':=UI L) hat (by omega) (Nat.le_refl _) (fun _ _=>rfl)
theorem zme {P:Program} {f:FuncId} (hc:qV P f=true) (L L':List Int) (hl:L'.length≤L.length)
  (h1:∀ (blk cap:Nat) (w:World),Holds (Value.int .i64) w blk 0 L.toArray→L.length≤9223372036854775807→L.length≤cap →
   Calls P f #[.slice (some ⟨blk,0,none⟩) L.length cap] w fun e w'=>e=.returned (.slice (some ⟨blk,0,none⟩) L'.length cap)∧∃ q,w'=putRow (Value.int .i64) (Sort.ahead w q) blk 0 (L'++List.replicate (L.length - L'.length) 0).toArray)
  (h0:∀ (p:Option Addr) (cap:Nat) (w:World),Calls P f #[.slice p 0 cap] w fun e w'=>e=.returned (.slice p 0 cap)∧w'=w) (κ κ' e:Nat) :
  FnA P f [ow κ L] [(κ,jz e 1 jC L)] (ow κ' L') [(κ',jz e 1 jC L')]:=by
 refine ⟨hc,fun w S μ vs hS hg hr hb hi=>?_⟩
 obtain ⟨v,rfl⟩:∃ v,vs = #[v]:=by
  have:=(hr fun _=>false).1
  match vs,this with
  | ⟨[v]⟩,_=>exact ⟨v,rfl⟩
 have hv:Rel w S μ (fun _=>false) (.own κ L.length) v:=by simpa using (hr fun _=>false).2 0 (by simp)
 have hb:=hb κ (jz e 1 jC L) (by simp [look])
 have lk:∀ k b,look [(κ',jz e 1 jC L')] k=some b→k=κ'∧b=jz e 1 jC L':=fun k b h=>by
  simp only [jL] at h
  split at h
  ·rename_i e'; exact ⟨e'.symm,by simpa using h.symm⟩
  ·cases h
 have inj:∀ μ':Mu,zoO [(κ',jz e 1 jC L')] μ':=fun μ' k1 k2 b1 b2 g c c' h1 h2 _ _=>((lk _ _ h1).1).trans ((lk _ _ h2).1).symm
 generalize hn:L.length=n at hv
 cases hv with
 | @ownNil _ ad hm =>
  refine (h0 _ _ w).mono ?_
  rintro e' w' ⟨rfl,rfl⟩
  have hz:L'.length=0:=by omega
  refine ⟨_,S,fun k=>if k=κ' then some none else none,rfl,⟨fun ν=>?_,fun k b h=>?_,inj _,fun k b g c h hm'=>?_,fun _ h=>h,fun _ h=>.inl h,hS,Kept.refl _ _⟩⟩
  ·show Rel _ _ _ _ (.own κ' L'.length) _
   rw [hz]
   exact .ownNil (by simp)
  ·obtain ⟨rfl,rfl⟩:=lk k b h
   simp only [if_true]
   exact hz
  ·obtain ⟨rfl,rfl⟩:=lk k b h
   simp at hm'
 | @own _ _ g cap hm =>
  rw [hm] at hb
  have hat:qd w S μ (jz e 1 jC L) g cap:=hb
  obtain ⟨q1,cur,q2,q3,q4,q5⟩:=zjt hat
  subst hn
  have h4:=q4
  simp only [maxLen] at h4
  refine (h1 g cap w q1 (by omega) q3).mono ?_
  rintro e' w' ⟨rfl,k,rfl⟩
  have egrow:∀ W:World,W=grow W #[]:=fun W=>by simp [grow]
  have hput:qd (putRow (Value.int .i64) (Sort.ahead w k) g 0 (L'++List.replicate (L.length - L'.length) 0).toArray) S (fun k=>if k=κ' then some (some (g,cap)) else none) (jz e 1 jC L') g cap:=by
   rw [egrow (putRow _ _ _ _ _)]
   exact zoH (d:=L'++List.replicate (L.length - L'.length) 0) (L':=L') hat (by simp; omega) (by simp) (fun i hi=>by simp [List.getD,List.getElem?_append_left hi])
  have hk:Kept w (putRow (Value.int .i64) (Sort.ahead w k) g 0 (L'++List.replicate (L.length - L'.length) 0).toArray) (Handed [(κ,jz e 1 jC L)] μ):=by
   rw [egrow (putRow _ _ _ _ _)]
   exact (zdk hm).mono' (fun q ⟨c,hq⟩=>⟨κ,jz e 1 jC L,c,by simp [look],hq⟩)
  refine ⟨_,S,fun k=>if k=κ' then some (some (g,cap)) else none,rfl,⟨fun ν=>.own (by simp),fun k b h=>?_,inj _,fun k b g' c h hm'=>?_,fun _ h=>h,fun _ h=>.inl h,fun b hb'=>Nat.lt_of_lt_of_le (hS b hb') hk.size,hk⟩⟩
  ·obtain ⟨rfl,rfl⟩:=lk k b h
   simp only [if_true]
   exact hput
  ·obtain ⟨rfl,rfl⟩:=lk k b h
   simp only [if_true,Option.some.injEq,Prod.mk.injEq] at hm'
   obtain ⟨rfl,rfl⟩:=hm'
   exact .inr ⟨κ,jz e 1 jC L,cap,by simp [look],hm⟩
end Go.Av
