/- Operations that make or write memory. -/
import Derived.Test.YtilbddpghnnmhaaGreatDoorAvI
set_option linter.unusedSimpArgs false
set_option linter.unusedVariables false
namespace Go.Av
open Go
set_option linter.unusedSectionVars false
variable [qz]
section
variable {C : Cx} {A : M} {a : Act} {w : World} {S : Nat → Prop} {μ : Mu} {ν : Nat → Bool}
def kJ (μ:Mu) (κ:Nat) (y:Option (Option (Nat × Nat))):Mu:=fun k=>if k=κ then y else μ k
theorem kept_alloc (w:World) (o:Obj) (T:Nat→Prop):Kept w (w.alloc o) T:=⟨rfl,rfl,rfl,by simp,fun b hb _=>heap_alloc_old w o hb⟩
theorem Sim.alloc (h:Sim C A a w S μ ν) {κ:Nat} (hf:uO A κ) {b:Blk} {cur:Array Value} {e:TypeId} {cap:Nat} (hk:κ ∉ b.keys)
  (hb:qd (w.alloc (.cells cur e)) S μ b w.heap.size cap):Sim C (A.set κ (some b)) a (w.alloc (.cells cur e)) S (kJ μ κ (some (some (w.heap.size,cap)))) ν:=by
 have h0:=(h.forget hf).world (S':=S) (w':=w.alloc (.cells cur e)) (fun _ x=>x) (fun _ x=>.inl x) (kept_alloc w _ _)
 have hext:∀ k y,(if k=κ then none else μ k)=some y→kJ μ κ (some (some (w.heap.size,cap))) k=some y:=by
  intro k y hy
  by_cases c:k=κ
  ·simp [c] at hy
  ·simpa [kJ,c] using hy
 have hlt:∀ κ' b' g c,A.lb κ'=some b'→μ κ'=some (some (g,c))→g < w.heap.size:=fun κ' b' g c h1 h2=>by
  have:=h.mem κ' b' h1
  rw [h2] at this
  exact this.at.lt
 refine ⟨h0.tmps,h0.defers,fun t=>(h0.slots t).mono (fun _ x=>x) (fun _ _=>rfl) hext,fun κ' b' hb'=>?_,fun κ1 κ2 b1 b2 g c c' h1 h2 h3 h4=>?_,fun κ' b' g c h1 h2=>?_,h0.stable,h0.fresh,h0.bound,h0.kept⟩
 ·simp only [M.set] at hb'
  by_cases c:κ'=κ
  ·simp only [c,if_true,Option.some.injEq] at hb'
   subst hb'
   rw [c]
   simp only [kJ,if_true]
   exact ((hb.forget hk).mono (fun _ x=>x) (fun _ _=>rfl) hext rfl hb.not).ok
  ·simp only [c,if_false] at hb'
   have hm:=h0.mem κ' b' hb'
   simp only [c,if_false] at hm
   have:kJ μ κ (some (some (w.heap.size,cap))) κ'=μ κ':=by simp [kJ,c]
   rw [this]
   refine hm.mono (fun _ x=>x) (fun _ _=>rfl) hext (fun g cc e=>⟨rfl,?_⟩)
   rw [e] at hm
   exact hm.at.not
 ·simp only [M.set] at h1 h2
  by_cases c1:κ1=κ
  ·by_cases c2:κ2=κ
   ·rw [c1,c2]
   ·simp only [c1,kJ,if_true,Option.some.injEq,Prod.mk.injEq] at h3
    simp only [c2,if_false] at h2
    simp only [kJ,c2,if_false] at h4
    have:=hlt κ2 b2 g c' h2 h4
    omega
  ·simp only [c1,if_false] at h1
   simp only [kJ,c1,if_false] at h3
   by_cases c2:κ2=κ
   ·simp only [c2,kJ,if_true,Option.some.injEq,Prod.mk.injEq] at h4
    have:=hlt κ1 b1 g c h1 h3
    omega
   ·simp only [c2,if_false] at h2
    simp only [kJ,c2,if_false] at h4
    exact h.inj κ1 κ2 b1 b2 g c c' h1 h2 h3 h4
 ·simp only [M.set] at h1
  by_cases c1:κ'=κ
  ·simp only [c1,kJ,if_true,Option.some.injEq,Prod.mk.injEq] at h2
   left
   rw [← h2.1]
   exact h.kept.size
  ·simp only [c1,if_false] at h1
   simp only [kJ,c1,if_false] at h2
   exact h.own κ' b' g c h1 h2
theorem Sim.write (h:Sim C A a w S μ ν) {κ g cap:Nat} {b b':Blk} (hκ:A.lb κ=some b) (hμ:μ κ=some (some (g,cap))) {cur:Array Value}
  (hb:qd (w.setRow g cur) S μ b' g cap):Sim C (A.set κ (some b')) a (w.setRow g cur) S μ ν:=by
 have hno:=h.mem κ b hκ
 rw [hμ] at hno
 have hns:=hno.at.not
 have hoth:∀ k,k≠g→(w.setRow g cur).heap[k]? = w.heap[k]?:=fun k hk=>setRow_other w g k cur hk
 have hw:∀ q,S q→(w.setRow g cur).heap[q]? = w.heap[q]?:=fun q hq=>hoth q (fun e=>hns (e ▸ hq))
 refine ⟨h.tmps,h.defers,fun t=>(h.slots t).mono (fun _ x=>x) hw (fun _ _ x=>x),fun κ' b'' hb''=>?_,fun κ1 κ2 b1 b2 g' c c' h1 h2 h3 h4=>?_,fun κ' b'' g' c h1 h2=>?_,h.stable,h.fresh,fun q hq=>?_,?_⟩
 ·simp only [M.set] at hb''
  by_cases c:κ'=κ
  ·simp only [c,if_true,Option.some.injEq] at hb''
   subst hb''
   rw [c,hμ]
   exact hb.ok
  ·simp only [c,if_false] at hb''
   have hm:=h.mem κ' b'' hb''
   refine hm.mono (fun _ x=>x) hw (fun _ _ x=>x) (fun g' cc e=>?_)
   have hmm:=hm
   rw [e] at hmm
   exact ⟨hoth g' (fun eg=>c (h.inj κ' κ b'' b g' cc cap hb'' hκ e (by rw [eg]; exact hμ))),hmm.at.not⟩
 ·have q1:∃ x,A.lb κ1=some x:=by
   simp only [M.set] at h1
   by_cases c:κ1=κ
   ·rw [c]; exact ⟨b,hκ⟩
   ·simp only [c,if_false] at h1; exact ⟨_,h1⟩
  have q2:∃ x,A.lb κ2=some x:=by
   simp only [M.set] at h2
   by_cases c:κ2=κ
   ·rw [c]; exact ⟨b,hκ⟩
   ·simp only [c,if_false] at h2; exact ⟨_,h2⟩
  obtain ⟨x1,q1⟩:=q1
  obtain ⟨x2,q2⟩:=q2
  exact h.inj κ1 κ2 x1 x2 g' c c' q1 q2 h3 h4
 ·have q1:∃ x,A.lb κ'=some x:=by
   simp only [M.set] at h1
   by_cases c:κ'=κ
   ·rw [c]; exact ⟨b,hκ⟩
   ·simp only [c,if_false] at h1; exact ⟨_,h1⟩
  obtain ⟨x1,q1⟩:=q1
  exact h.own κ' x1 g' c q1 h2
 ·have:=h.bound q hq
  simpa using this
 ·refine h.kept.trans (T':=fun q=>q=g) ⟨rfl,rfl,rfl,by simp,fun q _ hq=>hoth q hq⟩ (fun q hq e=>?_)
  subst e
  rcases h.own κ b q cap hκ hμ with h1 | h1
  ·omega
  ·exact h1
theorem QO {A:M} {dst κ:Nat} {v:AV} {b:Blk} {need:List (Nat × AV)} {ro:List (Nat × Blk)} {gs:List (Nat × Bool)}:(Tr.mk need (some dst) v ro [] [(κ,b)] gs).apply A=(A.set κ (some b)).put dst v:=by
 unfold Tr.apply M.put M.set
 simp only [List.map_nil,List.not_mem_nil,if_false,Option.some.injEq]
 congr 1
 ·funext t
  by_cases c:t=dst
  ·simp [c]
  ·have:¬ dst=t:=fun e=>c e.symm
   simp [c,this]
 ·funext k
  by_cases c:k=κ
  ·subst c; simp [look]
  ·have:Nat.beq κ k=false:=by
    cases hb:Nat.beq κ k with
    | true=>exact absurd (Nat.eq_of_beq_eq_true hb).symm c
    | false=>rfl
   simp [look,this,c]
def noG:AV→Bool
 | .g _ _=>false
 | .fn _ l=>noGL l
 | .tup l=>noGL l
 | .ag l=>noGL l
 | _=>true
where noGL:List AV→Bool
 | []=>true
 | x :: r=>noG x&&noGL r
theorem QX:∀ (l:List AV) (i:Nat),noG.noGL l=true→i < l.length→noG (l.getD i default)=true
 | [],i,_,hi=>absurd hi (by simp)
 | x :: r,0,h,_=>by simp only [noG.noGL,Bool.and_eq_true] at h; simpa using h.1
 | x :: r,i+1,h,hi=>by
  simp only [noG.noGL,Bool.and_eq_true] at h
  have:=QX r i h.2 (by simpa using hi)
  simpa using this
theorem Rel.nu {ν':Nat→Bool} {x:AV} {v:Value} (h:Rel w S μ ν x v) (hn:noG x=true):Rel w S μ ν' x v:=by
 induction h with
 | any x=>exact .any x
 | d h=>exact .d h
 | ownNil h=>exact .ownNil h
 | own h=>exact .own h
 | ptr h=>exact .ptr h
 | elt h=>exact .elt h
 | ref vals hcell h=>exact .ref vals hcell h
 | nns h=>exact .nns h
 | mpv h=>exact .mpv h
 | pmp h=>exact .pmp h
 | @fn _ caps _ hl _ ih=>exact .fn hl (fun i hi=>ih i hi (QX caps i (by simpa [noG] using hn) hi))
 | @tup l _ hl _ ih=>exact .tup hl (fun i hi=>ih i hi (QX l i (by simpa [noG] using hn) hi))
 | @ag l _ hl _ ih=>exact .ag hl (fun i hi=>ih i hi (QX l i (by simpa [noG] using hn) hi))
 | g=>simp [noG] at hn
theorem zsK {w':World} {cs:List AV} {vs:Array Value} {g cap:Nat} {e:TypeId} (hr:kU w S μ ν cs vs.toList) (hn:noG.noGL cs=true) (hg:w'.heap[g]? = some (.cells vs e (0,0))) (hS:¬ S g) (hw:∀ q,S q→w'.heap[q]? = w.heap[q]?):qd w' S μ (.box cs) g cap:=by
 refine ⟨vs,e,hg,hS,by have:=hr.1; simpa using this,fun j hj=>?_⟩
 have hj':j < vs.size:=by have:=hr.1; simp at this; omega
 refine ⟨vs[j],by simp [hj'],fun ν'=>?_⟩
 have:=hr.2 j hj
 rw [show vs.toList.getD j undef=vs[j] from by simp [List.getD,hj']] at this
 exact (this.nu (QX cs j hn hj)).mono (fun _ x=>x) hw (fun _ _ x=>x)
theorem zmm {o:Oper} {dst:Nat} {t:TypeId} {cs:List AV} {need:List (Nat × AV)} {ro:List (Nat × Blk)} {gs:List (Nat × Bool)} (hs:Sim C A a w S μ ν) (hd:o.dst=some dst) (hdt:dst < C.nt) {vs:Array Value}
  (hrun:(execOp a.eval o).run C.P w=.ok (.value (.pointer (some ⟨w.heap.size,0,none⟩))) (w.alloc (.cells vs t))) (hr:kU w S μ ν cs vs.toList) (hn:noG.noGL cs=true) (hf:uO A dst) (hk:dst ∉ AV.keysL cs) :
  o.wp C.P a w (fun a' w'=>∃ S' μ',Sim C ((Tr.mk need (some dst) (.ptr dst 0) ro [] [(dst,.box cs)] gs).apply A) a' w' S' μ' ν) (fun _ _ _=>False):=by
 unfold Oper.wp
 rw [hrun]
 have hns:¬ S w.heap.size:=fun h=>by have:=hs.bound _ h; omega
 have h1:=hs.alloc hf (b:=.box cs) (cur:=vs) (e:=t) (cap:=1) hk (zsK hr hn (heap_alloc_new w _) hns (fun q hq=>heap_alloc_old w _ (hs.bound q hq)))
 have h2:=h1.put (dst:=some dst) (x:=.ptr dst 0) (v:=.pointer (some ⟨w.heap.size,0,none⟩)) (fun t ht=>by cases ht; exact hdt) (.ptr (cap:=1) (by simp [kJ]))
 rw [QO]
 exact ⟨S,_,by rw [hd]; exact h2⟩
end
end Go.Av
