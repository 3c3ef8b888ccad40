/- Stores, slices of the call's own, append. -/
import Derived.Test.YtilbddpghnnmhaaGreatDoorAvJ
set_option linter.unusedSimpArgs false
set_option linter.unusedVariables false
namespace Go.Av
open Go
set_option linter.unusedSectionVars false
variable [qz]
def zkf:AV→Bool
 | .d (.v _) | .d (.sl _ _) | .own _ _ | .ptr _ _ | .elt _ _ _ _ | .ref _ | .fn _ _ | .mpv _ | .pmp _ _=>true
 | _=>false
def Xu:D→Bool
 | .agg _=>false
 | _=>true
section
variable {C : Cx} {A : M} {a : Act} {w : World} {S : Nat → Prop} {μ : Mu} {ν : Nat → Bool}
theorem zbt {d:D} {x:Value} (h:Xu d=true) (hr:Rd w S d x):x.oneCell'=true:=by
 cases hr with
 | v _ hs=>cases x <;> simp_all [scalar,Value.oneCell']
 | agg=>simp [Xu] at h
 | nil=>rfl
 | sl=>rfl
theorem zqy {c:AV} {x:Value} (h:zkf c=true) (hr:Rel w S μ ν c x):x.oneCell'=true:=by
 cases hr with
 | any=>simp [zkf] at h
 | @d y _ hd=>exact zbt (by cases y <;> simp_all [zkf,Xu]) hd
 | ownNil=>rfl
 | own=>rfl
 | ptr=>rfl
 | elt=>rfl
 | ref=>rfl
 | nns=>rfl
 | mpv=>rfl
 | pmp=>rfl
 | fn=>rfl
 | tup=>simp [zkf] at h
 | ag=>simp [zkf] at h
 | g=>simp [zkf] at h
theorem gI {A:M} {κ:Nat} {b b':Blk} {need:List (Nat × AV)} {ro:List (Nat × Blk)} {gs:List (Nat × Bool)} (x:AV):(Tr.mk need none x ro [(κ,b)] [(κ,b')] gs).apply A=A.set κ (some b'):=by
 unfold Tr.apply M.set
 simp only [reduceCtorEq,if_false]
 congr 1
 funext k
 by_cases c:k=κ
 ·subst c; simp [look]
 ·have:Nat.beq κ k=false:=by
   cases hb:Nat.beq κ k with
   | true=>exact absurd (Nat.eq_of_beq_eq_true hb).symm c
   | false=>rfl
  simp [look,this,c]
theorem zcZ {P:Program} {t:Nat} {i:TI} (ht:zb7 P t i=true) {g off:Nat} {cur:Array Value} {e:TypeId} {v:Value} (hg:w.heap[g]? = some (.cells cur e (0,0))) (hsz:v.cells.size=i.size) (hle:off+i.size≤cur.size) (h1:∀ u,u∈v.cells.toList→u.oneCell'=true) :
  (Instr.storeAt t (.pointer (some ⟨g,off,none⟩)) v).run P w=.ok () (w.setRow g (cur.toList.take off++v.cells.toList++cur.toList.drop (off+i.size)).toArray):=by
 obtain ⟨ti,z,F⟩:=jo ht
 have hst:=run_storeCells_at P g off e v.cells.toList 0 cur w hg (by simp; omega) h1
 have hne:¬ v.cells.size≠ti.size:=by rw [F.size]; omega
 simp only [Instr.storeAt,Instr.sureAddr,Sem.run_bind,Sem.run_pure,Result.andThen_ok,storeVar,sizeOf,typeInfo,run_program,F.info,Sem.run_ite,hne,if_false,hst]
 simp [hsz]
theorem zfm {o:Oper} {t:Nat} {i:TI} {κ off:Nat} {ad x:Operand} {v:AV} {cs xs:List AV} {need:List (Nat × AV)} {ro:List (Nat × Blk)} {gs:List (Nat × Bool)} (hs:Sim C A a w S μ ν) (ht:zb7 C.P t i=true) (ho:o.op=.store t ad x) (hd:o.dst=none)
  (ha:Rel w S μ ν (.ptr κ off) (a.eval ad)) (hx:Rel w S μ ν v (a.eval x)) (hκ:A.lb κ=some (.box cs)) (hc:v.cells=some xs) (hlen:xs.length=i.size) (hle:off+i.size≤cs.length) (hn:noG.noGL xs=true) (hone:xs.all zkf=true) (y:AV) :
  o.wp C.P a w (fun a' w'=>∃ S' μ',Sim C ((Tr.mk need none y ro [(κ,.box cs)] [(κ,.box (cs.take off++xs++cs.drop (off+i.size)))] gs).apply A) a' w' S' μ' ν) (fun _ _ _=>False):=by
 cases hav:a.eval ad with
 | pointer q =>
  rw [hav] at ha
  cases ha with
  | @ptr _ _ g cap hμ =>
   have hm:=hs.mem κ _ hκ
   rw [hμ] at hm
   have hat:=hm.at
   have hns:=hat.not
   obtain ⟨cur,e,hg,_,hcs,hcell⟩:=hat
   obtain ⟨hcr1,hcr2⟩:=Kt hc hx
   have hvs:(a.eval x).cells.size=i.size:=by simp at hcr1; omega
   have hrun:=zcZ (w:=w) (P:=C.P) ht (g:=g) (off:=off) (v:=a.eval x) hg hvs (by omega) (fun u hu=>by
    obtain ⟨j,hj,rfl⟩:=List.getElem_of_mem hu
    have hj':j < xs.length:=by omega
    have h2:=hcr2 j hj'
    rw [show (a.eval x).cells.toList.getD j undef=(a.eval x).cells.toList[j] from by simp only [List.getD,List.getElem?_eq_getElem hj,Option.getD_some]] at h2
    simp only [List.all_eq_true] at hone
    exact zqy (hone _ (by simp [List.getD,hj'])) h2)
   unfold Oper.wp execOp
   simp only [ho,Sem.run_bind,hav,hrun,Result.andThen_ok,Sem.run_pure]
   refine ⟨S,μ,?_⟩
   rw [gI,hd]
   have hold:kU w S μ ν cs cur.toList:=by
    refine ⟨by simpa using hcs,fun j hj=>?_⟩
    obtain ⟨u,hu,hru⟩:=hcell j hj
    have:cur.toList.getD j undef=u:=by simp [List.getD,hu]
    rw [this]
    exact hru ν
   have hnew:=((hold.take off).append (Kt hc hx)).append (hold.drop (off+i.size))
   have hsim:∀ b',qd (w.setRow g (cur.toList.take off++(a.eval x).cells.toList++cur.toList.drop (off+i.size)).toArray) S μ b' g cap→Sim C (A.set κ (some b')) a (w.setRow g (cur.toList.take off++(a.eval x).cells.toList++cur.toList.drop (off+i.size)).toArray) S μ ν :=
    fun b' hb'=>hs.write hκ hμ hb'
   refine hsim _ ?_
   refine ⟨_,e,setRow_heap w g cur _ e _ hg,hns,by have:=hnew.1; simpa using this,fun j hj=>?_⟩
   have hw:∀ q,S q→(w.setRow g (cur.toList.take off++(a.eval x).cells.toList++cur.toList.drop (off+i.size)).toArray).heap[q]? = w.heap[q]?:=fun q hq=>setRow_other w g q _ (fun e=>hns (e ▸ hq))
   have hj2:=hnew.2 j hj
   have hlt:j < (cur.toList.take off++(a.eval x).cells.toList++cur.toList.drop (off+i.size)).length:=by rw [hnew.1]; exact hj
   refine ⟨_,by rw [List.getElem?_toArray,List.getElem?_eq_getElem hlt],fun ν'=>?_⟩
   rw [show (cur.toList.take off++(a.eval x).cells.toList++cur.toList.drop (off+i.size)).getD j undef=(cur.toList.take off++(a.eval x).cells.toList++cur.toList.drop (off+i.size))[j] from by simp only [List.getD,List.getElem?_eq_getElem hlt,Option.getD_some]] at hj2
   by_cases hjo:j < off
   ·obtain ⟨u,hu,hru⟩:=hcell j (by omega)
    have e1:(cs.take off++xs++cs.drop (off+i.size)).getD j default=cs.getD j default:=by
     simp only [List.getD]
     rw [List.append_assoc,List.getElem?_append_left (by simp; omega),List.getElem?_take,if_pos hjo]
    have e2:(cur.toList.take off++(a.eval x).cells.toList++cur.toList.drop (off+i.size))[j]=u:=by
     apply Option.some.inj
     rw [← List.getElem?_eq_getElem hlt,List.append_assoc,List.getElem?_append_left (by simp; omega),List.getElem?_take,if_pos hjo]
     simpa using hu
    rw [e1,e2]
    exact (hru ν').mono (fun _ x=>x) hw (fun _ _ x=>x)
   ·by_cases hjn:j < off+i.size
    ·have hjx:j - off < xs.length:=by omega
     have e1:(cs.take off++xs++cs.drop (off+i.size)).getD j default=xs.getD (j - off) default:=by
      simp only [List.getD]
      rw [List.append_assoc,List.getElem?_append_right (by simp; omega),List.getElem?_append_left (by simp; omega)]
      simp [(by omega:min off cs.length=off)]
     rw [e1] at hj2 ⊢
     exact (hj2.nu (QX xs _ hn hjx)).mono (fun _ x=>x) hw (fun _ _ x=>x)
    ·have hj3:j < cs.length:=by simp at hj; omega
     obtain ⟨u,hu,hru⟩:=hcell j hj3
     have e1:(cs.take off++xs++cs.drop (off+i.size)).getD j default=cs.getD j default:=by
      simp only [List.getD]
      rw [List.getElem?_append_right (by simp; omega),List.getElem?_drop]
      congr 2
      simp
      omega
     have e2:(cur.toList.take off++(a.eval x).cells.toList++cur.toList.drop (off+i.size))[j]=u:=by
      apply Option.some.inj
      rw [← List.getElem?_eq_getElem hlt,List.getElem?_append_right (by simp; omega),List.getElem?_drop]
      rw [← hu]
      simp only [Array.getElem?_toList]
      congr 1
      simp
      omega
     rw [e1,e2]
     exact (hru ν').mono (fun _ x=>x) hw (fun _ _ x=>x)
 | _=>rw [hav] at ha; cases ha
theorem Xb {A:M} {dst κ κ':Nat} {v:AV} {b b':Blk} {need:List (Nat × AV)} {ro:List (Nat × Blk)} {gs:List (Nat × Bool)} (hne:κ'≠κ):(Tr.mk need (some dst) v ro [(κ,b)] [(κ',b')] gs).apply A=((A.set κ none).set κ' (some b')).put dst v:=by
 unfold Tr.apply M.put M.set
 simp only [Option.some.injEq]
 congr 1
 ·funext t
  by_cases c:t=dst
  ·simp [c]
  ·have:¬ dst=t:=fun e=>c e.symm
   simp [c,this]
 ·funext k
  by_cases c:k=κ'
  ·subst c; simp [look]
  ·have:Nat.beq κ' k=false:=by
    cases hb:Nat.beq κ' k with
    | true=>exact absurd (Nat.eq_of_beq_eq_true hb).symm c
    | false=>rfl
   simp [look,this,c]
theorem Sim.drop (h:Sim C A a w S μ ν) (κ:Nat):Sim C (A.set κ none) a w S μ ν:=by
 have q:∀ k b,(A.set κ none).lb k=some b→A.lb k=some b:=fun k b hb=>by
  simp only [M.set] at hb
  by_cases c:k=κ
  ·simp [c] at hb
  ·simpa [c] using hb
 exact ⟨h.tmps,h.defers,h.slots,fun k b hb=>h.mem k b (q k b hb),fun k1 k2 b1 b2 g c c' h1 h2=>h.inj k1 k2 b1 b2 g c c' (q _ _ h1) (q _ _ h2),fun k b g c hb=>h.own k b g c (q k b hb),h.stable,h.fresh,h.bound,h.kept⟩
theorem uO.drop {κ':Nat} (h:uO A κ') (κ:Nat):uO (A.set κ none) κ':=by
 refine ⟨h.sl,?_,fun k b hb=>?_⟩
 ·simp only [M.set]
  split
  ·rfl
  ·exact h.lb
 ·simp only [M.set] at hb
  by_cases c:k=κ
  ·simp [c] at hb
  ·exact h.bl k b (by simpa [c] using hb)
def vJ (w:World) (S:Nat→Prop) (k n:Nat) (f:Nat→List D) (xs:List Value):Prop :=
 xs.length=n * k∧∀ i,i < n→(f i).length=k∧∀ j,j < k→Rd w S ((f i).getD j default) (xs.getD (i * k+j) undef)
theorem vJ.append {k n m:Nat} {f g:Nat→List D} {xs ys:List Value} (h:vJ w S k n f xs) (h':vJ w S k m g ys):vJ w S k (n+m) (fun i=>if i < n then f i else g (i - n)) (xs++ys):=by
 refine ⟨by rw [List.length_append,h.1,h'.1,Nat.add_mul],fun i hi=>?_⟩
 by_cases c:i < n
 ·simp only [c,if_true]
  refine ⟨(h.2 i c).1,fun j hj=>?_⟩
  have hlt:i * k+j < xs.length:=by
   rw [h.1]
   calc i * k+j < i * k+k:=by omega
    _=(i+1) * k:=by rw [Nat.add_mul,Nat.one_mul]
    _≤n * k:=Nat.mul_le_mul_right k c
  rw [show (xs++ys).getD (i * k+j) undef=xs.getD (i * k+j) undef from by simp only [List.getD,List.getElem?_append_left hlt]]
  exact (h.2 i c).2 j hj
 ·simp only [c,if_false]
  have hi':i - n < m:=by omega
  refine ⟨(h'.2 (i - n) hi').1,fun j hj=>?_⟩
  have hle:xs.length≤i * k+j:=by
   rw [h.1]
   exact Nat.le_trans (Nat.mul_le_mul_right k (by omega:n≤i)) (Nat.le_add_right _ _)
  rw [show (xs++ys).getD (i * k+j) undef=ys.getD ((i - n) * k+j) undef from by
   simp only [List.getD,List.getElem?_append_right hle,h.1]
   congr 2
   rw [Nat.sub_mul]
   have:=Nat.mul_le_mul_right k (by omega:n≤i)
   omega]
  exact (h'.2 (i - n) hi').2 j hj
theorem vJ.mono {w':World} {S':Nat→Prop} {k n:Nat} {f:Nat→List D} {xs:List Value} (h:vJ w S k n f xs) (hS:∀ b,S b→S' b) (hw:∀ b,S b→w'.heap[b]? = w.heap[b]?):vJ w' S' k n f xs :=
 ⟨h.1,fun i hi=>⟨(h.2 i hi).1,fun j hj=>((h.2 i hi).2 j hj).mono hS hw⟩⟩
theorem Hg {e k n:Nat} {f:Nat→List D} {g cap:Nat} (h:qd w S μ (.row e k n f) g cap):∃ cur,w.heap[g]? = some (.cells cur e (0,0))∧cur.size=cap * k∧n≤cap∧cap≤maxLen∧vJ w S k n f (cur.toList.take (n * k)):=by
 obtain ⟨cur,hg,_,h2,h3,h4,h5⟩:=h
 refine ⟨cur,hg,h2,h3,h4,by simp only [List.length_take,Array.length_toList,h2]; exact Nat.min_eq_left (Nat.mul_le_mul_right k h3),fun i hi=>⟨(h5 i hi).1,fun j hj=>?_⟩⟩
 obtain ⟨x,hx,hr⟩:=(h5 i hi).2 j hj
 have hlt:i * k+j < n * k:=by
  calc i * k+j < i * k+k:=by omega
   _=(i+1) * k:=by rw [Nat.add_mul,Nat.one_mul]
   _≤n * k:=Nat.mul_le_mul_right k hi
 rw [show (cur.toList.take (n * k)).getD (i * k+j) undef=x from by simp [List.getD,hlt,hx]]
 exact hr
theorem zf7 {e k n:Nat} {f:Nat→List D} {g cap:Nat} {cur:Array Value} {xs:List Value} (hg:w.heap[g]? = some (.cells cur e (0,0))) (hS:¬ S g) (hsz:cur.size=cap * k) (hn:n≤cap) (hm:cap≤maxLen) (ht:cur.toList.take (n * k)=xs) (hr:vJ w S k n f xs):qd w S μ (.row e k n f) g cap:=by
 refine ⟨cur,hg,hS,hsz,hn,hm,fun i hi=>⟨(hr.2 i hi).1,fun j hj=>?_⟩⟩
 have hlt:i * k+j < n * k:=by
  calc i * k+j < i * k+k:=by omega
   _=(i+1) * k:=by rw [Nat.add_mul,Nat.one_mul]
   _≤n * k:=Nat.mul_le_mul_right k hi
 have hlt':i * k+j < cur.size:=by rw [hsz]; exact Nat.lt_of_lt_of_le hlt (Nat.mul_le_mul_right k hn)
 refine ⟨cur[i * k+j],by simp [hlt'],?_⟩
 have:=(hr.2 i hi).2 j hj
 rw [← ht,show (cur.toList.take (n * k)).getD (i * k+j) undef=cur[i * k+j] from by simp [List.getD,hlt,hlt']] at this
 exact this
structure zl5 (w:World) (S:Nat→Prop) (k m:Nat) (g:Nat→List D) (v:Value) (ys:List Value):Prop where
 rows:vJ w S k m g ys
 one:∀ u,u∈ys→u.oneCell'=true
 at':(v=.slice none 0 0∧m=0)∨∃ ad cap,v=.slice (some ad) m cap∧∀ j u,ys[j]? = some u→w.cell? (ad.add j)=some u
theorem zlE {m:Nat} {g:Nat→List D} {k:Nat} {v:Value} (h:Rd w S (.sl m g) v) (hk:∀ i,i < m→(g i).length=k) (hone:∀ i,i < m→(g i).all Xu=true):∃ ys,zl5 w S k m g v ys:=by
 cases h with
 | nil=>exact ⟨[],⟨⟨by simp,fun i hi=>absurd hi (by omega)⟩,fun u hu=>(by cases hu),.inl ⟨rfl,rfl⟩⟩⟩
 | sl _ _ ad cap k' vals hc hm hs hk' hcell h =>
  refine ⟨(List.range (m * k)).map fun q=>vals (q / k) (q % k),⟨⟨by simp,fun i hi=>⟨hk i hi,fun j hj=>?_⟩⟩,fun u hu=>?_,.inr ⟨ad,cap,rfl,fun j u hj=>?_⟩⟩⟩
  ·have hkk:k'=k:=by rw [← hk' i hi]; exact hk i hi
   subst hkk
   have hlt:i * k'+j < m * k':=by
    calc i * k'+j < i * k'+k':=by omega
     _=(i+1) * k':=by rw [Nat.add_mul,Nat.one_mul]
     _≤m * k':=Nat.mul_le_mul_right k' hi
   have e1:(i * k'+j) / k'=i:=by rw [Nat.mul_comm,Nat.mul_add_div (by omega)]; simp [Nat.div_eq_of_lt hj]
   have e2:(i * k'+j) % k'=j:=by rw [Nat.mul_comm,Nat.mul_add_mod]; exact Nat.mod_eq_of_lt hj
   rw [show ((List.range (m * k')).map fun q=>vals (q / k') (q % k')).getD (i * k'+j) undef=vals i j from by simp [List.getD,hlt,e1,e2]]
   exact h i j hi hj
  ·obtain ⟨q,hq,rfl⟩:=List.mem_map.1 hu
   have hq':=List.mem_range.1 hq
   have hk0:0 < k:=by rcases Nat.eq_zero_or_pos k with h0 | h0 <;> first | exact h0 | (rw [h0] at hq'; omega)
   have hi:q / k < m:=Nat.div_lt_of_lt_mul (by rw [Nat.mul_comm]; exact hq')
   have hj:q % k < k:=Nat.mod_lt _ hk0
   have hkk:k'=k:=by rw [← hk' _ hi]; exact hk _ hi
   subst hkk
   have:=hone _ hi
   simp only [List.all_eq_true] at this
   exact zbt (this _ (by have:=hk _ hi; simp [List.getD,(by omega:q % k' < (g (q / k')).length)])) (h _ _ hi hj)
  ·have hjl:j < m * k:=by
    have:=(List.getElem?_eq_some_iff.1 hj).1
    simpa using this
   have hk0:0 < k:=by rcases Nat.eq_zero_or_pos k with h0 | h0 <;> first | exact h0 | (rw [h0] at hjl; omega)
   have hi:j / k < m:=Nat.div_lt_of_lt_mul (by rw [Nat.mul_comm]; exact hjl)
   have hjm:j % k < k:=Nat.mod_lt _ hk0
   have hkk:k'=k:=by rw [← hk' _ hi]; exact hk _ hi
   subst hkk
   have hu:u=vals (j / k') (j % k'):=by simpa [hjl] using hj.symm
   rw [hu]
   have hsp:ad.spot=none:=by rcases hs with h0 | h0 <;> first | exact h0 | exact absurd (h0 ▸ hi) (Nat.not_lt_zero _)
   rw [zcA hsp,addr_add]
   have:=(hcell _ _ hi hjm).2
   rw [show j / k' * k'+j % k'=j from by rw [Nat.mul_comm]; exact Nat.div_add_mod j k'] at this
   exact this
theorem zrc {e m:Nat} {g:Nat→List D} {k κ:Nat} {v:Value} (hs:Sim C A a w S μ ν) (hκ:A.lb κ=some (.row e k m g)) (h:Rel w S μ ν (.own κ m) v) (hone:∀ i,i < m→(g i).all Xu=true):∃ ys,zl5 w S k m g v ys:=by
 have hm:=hs.mem κ _ hκ
 cases h with
 | ownNil hμ =>
  rename_i ad
  refine ⟨[],⟨⟨by simp,fun i hi=>absurd hi (by omega)⟩,fun u hu=>(by cases hu),?_⟩⟩
  cases ad with
  | none=>exact .inl ⟨rfl,rfl⟩
  | some ad=>exact .inr ⟨ad,0,rfl,fun j u hj=>by simp at hj⟩
 | @own _ _ b cap hμ =>
  rw [hμ] at hm
  obtain ⟨cur,hg,h2,h3,h4,h5⟩:=Hg hm.at
  refine ⟨_,⟨h5,fun u hu=>?_,.inr ⟨_,cap,rfl,fun j u hj=>?_⟩⟩⟩
  ·obtain ⟨q,hq,rfl⟩:=List.getElem_of_mem hu
   have hql:q < m * k:=by have:=h5.1; omega
   have hk0:0 < k:=by rcases Nat.eq_zero_or_pos k with h0 | h0 <;> first | exact h0 | (rw [h0] at hql; omega)
   have hi:q / k < m:=Nat.div_lt_of_lt_mul (by rw [Nat.mul_comm]; exact hql)
   have hj:q % k < k:=Nat.mod_lt _ hk0
   have hr:=(h5.2 _ hi).2 _ hj
   rw [show q / k * k+q % k=q from by rw [Nat.mul_comm]; exact Nat.div_add_mod q k,show (cur.toList.take (m * k)).getD q undef=(cur.toList.take (m * k))[q] from by simp only [List.getD,List.getElem?_eq_getElem hq,Option.getD_some]] at hr
   have:=hone _ hi
   simp only [List.all_eq_true] at this
   exact zbt (this _ (by have:=(h5.2 _ hi).1; simp [List.getD,(by omega:q % k < (g (q / k)).length)])) hr
  ·rw [addr_add,Nat.zero_add,zC w b j cur e _ hg]
   rw [List.getElem?_take] at hj
   split at hj
   ·simpa using hj
   ·cases hj
theorem zlB {P:Program} {t ty e:TypeId} {i:TI} (ht:P.underlying t=some (.slice e)) (hti:zb7 P e i=true) {dv sv:Value} {n m:Nat} {xs ys:List Value} {g:Nat→List D} {Q:Nat→Prop}
  (hd:(∃ ad0,dv=.slice ad0 0 0∧n=0∧xs=[])∨∃ b cap cur,dv=.slice (some ⟨b,0,none⟩) n cap∧w.heap[b]? = some (.cells cur e (0,0))∧cur.size=cap * i.size∧n≤cap∧cap≤maxLen∧cur.toList.take (n * i.size)=xs∧Q b)
  (hs:zl5 w S i.size m g sv ys) (h63:n+m≤maxLen) (hb:(n+m) * i.bytes≤140737488355328) :
  ∃ v' w',(Builtin.append_ #[t,t] ty #[dv,sv]).run P w=.ok v' w' ∧
   ((∃ ad0,v'=.slice ad0 0 0∧n+m=0∧w'=w) ∨
    ∃ b cap cur,v'=.slice (some ⟨b,0,none⟩) (n+m) cap∧w'.heap[b]? = some (.cells cur e (0,0))∧cur.size=cap * i.size∧n+m≤cap∧cap≤maxLen∧cur.toList.take ((n+m) * i.size)=xs++ys ∧
     (b=w.heap.size∨Q b)∧Kept w w' (fun q=>q=b)):=by
 obtain ⟨ti,z,F⟩:=jo hti
 have hzs:z.cells.size=i.size:=by
  obtain ⟨q,_⟩:=ut (w:=w) (S:=S) F.zok
  rw [← F.zlen,← q]
  simp
 have hyl:=hs.rows.1
 have hsmall:n+m≤9223372036854775807:=by simp only [maxLen] at h63; omega
 have grown:∀ (old:Nat),old < n+m→xs.length=n * i.size→∃ cap cur,Value.slice (some ⟨w.heap.size,0,none⟩) (n+m) (grownCap w (n+m) old e)=.slice (some ⟨w.heap.size,0,none⟩) (n+m) cap ∧
   (w.drew.alloc (.cells (xs.toArray++ys.toArray++Builtin.zeroCells z.cells (grownCap w (n+m) old e - (n+m))) e)).heap[w.heap.size]? = some (.cells cur e (0,0))∧cur.size=cap * i.size∧n+m≤cap∧cap≤maxLen∧cur.toList.take ((n+m) * i.size)=xs++ys ∧
   Kept w (w.drew.alloc (.cells (xs.toArray++ys.toArray++Builtin.zeroCells z.cells (grownCap w (n+m) old e - (n+m))) e)) (fun q=>q=w.heap.size):=by
  intro old ho hxl
  have hge:=grownCap_ge w (n+m) old e
  have hcm:grownCap w (n+m) old e≤maxLen:=grownCap_le_maxLen w (n+m) old e h63
  have hlen:(xs++ys).length=(n+m) * i.size:=by rw [List.length_append,hxl,hyl,Nat.add_mul]
  refine ⟨_,_,rfl,heap_alloc_new w.drew _,?_,hge,hcm,?_,⟨rfl,rfl,rfl,by simp,fun k hk _=>heap_alloc_old w.drew _ hk⟩⟩
  ·simp only [Array.size_append,List.size_toArray,size_zeroCells,hzs,hxl,hyl,← Nat.add_mul]
   congr 1
   omega
  ·simp only [Array.toList_append,List.append_assoc]
   rw [← List.append_assoc,← hlen]
   exact List.take_left
 rcases hd with ⟨ad0,rfl,rfl,rfl⟩ | ⟨b,cap,cur,rfl,hg,hcs,hnc,hcm,htake,hQ⟩
 ·rcases hs.at' with ⟨rfl,rfl⟩ | ⟨ad,c,rfl,hcell⟩
  ·refine ⟨.slice ad0 0 0,w,?_,.inl ⟨ad0,rfl,rfl,rfl⟩⟩
   cases ad0 <;> simp [Builtin.append_,run_underlying ht,sizeOf,typeInfo,F.info,Builtin.lenOf,Builtin.firstCells,storeCells]
  ·by_cases hm0:m=0
   ·subst hm0
    refine ⟨.slice ad0 0 0,w,?_,.inl ⟨ad0,rfl,rfl,rfl⟩⟩
    cases ad0 <;> simp [Builtin.append_,run_underlying ht,sizeOf,typeInfo,F.info,Builtin.lenOf,Builtin.firstCells,loadCells,loadCellsFrom,storeCells]
   ·cases ad0 with
    | some ad0 =>
     have hr:=run_append_grow (P:=P) w t ty e ti z ht F.info F.zero ad0 0 0 [] (by simp) (fun j u hj=>by simp at hj) ad m c ys (by rw [F.size]; exact hyl) hcell (by omega) (by omega) (growslice_fits (by omega) (by rw [F.bytes]; exact hb))
     obtain ⟨cap,cur,q1,q2,q3,q4,q5,q6,q7⟩:=grown 0 (by omega) (by simp)
     exact ⟨_,_,hr,.inr ⟨w.heap.size,cap,cur,q1,q2,q3,q4,q5,q6,.inl rfl,q7⟩⟩
    | none =>
    have hr:=run_append_nil (P:=P) w t ty e ti z ht F.info F.zero ad m c ys (by rw [F.size]; exact hyl) hcell (by omega) (by omega) (by rw [F.bytes]; simp only [Nat.zero_add] at hb; omega)
    obtain ⟨cap,cur,q1,q2,q3,q4,q5,q6,q7⟩:=grown 0 (by omega) (by simp)
    simp only [Nat.zero_add,List.nil_append,Array.empty_append] at q1 q2 q4 q6 q7 ⊢
    exact ⟨_,_,hr,.inr ⟨w.heap.size,cap,cur,q1,q2,q3,q4,q5,q6,.inl rfl,q7⟩⟩
 ·have hxl:xs.length=n * i.size:=by
   rw [← htake,List.length_take,Array.length_toList,hcs]
   exact Nat.min_eq_left (Nat.mul_le_mul_right _ hnc)
  rcases hs.at' with ⟨rfl,rfl⟩ | ⟨ad,c,rfl,hcell⟩
  ·have hy0:ys=[]:=List.eq_nil_of_length_eq_zero (by simpa using hyl)
   subst hy0
   refine ⟨_,w,?_,.inr ⟨b,cap,cur,rfl,hg,hcs,hnc,hcm,by simpa using htake,.inr hQ,Kept.refl _ _⟩⟩
   simp [Builtin.append_,run_underlying ht,sizeOf,typeInfo,F.info,Builtin.lenOf,Builtin.firstCells,hnc,storeCells]
  ·by_cases hroom:n+m≤cap
   ·have hfit:n * ti.size+ys.length≤cur.size:=by rw [F.size,hyl,hcs,← Nat.add_mul]; exact Nat.mul_le_mul_right _ hroom
    have hr:=run_append_room (P:=P) w t ty e ti ht F.info b n cap cur hg ad m c ys (by rw [F.size]; exact hyl) hcell hs.one hroom hfit
    rw [F.size] at hr
    refine ⟨_,_,hr,.inr ⟨b,cap,_,rfl,setRow_heap w b cur _ e _ hg,?_,hroom,hcm,?_,.inr hQ,⟨rfl,rfl,rfl,by simp,fun q _ hq=>setRow_other w b q _ hq⟩⟩⟩
    ·rw [F.size] at hfit
     simp only [List.size_toArray,List.length_append,List.length_take,List.length_drop,Array.length_toList]
     omega
    ·rw [htake]
     have:(xs++ys).length=(n+m) * i.size:=by rw [List.length_append,hxl,hyl,Nat.add_mul]
     rw [← this]
     exact List.take_left
   ·have holds:∀ j u,xs[j]? = some u→w.cell? ((⟨b,0,none⟩:Addr).add j)=some u:=fun j u hj=>by
     rw [addr_add,Nat.zero_add,zC w b j cur e _ hg]
     rw [← htake,List.getElem?_take] at hj
     split at hj
     ·simpa using hj
     ·cases hj
    have hr:=run_append_grow (P:=P) w t ty e ti z ht F.info F.zero ⟨b,0,none⟩ n cap xs (by rw [F.size]; exact hxl) holds ad m c ys (by rw [F.size]; exact hyl) hcell (by omega) (by omega) (growslice_fits (by omega) (by rw [F.bytes]; exact hb))
    obtain ⟨cap',cur',q1,q2,q3,q4,q5,q6,q7⟩:=grown cap (by omega) hxl
    exact ⟨_,_,hr,.inr ⟨w.heap.size,cap',cur',q1,q2,q3,q4,q5,q6,.inl rfl,q7⟩⟩
end
end Go.Av
