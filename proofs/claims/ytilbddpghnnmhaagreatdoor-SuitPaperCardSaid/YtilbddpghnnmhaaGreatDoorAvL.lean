/- Append, stores into rows, slices made, in abstract states. -/
import Derived.Test.YtilbddpghnnmhaaGreatDoorAvK
set_option linter.unusedSimpArgs false
set_option linter.unusedVariables false
namespace Go.Av
open Go
set_option linter.unusedSectionVars false
variable [qz]
section
variable {C : Cx} {A : M} {a : Act} {w : World} {S : Nat → Prop} {μ : Mu} {ν : Nat → Bool}
theorem Sim.adopt (h:Sim C A a w S μ ν) {κ:Nat} (hf:uO A κ) {blk:Blk} {b cap:Nat} {w':World} (hk:κ ∉ blk.keys) (hkept:Kept w w' (fun q=>q=b)) (hS:¬ S b) (hno:∀ κ' b' g c,A.lb κ'=some b'→μ κ'=some (some (g,c))→g≠b)
  (hown:C.w0.heap.size≤b∨C.T0 b) (hb:qd w' S μ blk b cap):Sim C (A.set κ (some blk)) a w' S (kJ μ κ (some (some (b,cap)))) ν:=by
 have hw:∀ q,S q→w'.heap[q]? = w.heap[q]?:=fun q hq=>hkept.block q (h.bound q hq) (fun e=>hS (e ▸ hq))
 have h0:=h.forget hf
 have hext:∀ k y,(if k=κ then none else μ k)=some y→kJ μ κ (some (some (b,cap))) k=some y:=by
  intro k y hy
  by_cases c:k=κ
  ·simp [c] at hy
  ·simpa [kJ,c] using hy
 refine ⟨h.tmps,h.defers,fun t=>(h0.slots t).mono (fun _ x=>x) hw hext,fun κ' b' hb'=>?_,fun κ1 κ2 b1 b2 g c c' h1 h2 h3 h4=>?_,fun κ' b' g c h1 h2=>?_,h.stable,h.fresh,fun q hq=>Nat.lt_of_lt_of_le (h.bound q hq) hkept.size,?_⟩
 ·simp only [M.set] at hb'
  by_cases c:κ'=κ
  ·simp only [c,if_true,Option.some.injEq] at hb'
   subst hb'
   rw [c]
   simp only [kJ,if_true]
   exact ((hb.forget hk).mono (fun _ x=>x) (fun _ _=>rfl) hext rfl hb.not).ok
  ·simp only [c,if_false] at hb'
   have hm:=h0.mem κ' b' hb'
   simp only [c,if_false] at hm
   have:kJ μ κ (some (some (b,cap))) κ'=μ κ':=by simp [kJ,c]
   rw [this]
   refine hm.mono (fun _ x=>x) hw hext (fun g cc e=>?_)
   have hne:=hno κ' b' g cc hb' e
   rw [e] at hm
   exact ⟨hkept.block g hm.at.lt hne,hm.at.not⟩
 ·simp only [M.set] at h1 h2
  by_cases c1:κ1=κ
  ·by_cases c2:κ2=κ
   ·rw [c1,c2]
   ·simp only [c1,kJ,if_true,Option.some.injEq,Prod.mk.injEq] at h3
    simp only [c2,if_false] at h2
    simp only [kJ,c2,if_false] at h4
    exact absurd h3.1.symm (hno κ2 b2 g c' h2 h4)
  ·simp only [c1,if_false] at h1
   simp only [kJ,c1,if_false] at h3
   by_cases c2:κ2=κ
   ·simp only [c2,kJ,if_true,Option.some.injEq,Prod.mk.injEq] at h4
    exact absurd h4.1.symm (hno κ1 b1 g c h1 h3)
   ·simp only [c2,if_false] at h2
    simp only [kJ,c2,if_false] at h4
    exact h.inj κ1 κ2 b1 b2 g c c' h1 h2 h3 h4
 ·simp only [M.set] at h1
  by_cases c1:κ'=κ
  ·simp only [c1,kJ,if_true,Option.some.injEq,Prod.mk.injEq] at h2
   rw [← h2.1]
   exact hown
  ·simp only [c1,if_false] at h1
   simp only [kJ,c1,if_false] at h2
   exact h.own κ' b' g c h1 h2
 ·refine h.kept.trans hkept (fun q hq e=>?_)
  subst e
  rcases hown with h1 | h1
  ·omega
  ·exact h1
theorem Sim.adoptNil (h:Sim C A a w S μ ν) {κ:Nat} (hf:uO A κ) (e k:Nat) (f:Nat→List D):Sim C (A.set κ (some (.row e k 0 f))) a w S (kJ μ κ (some none)) ν:=by
 have h0:=h.forget hf
 have hext:∀ k y,(if k=κ then none else μ k)=some y→kJ μ κ (some none) k=some y:=by
  intro k y hy
  by_cases c:k=κ
  ·simp [c] at hy
  ·simpa [kJ,c] using hy
 refine ⟨h.tmps,h.defers,fun t=>(h0.slots t).mono (fun _ x=>x) (fun _ _=>rfl) hext,fun κ' b' hb'=>?_,fun κ1 κ2 b1 b2 g c c' h1 h2 h3 h4=>?_,fun κ' b' g c h1 h2=>?_,h.stable,h.fresh,h.bound,h.kept⟩
 ·simp only [M.set] at hb'
  by_cases c:κ'=κ
  ·simp only [c,if_true,Option.some.injEq] at hb'
   subst hb'
   rw [c]
   simp only [kJ,if_true]
   rfl
  ·simp only [c,if_false] at hb'
   have hm:=h0.mem κ' b' hb'
   simp only [c,if_false] at hm
   have:kJ μ κ (some none) κ'=μ κ':=by simp [kJ,c]
   rw [this]
   refine hm.mono (fun _ x=>x) (fun _ _=>rfl) hext (fun g cc e=>⟨rfl,?_⟩)
   rw [e] at hm
   exact hm.at.not
 ·simp only [M.set] at h1 h2
  have n1:κ1≠κ:=fun e=>by simp [e,kJ] at h3
  have n2:κ2≠κ:=fun e=>by simp [e,kJ] at h4
  simp only [n1,n2,if_false] at h1 h2
  simp only [kJ,n1,n2,if_false] at h3 h4
  exact h.inj κ1 κ2 b1 b2 g c c' h1 h2 h3 h4
 ·simp only [M.set] at h1
  have n1:κ'≠κ:=fun e=>by simp [e,kJ] at h2
  simp only [n1,if_false] at h1
  simp only [kJ,n1,if_false] at h2
  exact h.own κ' b' g c h1 h2
inductive zsB (A:M) (w:World) (S:Nat→Prop) (μ:Mu) (e k:Nat):AV→Nat→(Nat→List D)→List (Nat × Blk)→Prop
 | nil (f:Nat→List D):zsB A w S μ e k (.d (.v (.slice none 0 0))) 0 f []
 | own {κ n:Nat} {f:Nat→List D} (h:A.lb κ=some (.row e k n f)):zsB A w S μ e k (.own κ n) n f [(κ,.row e k n f)]
theorem zdu {o:Oper} {dst t e:Nat} {it i:TI} {s x:Operand} {dv:AV} {n m:Nat} {f g:Nat→List D} {mem:List (Nat × Blk)} {need:List (Nat × AV)} {ro:List (Nat × Blk)} {gs:List (Nat × Bool)} {sv:Value}
  (hs:Sim C A a w S μ ν) (hd:o.dst=some dst) (hdt:dst < C.nt) (ht:zb7 C.P t it=true) (hk:it.kind=.slice e) (hti:zb7 C.P e i=true) (ho:o.op=.call { callee:=.builtin .append,args:=#[s,x],argTypes:=#[t,t] })
  (hdv:Rel w S μ ν dv (a.eval s)) (hdest:zsB A w S μ e i.size dv n f mem) (hsv:a.eval x=sv) {ys:List Value} (hsrc:zl5 w S i.size m g sv ys) (h63:n+m≤maxLen) (hb:(n+m) * i.bytes≤140737488355328) (hf:uO A dst) :
  o.wp C.P a w (fun a' w'=>∃ S' μ',Sim C ((Tr.mk need (some dst) (.own dst (n+m)) ro mem [(dst,.row e i.size (n+m) fun q=>if q < n then f q else g (q - n))] gs).apply A) a' w' S' μ' ν) (fun _ _ _=>False):=by
 obtain ⟨tj,z,F⟩:=jo ht
 have hkk:=F.kind
 rw [hk] at hkk
 have hu:=qq hkk
 have fin:∀ (A':M) (xs:List Value),Sim C A' a w S μ ν→uO A' dst→(∀ t,A'.sl t=A.sl t)→(Tr.mk need (some dst) (.own dst (n+m)) ro mem [(dst,.row e i.size (n+m) fun q=>if q < n then f q else g (q - n))] gs).apply A=(A'.set dst (some (.row e i.size (n+m) fun q=>if q < n then f q else g (q - n)))).put dst (.own dst (n+m)) →
   vJ w S i.size n f xs →
   ((∃ ad0,a.eval s=.slice ad0 0 0∧n=0∧xs=[])∨∃ b cap cur,a.eval s=.slice (some ⟨b,0,none⟩) n cap∧w.heap[b]? = some (.cells cur e (0,0))∧cur.size=cap * i.size∧n≤cap∧cap≤maxLen∧cur.toList.take (n * i.size)=xs∧¬ S b∧(C.w0.heap.size≤b∨C.T0 b)∧∀ κ' b' g' c,A'.lb κ'=some b'→μ κ'=some (some (g',c))→g'≠b) →
   o.wp C.P a w (fun a' w'=>∃ S' μ',Sim C ((Tr.mk need (some dst) (.own dst (n+m)) ro mem [(dst,.row e i.size (n+m) fun q=>if q < n then f q else g (q - n))] gs).apply A) a' w' S' μ' ν) (fun _ _ _=>False):=by
  intro A' xs hs' hf' _ happ hrow hcase
  obtain ⟨v',w',hrun,hres⟩:=zlB (P:=C.P) (ty:=o.type) hu hti hcase hsrc h63 hb
  unfold Oper.wp execOp
  simp only [ho,resolve,invoke,builtin,Sem.run_bind,Sem.run_pure,Result.andThen_ok,List.map_toArray,List.map_cons,List.map_nil,hsv,hrun]
  rw [happ]
  rcases hres with ⟨ad0,rfl,h0,rfl⟩ | ⟨b,cap,cur,rfl,hg,hsz,hnm,hcm,htk,hwhere,hkept⟩
  ·have hn0:n+m=0:=h0
   refine ⟨S,kJ μ dst (some none),?_⟩
   have h1:=hs'.adoptNil hf' e i.size (fun q=>if q < n then f q else g (q - n))
   rw [hn0]
   have h2:=h1.put (dst:=some dst) (x:=.own dst 0) (v:=.slice ad0 0 0) (fun t ht=>by cases ht; exact hdt) (.ownNil (by simp [kJ]))
   rw [hd]
   exact h2
  ·have hbS:¬ S b:=by
    rcases hwhere with rfl | hQ
    ·exact fun hq=>by have:=hs.bound _ hq; omega
    ·exact hQ.1
   have hown:C.w0.heap.size≤b∨C.T0 b:=by
    rcases hwhere with rfl | hQ
    ·exact .inl hs.kept.size
    ·exact hQ.2.1
   have hno:∀ κ' b' g' c,A'.lb κ'=some b'→μ κ'=some (some (g',c))→g'≠b:=by
    rcases hwhere with rfl | hQ
    ·intro κ' b' g' c h1 h2 e'
     have:=hs'.mem κ' b' h1
     rw [h2] at this
     have:=this.at.lt
     omega
    ·exact hQ.2.2
   have hw:∀ q,S q→w'.heap[q]? = w.heap[q]?:=fun q hq=>hkept.block q (hs.bound q hq) (fun e=>hbS (e ▸ hq))
   have hrows:vJ w' S i.size (n+m) (fun q=>if q < n then f q else g (q - n)) (xs++ys):=(hrow.append hsrc.rows).mono (fun _ x=>x) hw
   have h1:=hs'.adopt hf' (blk:=.row e i.size (n+m) fun q=>if q < n then f q else g (q - n)) (by simp [Blk.keys]) hkept hbS hno hown (zf7 hg hbS hsz hnm hcm htk hrows)
   have h2:=h1.put (dst:=some dst) (x:=.own dst (n+m)) (v:=.slice (some ⟨b,0,none⟩) (n+m) cap) (fun t ht=>by cases ht; exact hdt) (.own (by simp [kJ]))
   refine ⟨S,kJ μ dst (some (some (b,cap))),?_⟩
   rw [hd]
   exact h2
 cases hdest with
 | nil =>
  have hnil:=kw rfl hdv
  exact fin A [] hs hf (fun _=>rfl) (by rw [QO]) ⟨by simp,fun i hi=>absurd hi (by omega)⟩ (.inl ⟨none,hnil,rfl,rfl⟩)
 | @own κ _ _ hκ =>
  have hm:=hs.mem κ _ hκ
  have hne:dst≠κ:=fun e=>by rw [e] at hf; rw [hf.lb] at hκ; cases hκ
  generalize hsv0:a.eval s=sv0 at hdv
  cases hdv with
  | ownNil hμ =>
   rw [hμ] at hm
   exact fin (A.set κ none) [] (hs.drop κ) (hf.drop κ) (fun _=>rfl) (by rw [Xb hne]) ⟨by simp,fun i hi=>absurd hi (by omega)⟩ (.inl ⟨_,hsv0,rfl,rfl⟩)
  | @own _ _ b cap hμ =>
   rw [hμ] at hm
   have hns:=hm.at.not
   obtain ⟨cur,hg,h2,h3,h4,h5⟩:=Hg hm.at
   refine fin (A.set κ none) _ (hs.drop κ) (hf.drop κ) (fun _=>rfl) (by rw [Xb hne]) h5 (.inr ⟨b,cap,cur,hsv0,hg,h2,h3,h4,rfl,hns,hs.own κ _ b cap hκ hμ,fun κ' b' g' c h1 h2 e'=>?_⟩)
   simp only [M.set] at h1
   by_cases cc:κ'=κ
   ·simp [cc] at h1
   ·simp only [cc,if_false] at h1
    subst e'
    exact cc (hs.inj κ' κ b' _ g' c cap h1 hκ h2 hμ)
theorem zfc {o:Oper} {t:Nat} {i:TI} {κ e k n p off:Nat} {f:Nat→List D} {ad x:Operand} {v:AV} {xs:List AV} {ds:List D} {need:List (Nat × AV)} {ro:List (Nat × Blk)} {gs:List (Nat × Bool)} (hs:Sim C A a w S μ ν) (ht:zb7 C.P t i=true) (ho:o.op=.store t ad x) (hd:o.dst=none)
  (ha:Rel w S μ ν (.elt κ k p off) (a.eval ad)) (hx:Rel w S μ ν v (a.eval x)) (hκ:A.lb κ=some (.row e k n f)) (hc:v.cells=some xs) (hp:Xn xs=some ds) (hlen:ds.length=i.size) (hle:off+i.size≤k) (hpn:p < n) (hone:ds.all Xu=true) (y:AV) :
  o.wp C.P a w (fun a' w'=>∃ S' μ',Sim C ((Tr.mk need none y ro [(κ,.row e k n f)] [(κ,.row e k n fun q=>if q=p then (f p).take off++ds++(f p).drop (off+i.size) else f q)] gs).apply A) a' w' S' μ' ν) (fun _ _ _=>False):=by
 have exs:=VY hp
 subst exs
 generalize hav:a.eval ad=av at ha
 cases ha with
 | @elt _ _ _ _ g cap hμ =>
  have hm:=hs.mem κ _ hκ
  rw [hμ] at hm
  have hat:=hm.at
  have hns:=hat.not
  obtain ⟨cur,hg,hcs,hnc,hcm,hrow⟩:=Hg hat
  obtain ⟨hcr1,hcr2⟩:=Kt hc hx
  simp only [List.length_map] at hcr1 hcr2
  have hvs:(a.eval x).cells.size=i.size:=by simp at hcr1; omega
  have hpk:p * k+k≤n * k:=by
   calc p * k+k=(p+1) * k:=by rw [Nat.add_mul,Nat.one_mul]
    _≤n * k:=Nat.mul_le_mul_right k hpn
  have hnck:n * k≤cap * k:=Nat.mul_le_mul_right k hnc
  have hrun:=zcZ (w:=w) (P:=C.P) ht (g:=g) (off:=p * k+off) (v:=a.eval x) hg hvs (by omega) (fun u hu=>by
   obtain ⟨j,hj,rfl⟩:=List.getElem_of_mem hu
   have hj':j < ds.length:=by omega
   have h2:=hcr2 j hj'
   rw [show (a.eval x).cells.toList.getD j undef=(a.eval x).cells.toList[j] from by simp only [List.getD,List.getElem?_eq_getElem hj,Option.getD_some],uw ds j hj'] at h2
   simp only [List.all_eq_true] at hone
   exact zbt (hone _ (by simp [List.getD,hj'])) (vp.1 h2))
  unfold Oper.wp execOp
  simp only [ho,Sem.run_bind,hav,hrun,Result.andThen_ok,Sem.run_pure]
  refine ⟨S,μ,?_⟩
  rw [gI,hd]
  generalize hnew:(cur.toList.take (p * k+off)++(a.eval x).cells.toList++cur.toList.drop (p * k+off+i.size))=new
  have hw:∀ q,S q→(w.setRow g new.toArray).heap[q]? = w.heap[q]?:=fun q hq=>setRow_other w g q _ (fun e=>hns (e ▸ hq))
  have hxl:(a.eval x).cells.toList.length=i.size:=by rw [hcr1]; exact hlen
  have hnl:new.length=cap * k:=by
   rw [← hnew]
   simp only [List.length_append,List.length_take,List.length_drop,Array.length_toList] at hxl ⊢
   simp only [hvs]
   omega
  have hget:∀ j,j < cap * k→new[j]? = if j < p * k+off then cur[j]? else if j < p * k+off+i.size then (a.eval x).cells.toList[j - (p * k+off)]? else cur[j]?:=by
   intro j hj
   rw [← hnew]
   by_cases c1:j < p * k+off
   ·rw [List.append_assoc,List.getElem?_append_left (by simp; omega),List.getElem?_take,if_pos c1,if_pos c1]
    simp
   ·rw [if_neg c1]
    by_cases c2:j < p * k+off+i.size
    ·rw [if_pos c2,List.append_assoc,List.getElem?_append_right (by simp; omega),List.getElem?_append_left (by simp at hxl ⊢; omega)]
     congr 1
     simp
     omega
    ·rw [if_neg c2,List.getElem?_append_right (by simp at hxl ⊢; omega),List.getElem?_drop]
     simp only [Array.getElem?_toList]
     congr 1
     simp at hxl ⊢
     omega
  refine hs.write hκ hμ (b':=.row e k n _) ⟨new.toArray,setRow_heap w g cur _ e _ hg,hns,by simpa using hnl,hnc,hcm,fun q hq=>⟨?_,fun j hj=>?_⟩⟩
  ·by_cases c:q=p
   ·simp only [c,if_true,List.length_append,List.length_take,List.length_drop]
    have:=(hrow.2 p hpn).1
    omega
   ·simp only [c,if_false]
    exact (hrow.2 q hq).1
  ·have hqk:q * k+k≤n * k:=by
    calc q * k+k=(q+1) * k:=by rw [Nat.add_mul,Nat.one_mul]
     _≤n * k:=Nat.mul_le_mul_right k hq
   have hjl:q * k+j < cap * k:=by omega
   rw [List.getElem?_toArray,hget _ hjl]
   have hcur:∃ u,cur[q * k+j]? = some u∧Rd w S ((f q).getD j default) u:=by
    have hlt:q * k+j < cur.size:=by omega
    refine ⟨cur[q * k+j],by simp [hlt],?_⟩
    have:=(hrow.2 q hq).2 j hj
    rwa [show (cur.toList.take (n * k)).getD (q * k+j) undef=cur[q * k+j] from by simp [List.getD,(by omega:q * k+j < n * k),hlt]] at this
   obtain ⟨u,hu,hru⟩:=hcur
   by_cases c:q=p
   ·subst c
    simp only [if_true]
    have hfl:=(hrow.2 q hq).1
    by_cases c1:j < off
    ·rw [if_pos (by omega)]
     refine ⟨u,hu,?_⟩
     rw [show ((f q).take off++ds++(f q).drop (off+i.size)).getD j default=(f q).getD j default from by
      simp only [List.getD]
      rw [List.append_assoc,List.getElem?_append_left (by simp; omega),List.getElem?_take,if_pos c1]]
     exact hru.mono (fun _ x=>x) hw
    ·rw [if_neg (by omega)]
     by_cases c2:j < off+i.size
     ·rw [if_pos (by omega)]
      have hjd:j - off < ds.length:=by omega
      have h2:=hcr2 (j - off) hjd
      rw [uw ds _ hjd] at h2
      have hlt:q * k+j - (q * k+off) < (a.eval x).cells.toList.length:=by omega
      refine ⟨_,List.getElem?_eq_getElem hlt,?_⟩
      rw [show ((f q).take off++ds++(f q).drop (off+i.size)).getD j default=ds.getD (j - off) default from by
       simp only [List.getD]
       rw [List.append_assoc,List.getElem?_append_right (by simp; omega),List.getElem?_append_left (by simp; omega)]
       simp [(by omega:min off (f q).length=off)]]
      have e3:(a.eval x).cells.toList.getD (j - off) undef=(a.eval x).cells.toList[q * k+j - (q * k+off)]:=by
       have:q * k+j - (q * k+off)=j - off:=by omega
       simp only [this,List.getD]
       rw [List.getElem?_eq_getElem (by omega),Option.getD_some]
      rw [e3] at h2
      exact (vp.1 h2).mono (fun _ x=>x) hw
     ·rw [if_neg (by omega)]
      refine ⟨u,hu,?_⟩
      rw [show ((f q).take off++ds++(f q).drop (off+i.size)).getD j default=(f q).getD j default from by
       simp only [List.getD]
       rw [List.getElem?_append_right (by simp; omega),List.getElem?_drop]
       congr 2
       simp
       omega]
      exact hru.mono (fun _ x=>x) hw
   ·simp only [c,if_false]
    have hout:q * k+j < p * k+off∨p * k+off+i.size≤q * k+j:=by
     rcases Nat.lt_or_gt_of_ne c with h1 | h1
     ·left
      have:q * k+k≤p * k:=by
       calc q * k+k=(q+1) * k:=by rw [Nat.add_mul,Nat.one_mul]
        _≤p * k:=Nat.mul_le_mul_right k h1
      omega
     ·right
      have:p * k+k≤q * k:=by
       calc p * k+k=(p+1) * k:=by rw [Nat.add_mul,Nat.one_mul]
        _≤q * k:=Nat.mul_le_mul_right k h1
      omega
    refine ⟨u,?_,hru.mono (fun _ x=>x) hw⟩
    rcases hout with h1 | h1
    ·rw [if_pos h1]; exact hu
    ·rw [if_neg (by omega),if_neg (by omega)]; exact hu
end
end Go.Av
