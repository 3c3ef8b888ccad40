/- Append, stores into rows, slices made, in abstract states. -/
import Derived.Test.YtgmnlkccjlnnbaaGreatDoorLa
import Derived.Lib.ConvBytes
set_option linter.unusedSimpArgs false
set_option linter.unusedVariables false
set_option linter.unusedSectionVars false
namespace Go.Av
open Go
variable [zl]
section
variable {C : Cx} {A : M} {a : Act} {w : World} {S : Nat → Prop} {μ : Mu} {ν : Nat → Bool}
theorem cE.QR (h:cE C A a w S μ ν) {κ:Nat} (hf:iC A κ) {blk:ba} {b cap:Nat} {w':World} (hk:κ ∉ blk.keys) (AO:Kept w w' (fun q=>q=b)) (hS:¬ S b) (RW:∀ κ' b' g c,A.lb κ'=some b'→μ κ'=some (some (g,c))→g≠b)
  (MM:C.w0.heap.size≤b∨C.T0 b) (hb:cD w' S μ blk b cap):cE C (A.set κ (some blk)) a w' S (cF μ κ (some (some (b,cap)))) ν:=by
 have hw:∀ q,S q→w'.heap[q]? = w.heap[q]?:=fun q hq=>AO.block q (h.bound q hq) (fun e=>hS (e ▸ hq))
 have h0:=h.forget hf
 have H8:∀ k y,(if k=κ then none else μ k)=some y→cF μ κ (some (some (b,cap))) k=some y:=by
  intro k y hy
  by_cases c:k=κ
  ·simp [c] at hy
  ·simpa [cF,c] using hy
 refine ⟨h.tmps,h.defers,fun t=>(h0.df t).mono (fun _ x=>x) hw H8,fun κ' b' kC=>?_,fun κ1 κ2 b1 b2 g c c' h1 h2 h3 h4=>?_,fun κ' b' g c h1 h2=>?_,h.dG,h.fresh,fun q hq=>Nat.lt_of_lt_of_le (h.bound q hq) AO.size,?_⟩
 ·simp only [M.set] at kC
  by_cases c:κ'=κ
  ·simp only [c,if_true,Option.some.injEq] at kC
   subst kC
   rw [c]
   simp only [cF,if_true]
   exact ((hb.forget hk).mono (fun _ x=>x) (fun _ _=>rfl) H8 rfl hb.not).ok
  ·simp only [c,if_false] at kC
   have hm:=h0.mem κ' b' kC
   simp only [c,if_false] at hm
   have:cF μ κ (some (some (b,cap))) κ'=μ κ':=by simp [cF,c]
   rw [this]
   refine hm.mono (fun _ x=>x) hw H8 (fun g cc e=>?_)
   have qW:=RW κ' b' g cc kC e
   rw [e] at hm
   exact ⟨AO.block g hm.at.lt qW,hm.at.not⟩
 ·simp only [M.set] at h1 h2
  by_cases c1:κ1=κ
  ·by_cases c2:κ2=κ
   ·rw [c1,c2]
   ·simp only [c1,cF,if_true,Option.some.injEq,Prod.mk.injEq] at h3
    simp only [c2,if_false] at h2
    simp only [cF,c2,if_false] at h4
    exact absurd h3.1.symm (RW κ2 b2 g c' h2 h4)
  ·simp only [c1,if_false] at h1
   simp only [cF,c1,if_false] at h3
   by_cases c2:κ2=κ
   ·simp only [c2,cF,if_true,Option.some.injEq,Prod.mk.injEq] at h4
    exact absurd h4.1.symm (RW κ1 b1 g c h1 h3)
   ·simp only [c2,if_false] at h2
    simp only [cF,c2,if_false] at h4
    exact h.inj κ1 κ2 b1 b2 g c c' h1 h2 h3 h4
 ·simp only [M.set] at h1
  by_cases c1:κ'=κ
  ·simp only [c1,cF,if_true,Option.some.injEq,Prod.mk.injEq] at h2
   rw [← h2.1]
   exact MM
  ·simp only [c1,if_false] at h1
   simp only [cF,c1,if_false] at h2
   exact h.own κ' b' g c h1 h2
 ·refine h.kept.trans AO (fun q hq e=>?_)
  subst e
  rcases MM with h1 | h1
  ·omega
  ·exact h1
theorem cE.FA (h:cE C A a w S μ ν) {κ:Nat} (hf:iC A κ) (e k:Nat) (f:Nat→List D):cE C (A.set κ (some (.row e k 0 f))) a w S (cF μ κ (some none)) ν:=by
 have h0:=h.forget hf
 have H8:∀ k y,(if k=κ then none else μ k)=some y→cF μ κ (some none) k=some y:=by
  intro k y hy
  by_cases c:k=κ
  ·simp [c] at hy
  ·simpa [cF,c] using hy
 refine ⟨h.tmps,h.defers,fun t=>(h0.df t).mono (fun _ x=>x) (fun _ _=>rfl) H8,fun κ' b' kC=>?_,fun κ1 κ2 b1 b2 g c c' h1 h2 h3 h4=>?_,fun κ' b' g c h1 h2=>?_,h.dG,h.fresh,h.bound,h.kept⟩
 ·simp only [M.set] at kC
  by_cases c:κ'=κ
  ·simp only [c,if_true,Option.some.injEq] at kC
   subst kC
   rw [c]
   simp only [cF,if_true]
   rfl
  ·simp only [c,if_false] at kC
   have hm:=h0.mem κ' b' kC
   simp only [c,if_false] at hm
   have:cF μ κ (some none) κ'=μ κ':=by simp [cF,c]
   rw [this]
   refine hm.mono (fun _ x=>x) (fun _ _=>rfl) H8 (fun g cc e=>⟨rfl,?_⟩)
   rw [e] at hm
   exact hm.at.not
 ·simp only [M.set] at h1 h2
  have n1:κ1≠κ:=fun e=>by simp [e,cF] at h3
  have n2:κ2≠κ:=fun e=>by simp [e,cF] at h4
  simp only [n1,n2,if_false] at h1 h2
  simp only [cF,n1,n2,if_false] at h3 h4
  exact h.inj κ1 κ2 b1 b2 g c c' h1 h2 h3 h4
 ·simp only [M.set] at h1
  have n1:κ'≠κ:=fun e=>by simp [e,cF] at h2
  simp only [n1,if_false] at h1
  simp only [cF,n1,if_false] at h2
  exact h.own κ' b' g c h1 h2
inductive XZ (A:M) (w:World) (S:Nat→Prop) (μ:Mu) (e k:Nat):AV→Nat→(Nat→List D)→List (Nat × ba)→Prop
 | nil (f:Nat→List D):XZ A w S μ e k (.d (.v (.slice none 0 0))) 0 f []
 | own {κ n:Nat} {f:Nat→List D} (h:A.lb κ=some (.row e k n f)):XZ A w S μ e k (.own κ n) n f [(κ,.row e k n f)]
theorem DA {o:Oper} {dst t e:Nat} {it i:TI} {s x:Operand} {dv:AV} {n m:Nat} {f g:Nat→List D} {mem:List (Nat × ba)} {need:List (Nat × AV)} {ro:List (Nat × ba)} {gs:List (Nat × Bool)} {sv:Value}
  (hs:cE C A a w S μ ν) (hd:o.dst=some dst) (Vr:dst < C.nt) (ht:Cb C.P t it=true) (hk:it.kind=.slice e) (hti:Cb C.P e i=true) (ho:o.op=.call { callee:=.builtin .append,args:=#[s,x],argTypes:=#[t,t] })
  (Zv:Rel w S μ ν dv (a.eval s)) (aab:XZ A w S μ e i.size dv n f mem) (VR:a.eval x=sv) {ys:List Value} (jJ:MH w S i.size m g sv ys) (XX:n+m≤maxLen) (hb:(n+m) * i.bytes≤140737488355328) (hf:iC A dst) :
  o.wp C.P a w (fun a' w'=>∃ S' μ',cE C ((Tr.mk need (some dst) (.own dst (n+m)) ro mem [(dst,.row e i.size (n+m) fun q=>if q < n then f q else g (q - n))] gs).apply A) a' w' S' μ' ν) (fun _ _ _=>False):=by
 obtain ⟨tj,z,F⟩:=aw ht
 have sn:=F.kind
 rw [hk] at sn
 have hu:=dq sn
 have fin:∀ (A':M) (xs:List Value),cE C A' a w S μ ν→iC A' dst→(∀ t,A'.sl t=A.sl t)→(Tr.mk need (some dst) (.own dst (n+m)) ro mem [(dst,.row e i.size (n+m) fun q=>if q < n then f q else g (q - n))] gs).apply A=(A'.set dst (some (.row e i.size (n+m) fun q=>if q < n then f q else g (q - n)))).put dst (.own dst (n+m)) →
   gC w S i.size n f xs →
   ((∃ MK,a.eval s=.slice MK 0 0∧n=0∧xs=[])∨∃ b cap cur,a.eval s=.slice (some ⟨b,0,none⟩) n cap∧w.heap[b]? = some (.cells cur e (0,0))∧cur.size=cap * i.size∧n≤cap∧cap≤maxLen∧cur.toList.take (n * i.size)=xs∧¬ S b∧(C.w0.heap.size≤b∨C.T0 b)∧∀ κ' b' g' c,A'.lb κ'=some b'→μ κ'=some (some (g',c))→g'≠b) →
   o.wp C.P a w (fun a' w'=>∃ S' μ',cE C ((Tr.mk need (some dst) (.own dst (n+m)) ro mem [(dst,.row e i.size (n+m) fun q=>if q < n then f q else g (q - n))] gs).apply A) a' w' S' μ' ν) (fun _ _ _=>False):=by
  intro A' xs wO hf' _ ab4 lh aac
  obtain ⟨v',w',dH,TG⟩:=MJ (P:=C.P) (ty:=o.type) hu hti aac jJ XX hb
  unfold Oper.wp execOp
  simp only [ho,resolve,invoke,builtin,Sem.run_bind,Sem.run_pure,Result.andThen_ok,List.map_toArray,List.map_cons,List.map_nil,VR,dH]
  rw [ab4]
  rcases TG with ⟨MK,rfl,h0,rfl⟩ | ⟨b,cap,cur,rfl,hg,gS,TH,H9,htk,Pg,AO⟩
  ·have hn0:n+m=0:=h0
   refine ⟨S,cF μ dst (some none),?_⟩
   have h1:=wO.FA hf' e i.size (fun q=>if q < n then f q else g (q - n))
   rw [hn0]
   have h2:=h1.put (dst:=some dst) (x:=.own dst 0) (v:=.slice MK 0 0) (fun t ht=>by cases ht; exact Vr) (.cu (by simp [cF]))
   rw [hd]
   exact h2
  ·have hbS:¬ S b:=by
    rcases Pg with rfl | hQ
    ·exact fun hq=>by have:=hs.bound _ hq; omega
    ·exact hQ.1
   have MM:C.w0.heap.size≤b∨C.T0 b:=by
    rcases Pg with rfl | hQ
    ·exact .inl hs.kept.size
    ·exact hQ.2.1
   have RW:∀ κ' b' g' c,A'.lb κ'=some b'→μ κ'=some (some (g',c))→g'≠b:=by
    rcases Pg with rfl | hQ
    ·intro κ' b' g' c h1 h2 e'
     have:=wO.mem κ' b' h1
     rw [h2] at this
     have:=this.at.lt
     omega
    ·exact hQ.2.2
   have hw:∀ q,S q→w'.heap[q]? = w.heap[q]?:=fun q hq=>AO.block q (hs.bound q hq) (fun e=>hbS (e ▸ hq))
   have aad:gC w' S i.size (n+m) (fun q=>if q < n then f q else g (q - n)) (xs++ys):=(lh.append jJ.rows).mono (fun _ x=>x) hw
   have h1:=wO.QR hf' (blk:=.row e i.size (n+m) fun q=>if q < n then f q else g (q - n)) (by simp [ba.keys]) AO hbS RW MM (Fz hg hbS gS TH H9 htk aad)
   have h2:=h1.put (dst:=some dst) (x:=.own dst (n+m)) (v:=.slice (some ⟨b,0,none⟩) (n+m) cap) (fun t ht=>by cases ht; exact Vr) (.own (by simp [cF]))
   refine ⟨S,cF μ dst (some (some (b,cap))),?_⟩
   rw [hd]
   exact h2
 cases aab with
 | nil =>
  have Mq:=cm rfl Zv
  exact fin A [] hs hf (fun _=>rfl) (by rw [nZ]) ⟨by simp,fun i hi=>absurd hi (by omega)⟩ (.inl ⟨none,Mq,rfl,rfl⟩)
 | @own κ _ _ hκ =>
  have hm:=hs.mem κ _ hκ
  have qW:dst≠κ:=fun e=>by rw [e] at hf; rw [hf.lb] at hκ; cases hκ
  generalize aae:a.eval s=sv0 at Zv
  cases Zv with
  | cu hμ =>
   rw [hμ] at hm
   exact fin (A.set κ none) [] (hs.drop κ) (hf.drop κ) (fun _=>rfl) (by rw [vb qW]) ⟨by simp,fun i hi=>absurd hi (by omega)⟩ (.inl ⟨_,aae,rfl,rfl⟩)
  | @own _ _ b cap hμ =>
   rw [hμ] at hm
   have oO:=hm.at.not
   obtain ⟨cur,hg,h2,h3,h4,h5⟩:=wV hm.at
   refine fin (A.set κ none) _ (hs.drop κ) (hf.drop κ) (fun _=>rfl) (by rw [vb qW]) h5 (.inr ⟨b,cap,cur,aae,hg,h2,h3,h4,rfl,oO,hs.own κ _ b cap hκ hμ,fun κ' b' g' c h1 h2 e'=>?_⟩)
   simp only [M.set] at h1
   by_cases cc:κ'=κ
   ·simp [cc] at h1
   ·simp only [cc,if_false] at h1
    subst e'
    exact cc (hs.inj κ' κ b' _ g' c cap h1 hκ h2 hμ)
theorem FB {o:Oper} {t:Nat} {i:TI} {κ e k n p off:Nat} {f:Nat→List D} {ad x:Operand} {v:AV} {xs:List AV} {ds:List D} {need:List (Nat × AV)} {ro:List (Nat × ba)} {gs:List (Nat × Bool)} (hs:cE C A a w S μ ν) (ht:Cb C.P t i=true) (ho:o.op=.store t ad x) (hd:o.dst=none)
  (ha:Rel w S μ ν (.uS κ k p off) (a.eval ad)) (hx:Rel w S μ ν v (a.eval x)) (hκ:A.lb κ=some (.row e k n f)) (hc:v.cells=some xs) (hp:vW xs=some ds) (hlen:ds.length=i.size) (hle:off+i.size≤k) (hpn:p < n) (tg:ds.all wu=true) (y:AV) :
  o.wp C.P a w (fun a' w'=>∃ S' μ',cE C ((Tr.mk need none y ro [(κ,.row e k n f)] [(κ,.row e k n fun q=>if q=p then (f p).take off++ds++(f p).drop (off+i.size) else f q)] gs).apply A) a' w' S' μ' ν) (fun _ _ _=>False):=by
 have exs:=qY hp
 subst exs
 generalize Ta:a.eval ad=av at ha
 cases ha with
 | @uS _ _ _ _ g cap hμ =>
  have hm:=hs.mem κ _ hκ
  rw [hμ] at hm
  have KG:=hm.at
  have oO:=KG.not
  obtain ⟨cur,hg,zm,ML,H9,lh⟩:=wV KG
  obtain ⟨TC,TE⟩:=l7 hc hx
  simp only [List.length_map] at TC TE
  have VP:(a.eval x).cells.size=i.size:=by simp at TC; omega
  have hpk:p * k+k≤n * k:=by
   calc p * k+k=(p+1) * k:=by rw [Nat.add_mul,Nat.one_mul]
    _≤n * k:=Nat.mul_le_mul_right k hpn
  have adG:n * k≤cap * k:=Nat.mul_le_mul_right k ML
  have dH:=Dz (w:=w) (P:=C.P) ht (g:=g) (off:=p * k+off) (v:=a.eval x) hg VP (by omega) (fun u hu=>by
   obtain ⟨j,hj,rfl⟩:=List.getElem_of_mem hu
   have B5:j < ds.length:=by omega
   have h2:=TE j B5
   rw [show (a.eval x).cells.toList.getD j undef=(a.eval x).cells.toList[j] from by simp only [List.getD,List.getElem?_eq_getElem hj,Option.getD_some],iE ds j B5] at h2
   simp only [List.all_eq_true] at tg
   exact AM (tg _ (by simp [List.getD,B5])) (gq.1 h2))
  unfold Oper.wp execOp
  simp only [ho,Sem.run_bind,Ta,dH,Result.andThen_ok,Sem.run_pure]
  refine ⟨S,μ,?_⟩
  rw [kf,hd]
  generalize AN:(cur.toList.take (p * k+off)++(a.eval x).cells.toList++cur.toList.drop (p * k+off+i.size))=new
  have hw:∀ q,S q→(w.setRow g new.toArray).heap[q]? = w.heap[q]?:=fun q hq=>setRow_other w g q _ (fun e=>oO (e ▸ hq))
  have RX:(a.eval x).cells.toList.length=i.size:=by rw [TC]; exact hlen
  have hnl:new.length=cap * k:=by
   rw [← AN]
   simp only [List.length_append,List.length_take,List.length_drop,Array.length_toList] at RX ⊢
   simp only [VP]
   omega
  have Ph:∀ j,j < cap * k→new[j]? = if j < p * k+off then cur[j]? else if j < p * k+off+i.size then (a.eval x).cells.toList[j - (p * k+off)]? else cur[j]?:=by
   intro j hj
   rw [← AN]
   by_cases c1:j < p * k+off
   ·rw [List.append_assoc,List.getElem?_append_left (by simp; omega),List.getElem?_take,if_pos c1,if_pos c1]
    simp
   ·rw [if_neg c1]
    by_cases c2:j < p * k+off+i.size
    ·rw [if_pos c2,List.append_assoc,List.getElem?_append_right (by simp; omega),List.getElem?_append_left (by simp at RX ⊢; omega)]
     congr 1
     simp
     omega
    ·rw [if_neg c2,List.getElem?_append_right (by simp at RX ⊢; omega),List.getElem?_drop]
     simp only [Array.getElem?_toList]
     congr 1
     simp at RX ⊢
     omega
  refine hs.write hκ hμ (b':=.row e k n _) ⟨new.toArray,setRow_heap w g cur _ e _ hg,oO,by simpa using hnl,ML,H9,fun q hq=>⟨?_,fun j hj=>?_⟩⟩
  ·by_cases c:q=p
   ·simp only [c,if_true,List.length_append,List.length_take,List.length_drop]
    have:=(lh.2 p hpn).1
    omega
   ·simp only [c,if_false]
    exact (lh.2 q hq).1
  ·have hqk:q * k+k≤n * k:=by
    calc q * k+k=(q+1) * k:=by rw [Nat.add_mul,Nat.one_mul]
     _≤n * k:=Nat.mul_le_mul_right k hq
   have AF:q * k+j < cap * k:=by omega
   rw [List.getElem?_toArray,Ph _ AF]
   have ab5:∃ u,cur[q * k+j]? = some u∧Rd w S ((f q).getD j default) u:=by
    have di:q * k+j < cur.size:=by omega
    refine ⟨cur[q * k+j],by simp [di],?_⟩
    have:=(lh.2 q hq).2 j hj
    rwa [show (cur.toList.take (n * k)).getD (q * k+j) undef=cur[q * k+j] from by simp [List.getD,(by omega:q * k+j < n * k),di]] at this
   obtain ⟨u,hu,Pe⟩:=ab5
   by_cases c:q=p
   ·subst c
    simp only [if_true]
    have Xh:=(lh.2 q hq).1
    by_cases c1:j < off
    ·rw [if_pos (by omega)]
     refine ⟨u,hu,?_⟩
     rw [show ((f q).take off++ds++(f q).drop (off+i.size)).getD j default=(f q).getD j default from by
      simp only [List.getD]
      rw [List.append_assoc,List.getElem?_append_left (by simp; omega),List.getElem?_take,if_pos c1]]
     exact Pe.mono (fun _ x=>x) hw
    ·rw [if_neg (by omega)]
     by_cases c2:j < off+i.size
     ·rw [if_pos (by omega)]
      have hjd:j - off < ds.length:=by omega
      have h2:=TE (j - off) hjd
      rw [iE ds _ hjd] at h2
      have di:q * k+j - (q * k+off) < (a.eval x).cells.toList.length:=by omega
      refine ⟨_,List.getElem?_eq_getElem di,?_⟩
      rw [show ((f q).take off++ds++(f q).drop (off+i.size)).getD j default=ds.getD (j - off) default from by
       simp only [List.getD]
       rw [List.append_assoc,List.getElem?_append_right (by simp; omega),List.getElem?_append_left (by simp; omega)]
       simp [(by omega:min off (f q).length=off)]]
      have e3:(a.eval x).cells.toList.getD (j - off) undef=(a.eval x).cells.toList[q * k+j - (q * k+off)]:=by
       have:q * k+j - (q * k+off)=j - off:=by omega
       simp only [this,List.getD]
       rw [List.getElem?_eq_getElem (by omega),Option.getD_some]
      rw [e3] at h2
      exact (gq.1 h2).mono (fun _ x=>x) hw
     ·rw [if_neg (by omega)]
      refine ⟨u,hu,?_⟩
      rw [show ((f q).take off++ds++(f q).drop (off+i.size)).getD j default=(f q).getD j default from by
       simp only [List.getD]
       rw [List.getElem?_append_right (by simp; omega),List.getElem?_drop]
       congr 2
       simp
       omega]
      exact Pe.mono (fun _ x=>x) hw
   ·simp only [c,if_false]
    have ab6:q * k+j < p * k+off∨p * k+off+i.size≤q * k+j:=by
     rcases Nat.lt_or_gt_of_ne c with h1 | h1
     ·left
      have:q * k+k≤p * k:=by
       calc q * k+k=(q+1) * k:=by rw [Nat.add_mul,Nat.one_mul]
        _≤p * k:=Nat.mul_le_mul_right k h1
      omega
     ·right
      have:p * k+k≤q * k:=by
       calc p * k+k=(p+1) * k:=by rw [Nat.add_mul,Nat.one_mul]
        _≤q * k:=Nat.mul_le_mul_right k h1
      omega
    refine ⟨u,?_,Pe.mono (fun _ x=>x) hw⟩
    rcases ab6 with h1 | h1
    ·rw [if_pos h1]; exact hu
    ·rw [if_neg (by omega),if_neg (by omega)]; exact hu
end
def ev (P:Program) (f:FuncId):Bool :=
 match P.funcs[f]? with
 | some fn=>fn.name != "runtime.NumGoroutine"&&fn.body.isSome
 | none=>false
def Handed (cz:List (Nat × ba)) (μ:Mu) (g:Nat):Prop:=∃ κ b c,look cz κ=some b∧μ κ=some (some (g,c))
def QS (cz:List (Nat × ba)) (μ:Mu):Prop:=∀ κ κ' b b' g c c',look cz κ=some b→look cz κ'=some b'→μ κ=some (some (g,c))→μ κ'=some (some (g,c'))→κ=κ'
structure MN (w:World) (S:Nat→Prop) (T:Nat→Prop) (res:AV) (cz:List (Nat × ba)) (v:Value) (S':Nat→Prop) (μ':Mu) (w':World):Prop where
 res:∀ ν,Rel w' S' μ' ν res v
 mem:∀ κ b,look cz κ=some b→fT w' S' μ' b (μ' κ)
 inj:QS cz μ'
 own:∀ κ b g c,look cz κ=some b→μ' κ=some (some (g,c))→w.heap.size≤g∨T g
 sub:∀ b,S b→S' b
 new:∀ b,S' b→S b∨w.heap.size≤b∨T b
 bound:∀ b,S' b→b < w'.heap.size
 kept:Kept w w' T
theorem MN.QT {w w':World} {S T T' S':Nat→Prop} {res:AV} {cz:List (Nat × ba)} {v:Value} {μ':Mu} (h:MN w S T res cz v S' μ' w') (hT:∀ b,T b→T' b):MN w S T' res cz v S' μ' w' :=
 ⟨h.res,h.mem,h.inj,fun κ b g c h1 h2=>(h.own κ b g c h1 h2).imp id (hT g),h.sub,fun b hb=>(h.new b hb).imp id (Or.imp id (hT b)),h.bound,h.kept.vV hT⟩
def fA (P:Program) (f:FuncId) (args:List AV) (cz:List (Nat × ba)) (res:AV) (fh:List (Nat × ba)):Prop :=
 ev P f=true∧∀ (w:World) (S:Nat→Prop) (μ:Mu) (vs:Array Value),(∀ b,S b→b < w.heap.size)→gT w S→(∀ ν,cP w S μ ν args vs.toList)→(∀ κ b,look cz κ=some b→fT w S μ b (μ κ))→QS cz μ →
  Calls P f vs w fun e w'=>∃ v S' μ',e=.returned v∧MN w S (Handed cz μ) res fh v S' μ' w'
theorem vc {P:Program} {w:World} {f:FuncId} (h:ev P f=true) (args:Array Value):(callFunc f args).run P w=.ok (.enter f args) w:=by
 unfold ev at h
 cases hf:P.funcs[f]? with
 | none=>rw [hf] at h; cases h
 | some fn =>
  rw [hf] at h
  simp only [Bool.and_eq_true,bne_iff_ne,ne_eq] at h
  have h2:¬ fn.body=none:=by cases hb:fn.body <;> simp_all
  simp [callFunc,hf,h.1,h2]
section
variable {C : Cx} {A : M} {a : Act} {w : World} {S : Nat → Prop} {μ : Mu} {ν : Nat → Bool}
def flat:D→Bool
 | .v _=>true
 | .agg cs=>JY cs
 | .sl _ _=>false
where JY:List D→Bool
 | []=>true
 | .v _ :: r=>JY r
 | _ :: _=>false
theorem FC:∀ (l:List D) (i:Nat),flat.JY l=true→i < l.length→∃ x,l.getD i default=.v x
 | [],i,_,hi=>absurd hi (by simp)
 | .v x :: r,0,_,_=>⟨x,rfl⟩
 | .v x :: r,i+1,h,hi=>by simpa using FC r i (by simpa [flat.JY] using h) (by simpa using hi)
 | .agg _ :: r,_,h,_=>by simp [flat.JY] at h
 | .sl _ _ :: r,_,h,_=>by simp [flat.JY] at h
theorem QU {d:D} (h:flat d=true) {w':World} {S':Nat→Prop} {x:Value} (hr:Rd w S d x):Rd w' S' d x:=by
 cases hr with
 | v _ hs=>exact .v _ hs
 | agg cs vs hl hh =>
  refine .agg cs vs hl (fun i hi=>?_)
  obtain ⟨y,hy⟩:=FC cs i (by simpa [flat] using h) hi
  have:=hh i hi
  rw [hy] at this ⊢
  cases this with
  | v _ hs=>exact .v _ hs
 | nil=>simp [flat] at h
 | sl=>simp [flat] at h
def eA:AV→Bool
 | .d x=>flat x
 | .eD l=>kg l
 | _=>false
where kg:List AV→Bool
 | []=>true
 | .d x :: r=>flat x&&kg r
 | _ :: _=>false
theorem DB:∀ (l:List AV) (i:Nat),eA.kg l=true→i < l.length→∃ x,l.getD i default=.d x∧flat x=true
 | [],i,_,hi=>absurd hi (by simp)
 | .d x :: r,0,h,_=>⟨x,rfl,by simp only [eA.kg,Bool.and_eq_true] at h; exact h.1⟩
 | .d x :: r,i+1,h,hi=>by
  simp only [eA.kg,Bool.and_eq_true] at h
  simpa using DB r i h.2 (by simpa using hi)
 | .any :: r,_,h,_=>by simp [eA.kg] at h
 | .own _ _ :: r,_,h,_=>by simp [eA.kg] at h
 | .ptr _ _ :: r,_,h,_=>by simp [eA.kg] at h
 | .uS _ _ _ _ :: r,_,h,_=>by simp [eA.kg] at h
 | .ref _ :: r,_,h,_=>by simp [eA.kg] at h
 | .wG _ _ :: r,_,h,_=>by simp [eA.kg] at h
 | .sj _ :: r,_,h,_=>by simp [eA.kg] at h
 | .yg _ _ :: r,_,h,_=>by simp [eA.kg] at h
 | .fn _ _ :: r,_,h,_=>by simp [eA.kg] at h
 | .eD _ :: r,_,h,_=>by simp [eA.kg] at h
 | .ag _ :: r,_,h,_=>by simp [eA.kg] at h
 | .g _ _ :: r,_,h,_=>by simp [eA.kg] at h
theorem JZ {x:AV} (h:eA x=true) {w':World} {S':Nat→Prop} {μ':Mu} {ν':Nat→Bool} {v:Value} (hr:Rel w S μ ν x v):Rel w' S' μ' ν' x v:=by
 cases hr with
 | d hd=>exact .d (QU (by simpa [eA] using h) hd)
 | eD hl hh =>
  refine .eD hl (fun i hi=>?_)
  obtain ⟨y,hy,hf⟩:=DB _ i (by simpa [eA] using h) hi
  have:=hh i hi
  rw [hy] at this ⊢
  exact .d (QU hf (gq.1 this))
 | any=>simp [eA] at h
 | cu=>simp [eA] at h
 | own=>simp [eA] at h
 | ptr=>simp [eA] at h
 | uS=>simp [eA] at h
 | ref=>simp [eA] at h
 | wG=>simp [eA] at h
 | sj=>simp [eA] at h
 | yg=>simp [eA] at h
 | fn=>simp [eA] at h
 | ag=>simp [eA] at h
 | g=>simp [eA] at h
abbrev BR (α:Type):=Option (α × List (Nat × ba) × Ob)
def KM (lb:List (Nat × ba)):AV→BR D
 | .d x=>some (x,[],.tt)
 | .wG n f=>some (.sl n f,[],.tt)
 | .own κ n=>(match look lb κ with | some (.row e k m f)=>some (.sl n f,[(κ,.row e k m f)],.ne n m) | _=>none)
 | _=>none
def zn (lb:List (Nat × ba)):List AV→BR (List D)
 | []=>some ([],[],.tt)
 | x :: r=>(match KM lb x,zn lb r with | some (y,ro,ob),some (l,JX,AE)=>some (y :: l,ro++JX,ob.and AE) | _,_=>none)
def wW (lb:List (Nat × ba)):AV→BR AV
 | .ref cs=>some (.ref cs,[],.tt)
 | .ptr κ off=>(match look lb κ with
  | some (.box cs)=>(match zn lb cs with | some (ds,ro,ob)=>some (.ref (ds.drop off),(κ,.box cs) :: ro,ob) | none=>none)
  | _=>none)
 | .ag l=>(match zn lb l with | some (ds,ro,ob)=>some (.d (.agg ds),ro,ob) | none=>none)
 | .sj κ=>(match look lb κ with | some (.mp n f)=>some (.yg n f,[(κ,.mp n f)],.tt) | some (.mx _)=>some (.any,[],.tt) | _=>none)
 | .yg n f=>some (.yg n f,[],.tt)
 | x=>(match KM lb x with | some (y,ro,ob)=>some (.d y,ro,ob) | none=>none)
def vd (lb:List (Nat × ba)):List AV→BR (List AV)
 | []=>some ([],[],.tt)
 | x :: r=>(match wW lb x,vd lb r with | some (y,ro,ob),some (l,JX,AE)=>some (y :: l,ro++JX,ob.and AE) | _,_=>none)
def wv (lb:List (Nat × ba)):AV→BR AV
 | .fn f bZ=>(match vd lb bZ with | some (l,ro,ob)=>some (.fn f l,ro,ob) | none=>none)
 | x=>wW lb x
def tW (lb:List (Nat × ba)):List AV→BR (List AV)
 | []=>some ([],[],.tt)
 | x :: r=>(match wv lb x,tW lb r with | some (y,ro,ob),some (l,JX,AE)=>some (y :: l,ro++JX,ob.and AE) | _,_=>none)
theorem QV (hs:cE C A a w S μ ν) {S':Nat→Prop} (hS:∀ b,S b→S' b) (hO:∀ κ b g c,A.lb κ=some b→μ κ=some (some (g,c))→S' g) {lb:List (Nat × ba)} {x:AV} {y:D} {ro:List (Nat × ba)} {ob:Ob} (h:KM lb x=some (y,ro,ob)) (kB:∀ p,p∈ro→A.lb p.1=some p.2) (bH:ob.den) {v:Value} (hr:Rel w S μ ν x v):Rd w S' y v:=by
 unfold KM at h
 split at h
 ·simp only [Option.some.injEq,Prod.mk.injEq] at h
  obtain ⟨rfl,-,-⟩:=h
  exact (gq.1 hr).mono hS (fun _ _=>rfl)
 ·simp only [Option.some.injEq,Prod.mk.injEq] at h
  obtain ⟨rfl,-,-⟩:=h
  cases hr with
  | wG hd=>exact hd.mono hS (fun _ _=>rfl)
 ·rename_i κ n
  split at h
  ·rename_i e k m f hl
   simp only [Option.some.injEq,Prod.mk.injEq] at h
   obtain ⟨rfl,rfl,rfl⟩:=h
   simp only [Ob.den] at bH
   have hm:=hs.mem κ _ (kB (κ,.row e k m f) (by simp))
   cases hr with
   | @cu _ ad =>
    cases ad with
    | none=>exact .nil f
    | some ad=>exact .sl 0 f ad 0 0 (fun _ _=>undef) (Nat.le_refl _) (by simp [maxLen]) (.inl rfl) (fun i hi=>absurd hi (by omega)) (fun i j hi=>absurd hi (by omega)) (fun i j hi=>absurd hi (by omega))
   | @own _ _ g cap hμ =>
    rw [hμ] at hm
    have di:=hO κ _ g cap (kB (κ,.row e k m f) (by simp)) hμ
    obtain ⟨cur,hg,_,gS,hn,hc,lh⟩:=hm.at
    refine .sl n f ⟨g,0,none⟩ cap k (fun i j=>(cur[i * k+j]?).getD undef) (by omega) hc (.inr rfl) (fun i hi=>(lh i (by omega)).1) (fun i j hi hj=>⟨di,?_⟩) (fun i j hi hj=>?_)
    ·obtain ⟨u,hu,_⟩:=(lh i (by omega)).2 j hj
     rw [Nat.zero_add,fC w g _ cur e _ hg,hu]
     rfl
    ·obtain ⟨u,hu,Pe⟩:=(lh i (by omega)).2 j hj
     rw [hu]
     exact Pe.mono hS (fun _ _=>rfl)
  ·cases h
 ·cases h
theorem FD (hs:cE C A a w S μ ν) {S':Nat→Prop} (hS:∀ b,S b→S' b) (hO:∀ κ b g c,A.lb κ=some b→μ κ=some (some (g,c))→S' g) {lb:List (Nat × ba)}:∀ {xs:List AV} {ys:List D} {ro:List (Nat × ba)} {ob:Ob},zn lb xs=some (ys,ro,ob)→(∀ p,p∈ro→A.lb p.1=some p.2)→ob.den→∀ {vs:List Value},cP w S μ ν xs vs →
  ys.length=xs.length∧∀ i,i < ys.length→Rd w S' (ys.getD i default) (vs.getD i undef)
 | [],ys,ro,ob,h,_,_,vs,_=>by
  simp only [zn,Option.some.injEq,Prod.mk.injEq] at h
  obtain ⟨rfl,-,-⟩:=h
  exact ⟨rfl,fun i hi=>absurd hi (by simp)⟩
 | x :: r,ys,ro,ob,h,kB,bH,vs,hr=>by
  simp only [zn] at h
  cases h1:KM lb x with
  | none=>rw [h1] at h; cases h
  | some p =>
   obtain ⟨y,Zw,yJ⟩:=p
   cases h2:zn lb r with
   | none=>rw [h1,h2] at h; cases h
   | some q =>
    obtain ⟨l,ro2,D5⟩:=q
    rw [h1,h2] at h
    simp only [Option.some.injEq,Prod.mk.injEq] at h
    obtain ⟨rfl,rfl,rfl⟩:=h
    have hr0:=hr.2 0 (by simp)
    match vs,hr with
    | [],hr=>have:=hr.1; simp at this
    | v :: vs,hr =>
     have ht:cP w S μ ν r vs:=⟨by simpa using hr.1,fun i hi=>by simpa using hr.2 (i+1) (by simpa using hi)⟩
     obtain ⟨i1,i2⟩:=FD hs hS hO h2 (fun p hp=>kB p (List.mem_append.2 (.inr hp))) (Ob.cg bH).2 ht
     refine ⟨by simp [i1],fun i hi=>?_⟩
     cases i with
     | zero=>simpa using QV hs hS hO h1 (fun p hp=>kB p (List.mem_append.2 (.inl hp))) (Ob.cg bH).1 (by simpa using hr.2 0 (by simp))
     | succ i=>simpa using i2 i (by simpa using hi)
theorem fP (hs:cE C A a w S μ ν) {S':Nat→Prop} (hS:∀ b,S b→S' b) (hO:∀ κ b g c,A.lb κ=some b→μ κ=some (some (g,c))→S' g) {lb:List (Nat × ba)} {x y:AV} {ro:List (Nat × ba)} {ob:Ob} (h:wW lb x=some (y,ro,ob)) (kB:∀ p,p∈ro→A.lb p.1=some p.2) (bH:ob.den) {v:Value} (hr:Rel w S μ ν x v) (μ':Mu) (ν':Nat→Bool):Rel w S' μ' ν' y v:=by
 have other:(match KM lb x with | some (y,ro,ob)=>some (AV.d y,ro,ob) | none=>none)=some (y,ro,ob)→Rel w S' μ' ν' y v:=fun h=>by
  cases h1:KM lb x with
  | none=>rw [h1] at h; cases h
  | some p =>
   obtain ⟨y',Zw,yJ⟩:=p
   rw [h1] at h
   simp only [Option.some.injEq,Prod.mk.injEq] at h
   obtain ⟨rfl,rfl,rfl⟩:=h
   exact .d (QV hs hS hO h1 kB bH hr)
 cases x with
 | ref cs =>
  simp only [wW,Option.some.injEq,Prod.mk.injEq] at h
  obtain ⟨rfl,-,-⟩:=h
  cases hr with
  | ref eV bG h=>exact .ref eV (fun j hj=>⟨hS _ (bG j hj).1,(bG j hj).2⟩) (fun j hj=>(h j hj).mono hS (fun _ _=>rfl))
 | ptr κ off =>
  simp only [wW] at h
  split at h
  ·rename_i cs hl
   split at h
   ·rename_i ds JX AE hb
    simp only [Option.some.injEq,Prod.mk.injEq] at h
    obtain ⟨rfl,rfl,rfl⟩:=h
    cases hr with
    | @ptr _ _ g cap hμ =>
     have hm:=hs.mem κ _ (kB (κ,.box cs) (by simp))
     rw [hμ] at hm
     have di:=hO κ _ g cap (kB (κ,.box cs) (by simp)) hμ
     obtain ⟨cur,e,hg,_,gS,lh⟩:=hm.at
     have Zs:cP w S μ ν cs cur.toList:=⟨by simpa using gS,fun i hi=>by
      obtain ⟨u,hu,Pe⟩:=lh i hi
      rw [show cur.toList.getD i undef=u from by simp [List.getD,hu]]
      exact Pe ν⟩
     obtain ⟨i1,i2⟩:=FD hs hS hO hb (fun p hp=>kB p (List.mem_cons_of_mem _ hp)) bH Zs
     refine .ref (fun j=>cur.toList.getD (off+j) undef) (fun j hj=>⟨di,?_⟩) (fun j hj=>?_)
     ·simp only [List.length_drop] at hj
      rw [fC w g _ cur e _ hg]
      have:off+j < cur.size:=by omega
      simp [List.getD,this]
     ·simp only [List.length_drop] at hj
      rw [show (ds.drop off).getD j default=ds.getD (off+j) default from by simp [List.getD]]
      exact i2 (off+j) (by omega)
   ·cases h
  ·cases h
 | ag l =>
  simp only [wW] at h
  split at h
  ·rename_i ds JX AE hb
   simp only [Option.some.injEq,Prod.mk.injEq] at h
   obtain ⟨rfl,rfl,rfl⟩:=h
   cases hr with
   | @ag _ vs hl hh =>
    obtain ⟨i1,i2⟩:=FD hs hS hO hb kB bH (vs:=vs.toList) ⟨by rw [Array.length_toList]; exact hl,fun i hi=>by rw [← ct]; exact hh i hi⟩
    exact .d (.agg ds vs (by omega) (fun i hi=>by rw [ct]; exact i2 i hi))
  ·cases h
 | any=>exact other h
 | d=>exact other h
 | own=>exact other h
 | uS=>exact other h
 | wG=>exact other h
 | yg n f =>
  simp only [wW,Option.some.injEq,Prod.mk.injEq] at h
  obtain ⟨rfl,-,-⟩:=h
  cases hr with
  | yg h=>exact .yg (h.mono hS (fun _ _=>rfl))
 | sj κ =>
  simp only [wW] at h
  split at h
  ·rename_i n f hl
   simp only [Option.some.injEq,Prod.mk.injEq] at h
   obtain ⟨rfl,rfl,rfl⟩:=h
   have hκ:=kB (κ,.mp n f) (by simp)
   cases hr with
   | @sj _ g cap hμ =>
    have hm:=hs.mem κ _ hκ
    rw [hμ] at hm
    obtain ⟨cur,h1,_,h2,h3⟩:=hm.at
    refine .yg ⟨hO κ _ g cap hκ hμ,cur,h1,h2,fun i hi=>?_⟩
    obtain ⟨e,q1,q2,q3,q4,q5⟩:=h3 i hi
    exact ⟨e,q1,q2,q3,q4,q5.mono hS (fun _ _=>rfl)⟩
  ·simp only [Option.some.injEq,Prod.mk.injEq] at h
   obtain ⟨rfl,-,-⟩:=h
   exact .any _
  ·cases h
 | fn=>exact other h
 | eD=>exact other h
 | g=>exact other h
theorem FE (hs:cE C A a w S μ ν) {S':Nat→Prop} (hS:∀ b,S b→S' b) (hO:∀ κ b g c,A.lb κ=some b→μ κ=some (some (g,c))→S' g) {lb:List (Nat × ba)} (μ':Mu) (ν':Nat→Bool):∀ {xs ys:List AV} {ro:List (Nat × ba)} {ob:Ob},vd lb xs=some (ys,ro,ob)→(∀ p,p∈ro→A.lb p.1=some p.2)→ob.den→∀ {vs:List Value},cP w S μ ν xs vs →
  cP w S' μ' ν' ys vs
 | [],ys,ro,ob,h,_,_,vs,hr=>by
  simp only [vd,Option.some.injEq,Prod.mk.injEq] at h
  obtain ⟨rfl,-,-⟩:=h
  exact ⟨hr.1,fun i hi=>absurd hi (by simp)⟩
 | x :: r,ys,ro,ob,h,kB,bH,vs,hr=>by
  simp only [vd] at h
  cases h1:wW lb x with
  | none=>rw [h1] at h; cases h
  | some p =>
   obtain ⟨y,Zw,yJ⟩:=p
   cases h2:vd lb r with
   | none=>rw [h1,h2] at h; cases h
   | some q =>
    obtain ⟨l,ro2,D5⟩:=q
    rw [h1,h2] at h
    simp only [Option.some.injEq,Prod.mk.injEq] at h
    obtain ⟨rfl,rfl,rfl⟩:=h
    match vs,hr with
    | [],hr=>have:=hr.1; simp at this
    | v :: vs,hr =>
     have ht:cP w S μ ν r vs:=⟨by simpa using hr.1,fun i hi=>by simpa using hr.2 (i+1) (by simpa using hi)⟩
     have ih:=FE hs hS hO μ' ν' h2 (fun p hp=>kB p (List.mem_append.2 (.inr hp))) (Ob.cg bH).2 ht
     refine ⟨by simpa using ih.1,fun i hi=>?_⟩
     cases i with
     | zero=>simpa using fP hs hS hO h1 (fun p hp=>kB p (List.mem_append.2 (.inl hp))) (Ob.cg bH).1 (by simpa using hr.2 0 (by simp)) μ' ν'
     | succ i=>simpa using ih.2 i (by simpa using hi)
theorem TJ (hs:cE C A a w S μ ν) {S':Nat→Prop} (hS:∀ b,S b→S' b) (hO:∀ κ b g c,A.lb κ=some b→μ κ=some (some (g,c))→S' g) {lb:List (Nat × ba)} {x y:AV} {ro:List (Nat × ba)} {ob:Ob} (h:wv lb x=some (y,ro,ob)) (kB:∀ p,p∈ro→A.lb p.1=some p.2) (bH:ob.den) {v:Value} (hr:Rel w S μ ν x v) (μ':Mu) (ν':Nat→Bool):Rel w S' μ' ν' y v:=by
 cases x with
 | fn f bZ =>
  simp only [wv] at h
  split at h
  ·rename_i l JX AE hb
   simp only [Option.some.injEq,Prod.mk.injEq] at h
   obtain ⟨rfl,rfl,rfl⟩:=h
   cases hr with
   | @fn _ _ vs hl hh =>
    obtain ⟨i1,i2⟩:=FE hs hS hO μ' ν' hb kB bH (vs:=vs.toList) ⟨by simpa using hl,fun i hi=>by rw [← ct]; exact hh i hi⟩
    exact .fn (by simpa using i1) (fun i hi=>by rw [ct]; exact i2 i hi)
  ·cases h
 | any=>exact fP hs hS hO (lb:=lb) (by simpa only [wv] using h) kB bH hr μ' ν'
 | d=>exact fP hs hS hO (lb:=lb) (by simpa only [wv] using h) kB bH hr μ' ν'
 | own=>exact fP hs hS hO (lb:=lb) (by simpa only [wv] using h) kB bH hr μ' ν'
 | ptr=>exact fP hs hS hO (lb:=lb) (by simpa only [wv] using h) kB bH hr μ' ν'
 | uS=>exact fP hs hS hO (lb:=lb) (by simpa only [wv] using h) kB bH hr μ' ν'
 | ref=>exact fP hs hS hO (lb:=lb) (by simpa only [wv] using h) kB bH hr μ' ν'
 | wG=>exact fP hs hS hO (lb:=lb) (by simpa only [wv] using h) kB bH hr μ' ν'
 | sj=>exact fP hs hS hO (lb:=lb) (by simpa only [wv] using h) kB bH hr μ' ν'
 | yg=>exact fP hs hS hO (lb:=lb) (by simpa only [wv] using h) kB bH hr μ' ν'
 | eD=>exact fP hs hS hO (lb:=lb) (by simpa only [wv] using h) kB bH hr μ' ν'
 | ag=>exact fP hs hS hO (lb:=lb) (by simpa only [wv] using h) kB bH hr μ' ν'
 | g=>exact fP hs hS hO (lb:=lb) (by simpa only [wv] using h) kB bH hr μ' ν'
theorem Cf (hs:cE C A a w S μ ν) {S':Nat→Prop} (hS:∀ b,S b→S' b) (hO:∀ κ b g c,A.lb κ=some b→μ κ=some (some (g,c))→S' g) {lb:List (Nat × ba)} (μ':Mu) (ν':Nat→Bool):∀ {xs ys:List AV} {ro:List (Nat × ba)} {ob:Ob},tW lb xs=some (ys,ro,ob)→(∀ p,p∈ro→A.lb p.1=some p.2)→ob.den→∀ {vs:List Value},cP w S μ ν xs vs →
  cP w S' μ' ν' ys vs
 | [],ys,ro,ob,h,_,_,vs,hr=>by
  simp only [tW,Option.some.injEq,Prod.mk.injEq] at h
  obtain ⟨rfl,-,-⟩:=h
  exact ⟨hr.1,fun i hi=>absurd hi (by simp)⟩
 | x :: r,ys,ro,ob,h,kB,bH,vs,hr=>by
  simp only [tW] at h
  cases h1:wv lb x with
  | none=>rw [h1] at h; cases h
  | some p =>
   obtain ⟨y,Zw,yJ⟩:=p
   cases h2:tW lb r with
   | none=>rw [h1,h2] at h; cases h
   | some q =>
    obtain ⟨l,ro2,D5⟩:=q
    rw [h1,h2] at h
    simp only [Option.some.injEq,Prod.mk.injEq] at h
    obtain ⟨rfl,rfl,rfl⟩:=h
    match vs,hr with
    | [],hr=>have:=hr.1; simp at this
    | v :: vs,hr =>
     have ht:cP w S μ ν r vs:=⟨by simpa using hr.1,fun i hi=>by simpa using hr.2 (i+1) (by simpa using hi)⟩
     have ih:=Cf hs hS hO μ' ν' h2 (fun p hp=>kB p (List.mem_append.2 (.inr hp))) (Ob.cg bH).2 ht
     refine ⟨by simpa using ih.1,fun i hi=>?_⟩
     cases i with
     | zero=>simpa using TJ hs hS hO h1 (fun p hp=>kB p (List.mem_append.2 (.inl hp))) (Ob.cg bH).1 (by simpa using hr.2 0 (by simp)) μ' ν'
     | succ i=>simpa using ih.2 i (by simpa using hi)
theorem vf {P:Program} {o:Oper} {cf:Operand} {xs:Array Operand} {ts:Array TypeId} (ho:o.op=.call { callee:=.value cf,args:=xs,argTypes:=ts }) {f:FuncId} {wH:Array Value} (RY:a.eval cf=.func (.func f) #[] wH) (hc:ev P f=true) :
  (execOp a.eval o).run P w=.ok (.enter f (xs.map a.eval++wH)) w:=by
 simp only [execOp,ho,resolve,RY,Deferred.ofValue,Sem.run_bind,Sem.run_pure,Result.andThen_ok,invoke,Array.empty_append]
 exact vc hc _
theorem FF {o:Oper} {cf:Operand} {xs:Array Operand} {ts:Array TypeId} {f:FuncId} {args bZ DC:List AV} {res:AV} {ro:List (Nat × ba)} {ob:Ob} {lb:List (Nat × ba)} {τ:Tr}
  (hs:cE C A a w S μ ν) (hd:∀ t,o.dst=some t→t < C.nt) (ho:o.op=.call { callee:=.value cf,args:=xs,argTypes:=ts }) (RY:Rel w S μ ν (.fn f bZ) (a.eval cf)) (jP:cP w S μ ν args (xs.toList.map a.eval))
  (hb:tW lb (args++bZ)=some (DC,ro,ob)) (kB:∀ p,p∈ro→A.lb p.1=some p.2) (bH:ob.den) (RZ:fA C.P f DC [] res []) (Xh:eA res=true)
  (h0:τ.v=res) (h1:τ.dst=o.dst) (h2:τ.mem=[]) (h3:τ.eu=[]) :
  o.wp C.P a w (fun a' w'=>∃ S' μ',cE C (τ.apply A) a' w' S' μ' ν) (fun _ _ _=>False):=by
 generalize X0:a.eval cf=cv at RY
 cases RY with
 | @fn _ _ wH hl hh =>
  unfold Oper.wp
  rw [vf ho X0 RZ.1]
  have pn:cP w S μ ν (args++bZ) (xs.map a.eval++wH).toList:=by
   rw [Array.toList_append,Array.toList_map]
   exact jP.append ⟨by simpa using hl,fun i hi=>by rw [← ct]; exact hh i hi⟩
  refine (RZ.2 w (fun b=>b < w.heap.size) (fun _=>none) (xs.map a.eval++wH) (fun b hb=>hb) (hs.wL.mono hs.bound (fun _ _=>rfl)) (fun ν'=>Cf hs hs.bound (fun κ b g c h1 h2=>by have:=hs.mem κ b h1; rw [h2] at this; exact this.at.lt) _ ν' hb kB bH pn) (fun κ b hk=>by simp [look] at hk) (fun κ κ' b b' g c c' hk=>by simp [look] at hk)).mono ?_
  rintro e w' ⟨v,S',μ',rfl,B⟩
  have hk:Kept w w' (fun _=>False):=⟨B.kept.os,B.kept.tape,B.kept.output,B.kept.size,fun b hb _=>B.kept.block b hb (fun ⟨κ,b',c,hx,_⟩=>by simp [look] at hx)⟩
  have h4:=hs.world (S':=S) (fun _ x=>x) (fun _ x=>.inl x) hk
  have h5:=h4.put (dst:=o.dst) (x:=res) (v:=v) hd (JZ Xh (B.res ν))
  refine ⟨S,μ,?_⟩
  have e:τ.apply A=A.tS o.dst res:=by
   unfold Tr.apply M.tS M.put
   rw [h0,h1,h2,h3]
   cases ho:o.dst with
   | none=>simp [look]
   | some d =>
    simp only [look,List.map_nil,List.not_mem_nil,if_false,Option.some.injEq]
    congr 1
    funext t
    by_cases c:d=t
    ·simp [c]
    ·have:¬ t=d:=fun e=>c e.symm
     simp [c,this]
  rw [e]
  exact h5
end
section
variable {C : Cx} {A : M} {a : Act} {w : World} {S : Nat → Prop} {μ : Mu} {ν : Nat → Bool}
theorem AV.tX {k:Nat}:∀ (l:List AV) (i:Nat),i < l.length→k∈(l.getD i default).keys→k∈AV.nR l
 | [],i,hi,_=>absurd hi (by simp)
 | a :: r,0,_,h=>by simp only [AV.nR,List.mem_append]; exact .inl (by simpa using h)
 | a :: r,i+1,hi,h=>by simp only [AV.nR,List.mem_append]; exact .inr (AV.tX r i (by simpa using hi) (by simpa using h))
theorem Rel.agree {μ':Mu} {x:AV} {v:Value} (h:Rel w S μ ν x v) (hk:∀ k,k∈x.keys→μ' k=μ k):Rel w S μ' ν x v:=by
 induction h with
 | any x=>exact .any x
 | d h=>exact .d h
 | @cu key _ h=>exact .cu (by rw [hk key (by simp [AV.keys])]; exact h)
 | @own key _ _ _ h=>exact .own (by rw [hk key (by simp [AV.keys])]; exact h)
 | @ptr key _ _ _ h=>exact .ptr (by rw [hk key (by simp [AV.keys])]; exact h)
 | @uS key _ _ _ _ _ h=>exact .uS (by rw [hk key (by simp [AV.keys])]; exact h)
 | ref eV bG h=>exact .ref eV bG h
 | wG h=>exact .wG h
 | @sj key _ _ h=>exact .sj (by rw [hk key (by simp [AV.keys])]; exact h)
 | yg h=>exact .yg h
 | @fn _ bZ _ hl _ ih=>exact .fn hl (fun i hi=>ih i hi (fun k eW=>hk k (by simp only [AV.keys]; exact AV.tX bZ i hi eW)))
 | @eD l _ hl _ ih=>exact .eD hl (fun i hi=>ih i hi (fun k eW=>hk k (by simp only [AV.keys]; exact AV.tX l i hi eW)))
 | @ag l _ hl _ ih=>exact .ag hl (fun i hi=>ih i hi (fun k eW=>hk k (by simp only [AV.keys]; exact AV.tX l i hi eW)))
 | g _ h0 ih=>exact .g (fun hp=>ih hp (fun k eW=>hk k (by simpa [AV.keys] using eW))) h0
theorem cD.agree {μ':Mu} {b:ba} {g cap:Nat} (h:cD w S μ b g cap) (hk:∀ k,k∈b.keys→μ' k=μ k):cD w S μ' b g cap:=by
 cases b with
 | box cs =>
  obtain ⟨cur,e,h1,h0,h2,h6⟩:=h
  refine ⟨cur,e,h1,h0,h2,fun j hj=>?_⟩
  obtain ⟨x,hx,hr⟩:=h6 j hj
  exact ⟨x,hx,fun ν=>(hr ν).agree (fun k eW=>hk k (AV.tX _ j hj eW))⟩
 | row e k n f=>exact h
 | mp n f=>exact h
 | it mk n seen =>
  obtain ⟨mg,c,h0,h1⟩:=h
  exact ⟨mg,c,by rw [hk mk (by simp [ba.keys])]; exact h0,h1⟩
 | mx=>exact h
theorem fT.agree {μ':Mu} {b:ba} {y:Option (Option (Nat × Nat))} (h:fT w S μ b y) (hk:∀ k,k∈b.keys→μ' k=μ k):fT w S μ' b y:=by
 cases y with
 | none=>cases b <;> exact h
 | some y =>
  cases y with
  | none=>cases b <;> exact h
  | some gc=>obtain ⟨g,c⟩:=gc; exact (h.at.agree hk).ok
theorem cP.nu {ν':Nat→Bool} {l:List AV} {vs:List Value} (h:cP w S μ ν l vs) (hn:so.lx l=true):cP w S μ ν' l vs:=⟨h.1,fun i hi=>(h.2 i hi).nu (n3 l i hn hi)⟩
theorem R0 {o:Oper} {cf:Operand} {xs:Array Operand} {ts:Array TypeId} {f:FuncId} {args bZ:List AV} {res:AV} {cz fh:List (Nat × ba)} {need:List (Nat × AV)} {ro:List (Nat × ba)} {gs:List (Nat × Bool)}
  (hs:cE C A a w S μ ν) (hd:∀ t,o.dst=some t→t < C.nt) (ho:o.op=.call { callee:=.value cf,args:=xs,argTypes:=ts }) (RY:Rel w S μ ν (.fn f bZ) (a.eval cf)) (jP:cP w S μ ν args (xs.toList.map a.eval)) (hn:so.lx (args++bZ)=true)
  (RZ:fA C.P f (args++bZ) cz res fh) (OZ:∀ p,p∈cz→A.lb p.1=some p.2) (tR:∀ k,k∈fh.map (·.1)→iC A k) (R1:∀ k,k∈res.keys→k∈fh.map (·.1)) (B6:∀ p,p∈fh→∀ k,k∈p.2.keys→k∈fh.map (·.1)) :
  o.wp C.P a w (fun a' w'=>∃ S' μ',cE C ((Tr.mk need o.dst res ro cz fh gs).apply A) a' w' S' μ' ν) (fun _ _ _=>False):=by
 generalize X0:a.eval cf=cv at RY
 cases RY with
 | @fn _ _ wH hl hh =>
  unfold Oper.wp
  rw [vf ho X0 RZ.1]
  have pn:cP w S μ ν (args++bZ) (xs.map a.eval++wH).toList:=by
   rw [Array.toList_append,Array.toList_map]
   exact jP.append ⟨by simpa using hl,fun i hi=>by rw [← ct]; exact hh i hi⟩
  have uY:∀ κ b,look cz κ=some b→A.lb κ=some b:=fun κ b h=>OZ (κ,b) (gB h)
  refine (RZ.2 w S μ (xs.map a.eval++wH) hs.bound hs.wL (fun ν'=>pn.nu hn) (fun κ b hk=>hs.mem κ b (uY κ b hk)) (fun κ κ' b b' g c c' h1 h2 h3 h4=>hs.inj κ κ' b b' g c c' (uY _ _ h1) (uY _ _ h2) h3 h4)).mono ?_
  rintro e w' ⟨v,S',μ',rfl,B⟩
  have hT:∀ q,Handed cz μ q→C.w0.heap.size≤q∨C.T0 q:=fun q ⟨κ,b,c,h1,h2⟩=>hs.own κ b q c (uY κ b h1) h2
  have hTs:∀ q,Handed cz μ q→¬ S q:=fun q ⟨κ,b,c,h1,h2⟩=>by
   have:=hs.mem κ b (uY κ b h1)
   rw [h2] at this
   exact this.at.not
  have hw:∀ q,S q→w'.heap[q]? = w.heap[q]?:=fun q hq=>B.kept.block q (hs.bound q hq) (fun ht=>hTs q ht hq)
  let μ'':Mu:=fun k=>if k∈fh.map (·.1) then μ' k else μ k
  have ag:∀ k,k ∉ fh.map (·.1)→μ'' k=μ k:=fun k hk=>by simp only [μ'',hk,if_false]
  have Tb:∀ k,k∈fh.map (·.1)→μ'' k=μ' k:=fun k hk=>by simp only [μ'',hk,if_true]
  have old:∀ x v,Rel w S μ ν x v→(∀ k,k∈fh.map (·.1)→k ∉ x.keys)→Rel w' S' μ'' ν x v:=fun x v hr hk =>
   (hr.mono B.sub hw (fun _ _ e=>e)).agree (fun k hkx=>ag k (fun eW=>hk k eW hkx))
  refine ⟨S',μ'',?_⟩
  have FG:∀ κ b,((Tr.mk need o.dst res ro cz fh gs).apply A).lb κ=some b→(look fh κ=some b∧κ∈fh.map (·.1))∨(κ ∉ fh.map (·.1)∧κ ∉ cz.map (·.1)∧A.lb κ=some b):=by
   intro κ b hb
   simp only [Tr.apply] at hb
   cases Mg:look fh κ with
   | some b' =>
    rw [Mg] at hb
    simp only [Option.some.injEq] at hb
    subst hb
    exact .inl ⟨rfl,nY Mg⟩
   | none =>
    rw [Mg] at hb
    simp only at hb
    have hnk:κ ∉ fh.map (·.1):=fun hk=>by
     obtain ⟨p,hp,e⟩:=List.mem_map.1 hk
     have:∀ (l:List (Nat × ba)),p∈l→look l κ≠none:=by
      intro l
      induction l with
      | nil=>intro h; cases h
      | cons q r ih =>
       intro h hn
       obtain ⟨q1,q2⟩:=q
       simp only [look] at hn
       cases hq:Nat.beq q1 κ with
       | true=>rw [hq] at hn; cases hn
       | false =>
        rw [hq] at hn
        rcases List.mem_cons.1 h with h' | h'
        ·subst h'
         simp only at e
         rw [e,Nat.beq_refl] at hq
         cases hq
        ·exact ih h' (by simpa using hn)
     exact this fh hp Mg
    split at hb
    ·cases hb
    ·rename_i TH
     exact .inr ⟨hnk,TH,hb⟩
  have X1:∀ κ b g c,κ ∉ cz.map (·.1)→A.lb κ=some b→μ κ=some (some (g,c))→¬ Handed cz μ g∧g < w.heap.size∧¬ S g:=by
   intro κ b g c TH hb hμ
   have hm:=hs.mem κ b hb
   rw [hμ] at hm
   refine ⟨fun ⟨κ2,b2,c2,h1,h2⟩=>?_,hm.at.lt,hm.at.not⟩
   have:=hs.inj κ κ2 b b2 g c c2 hb (uY _ _ h1) hμ h2
   rw [this] at TH
   exact TH (nY h1)
  refine ⟨?_,?_,fun t=>?_,fun κ b hb=>?_,fun κ1 κ2 b1 b2 g c c' h1 h2 h3 h4=>?_,fun κ b g c hb hμ=>?_,fun b hb=>B.sub b (hs.dG b hb),fun b hb=>?_,B.bound,?_⟩
  ·simp only [Act.put]; split <;> simp [hs.tmps]
  ·simp only [Act.put]; split <;> exact hs.defers
  ·simp only [Tr.apply]
   by_cases c:o.dst=some t
   ·simp only [c,if_true,Act.put]
    rw [fK _ _ _ (by rw [hs.tmps]; exact hd t c)]
    exact (B.res ν).agree (fun k hk=>Tb k (R1 k hk))
   ·simp only [c,if_false]
    have e:(a.put o.dst v).tmps.getD t undef=a.tmps.getD t undef:=by
     cases db:o.dst with
     | none=>rfl
     | some d =>
      simp only [Act.put]
      exact cw _ _ _ _ (fun e=>c (by rw [db,e]))
    rw [e]
    exact old _ _ (hs.df t) (fun k hk=>(tR k hk).sl t)
  ·rcases FG κ b hb with ⟨h1,h2⟩ | ⟨h1,h2,h3⟩
   ·rw [Tb κ h2]
    exact (B.mem κ b h1).agree (fun k hk=>Tb k (B6 (κ,b) (gB h1) k hk))
   ·rw [ag κ h1]
    have hm:=hs.mem κ b h3
    refine (hm.mono B.sub hw (fun _ _ e=>e) (fun g c e=>?_)).agree (fun k hk=>ag k (fun eW=>(tR k eW).bl κ b h3 hk))
    obtain ⟨q1,q2,q3⟩:=X1 κ b g c h2 h3 e
    refine ⟨B.kept.block g q2 q1,fun wO=>?_⟩
    rcases B.new g wO with h | h | h
    ·exact q3 h
    ·omega
    ·exact q1 h
  ·rcases FG κ1 b1 h1 with ⟨x1,x2⟩ | ⟨x1,x2,x3⟩
   ·rw [Tb κ1 x2] at h3
    rcases FG κ2 b2 h2 with ⟨y1,y2⟩ | ⟨y1,y2,y3⟩
    ·rw [Tb κ2 y2] at h4
     exact B.inj κ1 κ2 b1 b2 g c c' x1 y1 h3 h4
    ·rw [ag κ2 y1] at h4
     obtain ⟨q1,q2,q3⟩:=X1 κ2 b2 g c' y2 y3 h4
     rcases B.own κ1 b1 g c x1 h3 with h | h
     ·omega
     ·exact absurd h q1
   ·rw [ag κ1 x1] at h3
    obtain ⟨q1,q2,q3⟩:=X1 κ1 b1 g c x2 x3 h3
    rcases FG κ2 b2 h2 with ⟨y1,y2⟩ | ⟨y1,y2,y3⟩
    ·rw [Tb κ2 y2] at h4
     rcases B.own κ2 b2 g c' y1 h4 with h | h
     ·omega
     ·exact absurd h q1
    ·rw [ag κ2 y1] at h4
     exact hs.inj κ1 κ2 b1 b2 g c c' x3 y3 h3 h4
  ·rcases FG κ b hb with ⟨h1,h2⟩ | ⟨h1,h2,h3⟩
   ·rw [Tb κ h2] at hμ
    rcases B.own κ b g c h1 hμ with h | h
    ·exact .inl (Nat.le_trans hs.kept.size h)
    ·exact hT g h
   ·rw [ag κ h1] at hμ
    exact hs.own κ b g c h3 hμ
  ·rcases B.new b hb with h | h | h
   ·exact hs.fresh b h
   ·exact .inr (.inl (Nat.le_trans hs.kept.size h))
   ·rcases hT b h with h' | h'
    ·exact .inr (.inl h')
    ·exact .inr (.inr h')
  ·refine hs.kept.trans B.kept (fun b hb h=>?_)
   rcases hT b h with h' | h'
   ·omega
   ·exact h'
def FnB (P:Program) (f:FuncId) (args:List AV) (cz:List (Nat × ba)) (res:AV) (fh:List (Nat × ba)) (kD:List (Nat × Nat)):Prop :=
 ev P f=true∧∀ (w:World) (S:Nat→Prop) (μ:Mu) (vs:Array Value),(∀ b,S b→b < w.heap.size)→gT w S→(∀ ν,cP w S μ ν args vs.toList)→(∀ κ b,look cz κ=some b→fT w S μ b (μ κ))→QS cz μ →
  Calls P f vs w fun e w'=>∃ v S' μ',e=.returned v∧MN w S (Handed cz μ) res fh v S' μ' w'∧∀ p,p∈kD→∀ ν,Rel w' S' μ' ν (.ptr p.2 0) (vs.toList.getD p.1 undef)
theorem KN {kD:List (Nat × Nat)} {o:Oper} {cf:Operand} {xs:Array Operand} {ts:Array TypeId} {f:FuncId} {args bZ:List AV} {res:AV} {cz fh:List (Nat × ba)} {need:List (Nat × AV)} {ro:List (Nat × ba)} {gs:List (Nat × Bool)}
  (hs:cE C A a w S μ ν) (hd:∀ t,o.dst=some t→t < C.nt) (ho:o.op=.call { callee:=.value cf,args:=xs,argTypes:=ts }) (RY:Rel w S μ ν (.fn f bZ) (a.eval cf)) (jP:cP w S μ ν args (xs.toList.map a.eval)) (hn:so.lx (args++bZ)=true)
  (RZ:FnB C.P f (args++bZ) cz res fh kD) (ab7:∀ p,p∈kD→p.1 < (args++bZ).length∧(args++bZ).getD p.1 default=.ptr p.2 0∧(∃ cs,look cz p.2=some (.box cs))∧∃ cs,look fh p.2=some (.box cs)) (OZ:∀ p,p∈cz→A.lb p.1=some p.2) (tR:∀ k,k∈fh.map (·.1)→k ∉ kD.map (·.2)→iC A k) (R1:∀ k,k∈res.keys→k∈fh.map (·.1)∧k ∉ kD.map (·.2)) (B6:∀ p,p∈fh→∀ k,k∈p.2.keys→k∈fh.map (·.1)∧k ∉ kD.map (·.2)) :
  o.wp C.P a w (fun a' w'=>∃ S' μ',cE C ((Tr.mk need o.dst res ro cz fh gs).apply A) a' w' S' μ' ν) (fun _ _ _=>False):=by
 generalize X0:a.eval cf=cv at RY
 cases RY with
 | @fn _ _ wH hl hh =>
  unfold Oper.wp
  rw [vf ho X0 RZ.1]
  have pn:cP w S μ ν (args++bZ) (xs.map a.eval++wH).toList:=by
   rw [Array.toList_append,Array.toList_map]
   exact jP.append ⟨by simpa using hl,fun i hi=>by rw [← ct]; exact hh i hi⟩
  have uY:∀ κ b,look cz κ=some b→A.lb κ=some b:=fun κ b h=>OZ (κ,b) (gB h)
  refine (RZ.2 w S μ (xs.map a.eval++wH) hs.bound hs.wL (fun ν'=>pn.nu hn) (fun κ b hk=>hs.mem κ b (uY κ b hk)) (fun κ κ' b b' g c c' h1 h2 h3 h4=>hs.inj κ κ' b b' g c c' (uY _ _ h1) (uY _ _ h2) h3 h4)).mono ?_
  rintro e w' ⟨v,S',μ',rfl,B,ha⟩
  have aaf:∀ κ,κ∈kD.map (·.2)→κ∈fh.map (·.1)∧(∃ cs,look fh κ=some (.box cs))∧∃ g c c',μ κ=some (some (g,c))∧μ' κ=some (some (g,c')):=by
   intro κ hκ
   obtain ⟨p,hp,rfl⟩:=List.mem_map.1 hκ
   obtain ⟨h1,h2,-,cs,h4⟩:=ab7 p hp
   have h5:=pn.2 p.1 h1
   rw [h2] at h5
   have h6:=ha p hp ν
   generalize (xs.map a.eval++wH).toList.getD p.1 undef=u at h5 h6
   refine ⟨nY h4,⟨cs,h4⟩,?_⟩
   cases h5 with
   | @ptr _ _ g c hμ =>
    cases h6 with
    | @ptr _ _ _ c' TL=>exact ⟨g,c,c',hμ,TL⟩
  have hT:∀ q,Handed cz μ q→C.w0.heap.size≤q∨C.T0 q:=fun q ⟨κ,b,c,h1,h2⟩=>hs.own κ b q c (uY κ b h1) h2
  have hTs:∀ q,Handed cz μ q→¬ S q:=fun q ⟨κ,b,c,h1,h2⟩=>by
   have:=hs.mem κ b (uY κ b h1)
   rw [h2] at this
   exact this.at.not
  have hw:∀ q,S q→w'.heap[q]? = w.heap[q]?:=fun q hq=>B.kept.block q (hs.bound q hq) (fun ht=>hTs q ht hq)
  let μ'':Mu:=fun k=>if k∈kD.map (·.2) then μ k else if k∈fh.map (·.1) then μ' k else μ k
  have ag:∀ k,(k∈fh.map (·.1)→k∈kD.map (·.2))→μ'' k=μ k:=fun k hk=>by
   simp only [μ'']
   by_cases h1:k∈kD.map (·.2)
   ·rw [if_pos h1]
   ·rw [if_neg h1,if_neg (fun h=>h1 (hk h))]
  have Tb:∀ k,k∈fh.map (·.1)→k ∉ kD.map (·.2)→μ'' k=μ' k:=fun k hk hn=>by simp only [μ'']; rw [if_neg hn,if_pos hk]
  have tr:∀ k g c,k∈fh.map (·.1)→μ'' k=some (some (g,c))→∃ c',μ' k=some (some (g,c')):=fun k g c hk h=>by
   by_cases h1:k∈kD.map (·.2)
   ·obtain ⟨-,-,g',c1,c2,e1,e2⟩:=aaf k h1
    rw [ag k (fun _=>h1),e1] at h
    simp only [Option.some.injEq,Prod.mk.injEq] at h
    obtain ⟨rfl,rfl⟩:=h
    exact ⟨c2,e2⟩
   ·rw [Tb k hk h1] at h
    exact ⟨c,h⟩
  have old:∀ x v,Rel w S μ ν x v→(∀ k,k∈fh.map (·.1)→k ∉ kD.map (·.2)→k ∉ x.keys)→Rel w' S' μ'' ν x v:=fun x v hr hk =>
   (hr.mono B.sub hw (fun _ _ e=>e)).agree (fun k hkx=>ag k (fun eW=>Classical.byContradiction (fun hn=>hk k eW hn hkx)))
  refine ⟨S',μ'',?_⟩
  have FG:∀ κ b,((Tr.mk need o.dst res ro cz fh gs).apply A).lb κ=some b→(look fh κ=some b∧κ∈fh.map (·.1))∨(κ ∉ fh.map (·.1)∧κ ∉ cz.map (·.1)∧A.lb κ=some b):=by
   intro κ b hb
   simp only [Tr.apply] at hb
   cases Mg:look fh κ with
   | some b' =>
    rw [Mg] at hb
    simp only [Option.some.injEq] at hb
    subst hb
    exact .inl ⟨rfl,nY Mg⟩
   | none =>
    rw [Mg] at hb
    simp only at hb
    have hnk:κ ∉ fh.map (·.1):=fun hk=>by
     obtain ⟨p,hp,e⟩:=List.mem_map.1 hk
     have:∀ (l:List (Nat × ba)),p∈l→look l κ≠none:=by
      intro l
      induction l with
      | nil=>intro h; cases h
      | cons q r ih =>
       intro h hn
       obtain ⟨q1,q2⟩:=q
       simp only [look] at hn
       cases hq:Nat.beq q1 κ with
       | true=>rw [hq] at hn; cases hn
       | false =>
        rw [hq] at hn
        rcases List.mem_cons.1 h with h' | h'
        ·subst h'
         simp only at e
         rw [e,Nat.beq_refl] at hq
         cases hq
        ·exact ih h' (by simpa using hn)
     exact this fh hp Mg
    split at hb
    ·cases hb
    ·rename_i TH
     exact .inr ⟨hnk,TH,hb⟩
  have X1:∀ κ b g c,κ ∉ cz.map (·.1)→A.lb κ=some b→μ κ=some (some (g,c))→¬ Handed cz μ g∧g < w.heap.size∧¬ S g:=by
   intro κ b g c TH hb hμ
   have hm:=hs.mem κ b hb
   rw [hμ] at hm
   refine ⟨fun ⟨κ2,b2,c2,h1,h2⟩=>?_,hm.at.lt,hm.at.not⟩
   have:=hs.inj κ κ2 b b2 g c c2 hb (uY _ _ h1) hμ h2
   rw [this] at TH
   exact TH (nY h1)
  refine ⟨?_,?_,fun t=>?_,fun κ b hb=>?_,fun κ1 κ2 b1 b2 g c c' h1 h2 h3 h4=>?_,fun κ b g c hb hμ=>?_,fun b hb=>B.sub b (hs.dG b hb),fun b hb=>?_,B.bound,?_⟩
  ·simp only [Act.put]; split <;> simp [hs.tmps]
  ·simp only [Act.put]; split <;> exact hs.defers
  ·simp only [Tr.apply]
   by_cases c:o.dst=some t
   ·simp only [c,if_true,Act.put]
    rw [fK _ _ _ (by rw [hs.tmps]; exact hd t c)]
    exact (B.res ν).agree (fun k hk=>Tb k (R1 k hk).1 (R1 k hk).2)
   ·simp only [c,if_false]
    have e:(a.put o.dst v).tmps.getD t undef=a.tmps.getD t undef:=by
     cases db:o.dst with
     | none=>rfl
     | some d =>
      simp only [Act.put]
      exact cw _ _ _ _ (fun e=>c (by rw [db,e]))
    rw [e]
    exact old _ _ (hs.df t) (fun k hk hn=>(tR k hk hn).sl t)
  ·rcases FG κ b hb with ⟨h1,h2⟩ | ⟨h1,h2,h3⟩
   ·have hm:=B.mem κ b h1
    have Xi:∀ k,k∈b.keys→μ'' k=μ' k:=fun k hk=>Tb k (B6 (κ,b) (gB h1) k hk).1 (B6 (κ,b) (gB h1) k hk).2
    by_cases hn:κ∈kD.map (·.2)
    ·obtain ⟨-,⟨cs,e0⟩,g',c1,c2,e1,e2⟩:=aaf κ hn
     rw [h1] at e0
     simp only [Option.some.injEq] at e0
     subst e0
     rw [ag κ (fun _=>hn),e1]
     rw [e2] at hm
     have h3:cD w' S' μ' (.box cs) g' c1:=hm.at
     exact cD.ok (b:=.box cs) (h3.agree Xi)
    ·rw [Tb κ h2 hn]
     exact hm.agree Xi
   ·rw [ag κ (fun h=>absurd h h1)]
    have hm:=hs.mem κ b h3
    refine (hm.mono B.sub hw (fun _ _ e=>e) (fun g c e=>?_)).agree (fun k hk=>ag k (fun eW=>Classical.byContradiction (fun hn=>(tR k eW hn).bl κ b h3 hk)))
    obtain ⟨q1,q2,q3⟩:=X1 κ b g c h2 h3 e
    refine ⟨B.kept.block g q2 q1,fun wO=>?_⟩
    rcases B.new g wO with h | h | h
    ·exact q3 h
    ·omega
    ·exact q1 h
  ·rcases FG κ1 b1 h1 with ⟨x1,x2⟩ | ⟨x1,x2,x3⟩
   ·obtain ⟨d1,h3⟩:=tr κ1 g c x2 h3
    rcases FG κ2 b2 h2 with ⟨y1,y2⟩ | ⟨y1,y2,y3⟩
    ·obtain ⟨d2,h4⟩:=tr κ2 g c' y2 h4
     exact B.inj κ1 κ2 b1 b2 g d1 d2 x1 y1 h3 h4
    ·rw [ag κ2 (fun h=>absurd h y1)] at h4
     obtain ⟨q1,q2,q3⟩:=X1 κ2 b2 g c' y2 y3 h4
     rcases B.own κ1 b1 g d1 x1 h3 with h | h
     ·omega
     ·exact absurd h q1
   ·rw [ag κ1 (fun h=>absurd h x1)] at h3
    obtain ⟨q1,q2,q3⟩:=X1 κ1 b1 g c x2 x3 h3
    rcases FG κ2 b2 h2 with ⟨y1,y2⟩ | ⟨y1,y2,y3⟩
    ·obtain ⟨d2,h4⟩:=tr κ2 g c' y2 h4
     rcases B.own κ2 b2 g d2 y1 h4 with h | h
     ·omega
     ·exact absurd h q1
    ·rw [ag κ2 (fun h=>absurd h y1)] at h4
     exact hs.inj κ1 κ2 b1 b2 g c c' x3 y3 h3 h4
  ·rcases FG κ b hb with ⟨h1,h2⟩ | ⟨h1,h2,h3⟩
   ·obtain ⟨d1,hμ⟩:=tr κ g c h2 hμ
    rcases B.own κ b g d1 h1 hμ with h | h
    ·exact .inl (Nat.le_trans hs.kept.size h)
    ·exact hT g h
   ·rw [ag κ (fun h=>absurd h h1)] at hμ
    exact hs.own κ b g c h3 hμ
  ·rcases B.new b hb with h | h | h
   ·exact hs.fresh b h
   ·exact .inr (.inl (Nat.le_trans hs.kept.size h))
   ·rcases hT b h with h' | h'
    ·exact .inr (.inl h')
    ·exact .inr (.inr h')
  ·refine hs.kept.trans B.kept (fun b hb h=>?_)
   rcases hT b h with h' | h'
   ·omega
   ·exact h'
def Zx (P:Program) (f:FuncId) (args:List AV) (κ:Nat) (b b':ba):Prop :=
 ev P f=true∧∀ (w:World) (S:Nat→Prop) (μ:Mu) (vs:Array Value),(∀ b,S b→b < w.heap.size)→gT w S→(∀ ν,cP w S μ ν args vs.toList)→fT w S μ b (μ κ) →
  Calls P f vs w fun e w'=>(∃ v,e=.returned v)∧fT w' S μ b' (μ κ)∧Kept w w' (fun q=>∃ c,μ κ=some (some (q,c)))
theorem FH {o:Oper} {cf:Operand} {xs:Array Operand} {ts:Array TypeId} {f:FuncId} {args bZ:List AV} {κ:Nat} {b b':ba} {need:List (Nat × AV)} {ro:List (Nat × ba)} {gs:List (Nat × Bool)}
  (hs:cE C A a w S μ ν) (hd:∀ t,o.dst=some t→t < C.nt) (ho:o.op=.call { callee:=.value cf,args:=xs,argTypes:=ts }) (RY:Rel w S μ ν (.fn f bZ) (a.eval cf)) (jP:cP w S μ ν args (xs.toList.map a.eval)) (hn:so.lx (args++bZ)=true)
  (RZ:Zx C.P f (args++bZ) κ b b') (hκ:A.lb κ=some b) :
  o.wp C.P a w (fun a' w'=>∃ S' μ',cE C ((Tr.mk need o.dst .any ro [(κ,b)] [(κ,b')] gs).apply A) a' w' S' μ' ν) (fun _ _ _=>False):=by
 generalize X0:a.eval cf=cv at RY
 cases RY with
 | @fn _ _ wH hl hh =>
  unfold Oper.wp
  rw [vf ho X0 RZ.1]
  have pn:cP w S μ ν (args++bZ) (xs.map a.eval++wH).toList:=by
   rw [Array.toList_append,Array.toList_map]
   exact jP.append ⟨by simpa using hl,fun i hi=>by rw [← ct]; exact hh i hi⟩
  refine (RZ.2 w S μ (xs.map a.eval++wH) hs.bound hs.wL (fun ν'=>pn.nu hn) (hs.mem κ b hκ)).mono ?_
  rintro e w' ⟨⟨v,rfl⟩,kC,hk⟩
  have hg:∀ q,(∃ c,μ κ=some (some (q,c)))→¬ S q:=fun q ⟨c,hc⟩=>by
   have:=hs.mem κ b hκ
   rw [hc] at this
   exact this.at.not
  have hw:∀ q,S q→w'.heap[q]? = w.heap[q]?:=fun q hq=>hk.block q (hs.bound q hq) (fun h=>hg q h hq)
  have h1:cE C (A.set κ (some b')) a w' S μ ν:=by
   refine ⟨hs.tmps,hs.defers,fun t=>(hs.df t).mono (fun _ x=>x) hw (fun _ _ e=>e),fun κ' bk Zy=>?_,fun κ1 κ2 b1 b2 g c c' h1 h2 h3 h4=>?_,fun κ' bk g c h1 h2=>?_,hs.dG,hs.fresh,fun q hq=>Nat.lt_of_lt_of_le (hs.bound q hq) hk.size,?_⟩
   ·simp only [M.set] at Zy
    by_cases e:κ'=κ
    ·subst e
     simp only [if_true,Option.some.injEq] at Zy
     subst Zy
     exact kC
    ·simp only [e,if_false] at Zy
     have hm:=hs.mem κ' bk Zy
     refine hm.mono (fun _ x=>x) hw (fun _ _ e=>e) (fun g c hgc=>?_)
     rw [hgc] at hm
     exact ⟨hk.block g hm.at.lt (fun ⟨c',hc'⟩=>e (hs.inj κ' κ bk b g c c' Zy hκ hgc hc')),hm.at.not⟩
   ·have get:∀ k bk,(A.set κ (some b')).lb k=some bk→∃ bk',A.lb k=some bk':=fun k bk h=>by
     simp only [M.set] at h
     by_cases e:k=κ
     ·subst e; exact ⟨b,hκ⟩
     ·simp only [e,if_false] at h; exact ⟨bk,h⟩
    obtain ⟨b1',q1⟩:=get _ _ h1
    obtain ⟨b2',q2⟩:=get _ _ h2
    exact hs.inj κ1 κ2 b1' b2' g c c' q1 q2 h3 h4
   ·simp only [M.set] at h1
    by_cases e:κ'=κ
    ·subst e; exact hs.own κ' b g c hκ h2
    ·simp only [e,if_false] at h1; exact hs.own κ' bk g c h1 h2
   ·exact hs.kept.trans hk (fun q hq ⟨c,hc⟩=>by
     rcases hs.own κ b q c hκ hc with h | h
     ·omega
     ·exact h)
  refine ⟨S,μ,?_⟩
  have e:(Tr.mk need o.dst .any ro [(κ,b)] [(κ,b')] gs).apply A=(A.set κ (some b')).tS o.dst .any:=by
   cases db:o.dst with
   | none=>exact kf _
   | some d =>
    have:=kf (A:=A) (κ:=κ) (b:=b) (b':=b') (need:=need) (ro:=ro) (gs:=gs) .any
    unfold Tr.apply at this ⊢
    simp only [M.tS,M.put,M.set,M.mk.injEq,Option.some.injEq] at this ⊢
    refine ⟨?_,this.2⟩
    funext t
    by_cases c:t=d
    ·simp [c]
    ·have:¬ d=t:=fun e=>c e.symm
     simp [c,this]
  rw [e]
  exact h1.put hd (.any _)
end
def Cg (n k:Nat) (z:List D):List AV:=(List.range n).map fun q=>.d (z.getD (q % k) default)
section
variable {C : Cx} {A : M} {a : Act} {w : World} {S : Nat → Prop} {μ : Mu} {ν : Nat → Bool}
def ra (T:List (Nat × TI)) (ρ:Operand→Option AV) (t len:Nat) (ps:List (Nat × Operand)):Option (Nat × Nat × List D) :=
 match look T t,wT ρ ps with
 | some { kind:=.slice e,.. },some vs=>(match look T e with
  | some i=>bif Nat.ble (len * i.size) 16777216&&Nat.ble 1 i.size then (match Fu (fun q=>some (q * i.size,i.size)) (Cg (len * i.size) i.size i.zero) vs with
   | some cs=>(match vW cs with | some ds=>bif Nat.beq ds.length (len * i.size) then some (e,i.size,ds) else none | none=>none)
   | none=>none) else none
  | none=>none)
 | _,_=>none
theorem wX {P:Program} {T:List (Nat × TI)} (hT:la P T) {ρ:Operand→Option AV} (hρ:∀ x y,ρ x=some y→Rel w S μ ν y (a.eval x)) {t len:Nat} {ps:Array (Nat × Operand)} {e k:Nat} {ds:List D} (h:ra T ρ t len ps.toList=some (e,k,ds)) :
  ∃ cells:Array Value,(Instr.buildSlice t len (ps.map fun (i,x)=>(i,a.eval x))).run P w=.ok (.slice (some ⟨w.heap.size,0,none⟩) len len) (w.alloc (.cells cells e))∧cells.size=len * k∧gC w S k len (zI k len ds) cells.toList∧ds.length=len * k∧len≤maxLen:=by
 unfold ra at h
 split at h
 ·rename_i e' _ _ _ _ vs hl hv
  split at h
  ·rename_i i hi
   cases hb:(Nat.ble (len * i.size) 16777216&&Nat.ble 1 i.size) with
   | false=>rw [hb] at h; cases h
   | true =>
    rw [hb] at h
    simp only [Bool.and_eq_true] at hb
    have hle:=Nat.le_of_ble_eq_true hb.1
    have Ia:=Nat.le_of_ble_eq_true hb.2
    simp only [cond_true] at h
    split at h
    ·rename_i cs zm
     split at h
     ·rename_i ds' hp
      cases wI:Nat.beq ds'.length (len * i.size) with
      | false=>rw [wI] at h; cases h
      | true =>
       rw [wI] at h
       have hdl:=Nat.eq_of_beq_eq_true wI
       simp only [cond_true,Option.some.injEq,Prod.mk.injEq] at h
       obtain ⟨rfl,rfl,rfl⟩:=h
       have ecs:=qY hp
       subst ecs
       obtain ⟨ti,z,F⟩:=aw (hT t _ hl)
       have hu:=dq F.kind
       obtain ⟨tj,zj,G⟩:=aw (hT e' _ hi)
       obtain ⟨q1,q2⟩:=iD (w:=w) (S:=S) G.Vq
       have hzs:zj.cells.size=i.size:=by rw [← G.zF,← q1]; simp
       have hz:cP w S μ ν (Cg (len * i.size) i.size i.zero) ((Array.range (len * i.size)).map (zj.cells[· % zj.cells.size]!)).toList:=by
        refine ⟨by simp [Cg],fun q hq=>?_⟩
        have D4:q < len * i.size:=by simpa [Cg] using hq
        have hm:q % i.size < i.size:=Nat.mod_lt _ Ia
        have e1:(Cg (len * i.size) i.size i.zero).getD q default=.d (i.zero.getD (q % i.size) default):=by simp [Cg,List.getD,D4]
        have e2:((Array.range (len * i.size)).map (zj.cells[· % zj.cells.size]!)).toList.getD q undef=zj.cells.toList.getD (q % i.size) undef:=by
         have h1:q % i.size < zj.cells.size:=by omega
         simp only [List.getD,Array.getElem?_toList,Array.getElem?_map,Array.getElem?_range,D4,if_true,Option.map_some,Option.getD_some,hzs]
         rw [getElem!_pos zj.cells _ h1,Array.getElem?_eq_getElem h1]
         rfl
        rw [e1,e2]
        exact .d (q2 _ (by rw [G.zF]; exact hm))
       obtain ⟨v1,v2⟩:=va hρ ps.toList vs hv
       obtain ⟨Fv,hf,hr⟩:=yj (fun q=>some (q * i.size,i.size)) vs (ps.toList.map fun p=>(p.1,a.eval p.2)) _ _ ((Array.range (len * i.size)).map (zj.cells[· % zj.cells.size]!)) hz v1 v2 zm
       have uV:Fv.size=len * i.size:=by have:=hr.1; simp at this; omega
       refine ⟨Fv,?_,uV,⟨by simpa using uV,fun q hq=>⟨(wU hdl hq).1,fun j hj=>?_⟩⟩,hdl,?_⟩
       ·have Xg:(ps.map fun (i,x)=>(i,a.eval x)).toList=ps.toList.map fun p=>(p.1,a.eval p.2):=by simp
        have hn:¬ len * i.size > 2 ^ 24:=by omega
        simp only [Instr.buildSlice,Sem.run_bind,run_underlying hu,Result.andThen_ok,sizeOf,typeInfo,run_program,G.info,Sem.run_pure,G.size,Sem.run_ite,hn,if_false,Xg]
        by_cases h0:len * i.size=0
        ·rw [h0] at uV hf
         simp only [h0,if_true]
         have:∀ (g g':Nat→Value),(Array.range 0).map g=(Array.range 0).map g':=fun g g'=>by simp
         rw [this _ (zj.cells[· % zj.cells.size]!),hf]
         simp [newRow]
        ·simp only [h0,if_false,zeroValue,typeInfo,Sem.run_bind,run_program,Result.andThen_ok,G.info,Sem.run_pure,G.zero]
         rw [hf]
         simp [newRow]
       ·rw [(wU hdl hq).2 j hj]
        have di:q * i.size+j < ds'.length:=by
         rw [hdl]
         calc q * i.size+j < q * i.size+i.size:=by omega
          _=(q+1) * i.size:=by rw [Nat.add_mul,Nat.one_mul]
          _≤len * i.size:=Nat.mul_le_mul_right _ hq
        have:=hr.2 (q * i.size+j) (by simpa using di)
        rw [iE _ _ di] at this
        exact gq.1 this
       ·have:len * 1≤len * i.size:=Nat.mul_le_mul_left len Ia
        simp only [maxLen]
        omega
     ·cases h
    ·cases h
  ·cases h
 ·cases h
theorem D6 {T:List (Nat × TI)} (hT:la C.P T) {o:Oper} {dst t len:Nat} {ps:Array (Nat × Operand)} {e k:Nat} {ds:List D} {ρ:Operand→Option AV} {need:List (Nat × AV)} {ro:List (Nat × ba)} {gs:List (Nat × Bool)}
  (hs:cE C A a w S μ ν) (hd:o.dst=some dst) (Vr:dst < C.nt) (ho:o.op=.buildSlice t len ps) (hρ:∀ x y,ρ x=some y→Rel w S μ ν y (a.eval x)) (h:ra T ρ t len ps.toList=some (e,k,ds)) (hf:iC A dst) :
  o.wp C.P a w (fun a' w'=>∃ S' μ',cE C ((Tr.mk need (some dst) (.own dst len) ro [] [(dst,.row e k len (zI k len ds))] gs).apply A) a' w' S' μ' ν) (fun _ _ _=>False):=by
 obtain ⟨cells,dH,gS,lh,_,X2⟩:=wX hT hρ h
 unfold Oper.wp execOp
 simp only [ho,Sem.run_bind,dH,Result.andThen_ok,Sem.run_pure]
 have oO:¬ S w.heap.size:=fun h=>by have:=hs.bound _ h; omega
 have hw:∀ q,S q→(w.alloc (.cells cells e)).heap[q]? = w.heap[q]?:=fun q hq=>heap_alloc_old w _ (hs.bound q hq)
 have h1:=hs.alloc hf (b:=.row e k len (zI k len ds)) (cur:=cells) (e:=e) (cap:=len) (by simp [ba.keys]) (Fz (heap_alloc_new w _) oO gS (Nat.le_refl _) X2 (by rw [← gS,← Array.length_toList,List.take_length]) (lh.mono (fun _ x=>x) hw))
 have h2:=h1.put (dst:=some dst) (x:=.own dst len) (v:=.slice (some ⟨w.heap.size,0,none⟩) len len) (fun t ht=>by cases ht; exact Vr) (.own (by simp [cF]))
 rw [nZ]
 exact ⟨S,_,by rw [hd]; exact h2⟩
theorem R2 {T:List (Nat × TI)} (hT:la C.P T) {o:Oper} {dst t e:Nat} {l c:Operand} {it i:TI} {kl kc:IntKind} {n:Int} {need:List (Nat × AV)} {ro:List (Nat × ba)} {gs:List (Nat × Bool)}
  (hs:cE C A a w S μ ν) (hd:o.dst=some dst) (Vr:dst < C.nt) (ho:o.op=.makeSlice t l c) (ht:look T t=some it) (hk:it.kind=.slice e) (he:look T e=some i) (hl:a.eval l=.int kl n) (hc:a.eval c=.int kc n)
  (h0:0≤n) (hm:n.toNat≤maxLen) (hb:n.toNat * i.bytes≤140737488355328) (hf:iC A dst) :
  o.wp C.P a w (fun a' w'=>∃ S' μ',cE C ((Tr.mk need (some dst) (.own dst n.toNat) ro [] [(dst,.row e i.size n.toNat fun _=>i.zero)] gs).apply A) a' w' S' μ' ν) (fun _ _ _=>False):=by
 obtain ⟨tj,z,F⟩:=aw (hT _ _ ht)
 obtain ⟨ej,ez,G⟩:=aw (hT _ _ he)
 have sn:=F.kind
 rw [hk] at sn
 have hu:=dq sn
 have X2:n≤9223372036854775807:=by have:=hm; simp only [maxLen] at this; omega
 have Vs:(ej.bytes:Int) * n≤281474976710656:=by
  rw [G.bytes]
  have h1:((i.bytes * n.toNat:Nat):Int)≤281474976710656:=by rw [Nat.mul_comm]; omega
  rw [Int.natCast_mul,Int.toNat_of_nonneg h0] at h1
  exact h1
 have dH:=run_make (P:=C.P) w t e ej ez hu G.info G.zero kl kc n n h0 (Int.le_refl _) Vs X2
 rw [G.size] at dH
 unfold Oper.wp execOp
 simp only [ho,hl,hc,Sem.run_bind,dH,Result.andThen_ok,Sem.run_pure]
 have oO:¬ S w.heap.size:=fun h=>by have:=hs.bound _ h; omega
 have hw:∀ q,S q→(w.alloc (.cells (madeCells ez.cells (n.toNat * i.size)) e)).heap[q]? = w.heap[q]?:=fun q hq=>heap_alloc_old w _ (hs.bound q hq)
 obtain ⟨q1,q2⟩:=iD (w:=w) (S:=S) G.Vq
 have VS:ez.cells.size=i.size:=by have:=q1; simp only [Array.length_toList] at this; rw [this,G.zF]
 have lh:gC w S i.size n.toNat (fun _=>i.zero) (madeCells ez.cells (n.toNat * i.size)).toList:=by
  refine ⟨by simp [size_madeCells],fun q hq=>⟨G.zF,fun j hj=>?_⟩⟩
  have di:q * i.size+j < n.toNat * i.size:=by
   calc q * i.size+j < q * i.size+i.size:=by omega
    _=(q+1) * i.size:=by rw [Nat.add_mul,Nat.one_mul]
    _≤n.toNat * i.size:=Nat.mul_le_mul_right _ hq
  have e1:(madeCells ez.cells (n.toNat * i.size)).toList.getD (q * i.size+j) undef=ez.cells.toList.getD j undef:=by
   have B5:j < ez.cells.size:=by omega
   have R3:(q * i.size+j) % ez.cells.size=j:=by rw [VS,Nat.mul_comm,Nat.mul_add_mod,Nat.mod_eq_of_lt hj]
   simp [madeCells,List.getD,di,R3,B5]
  rw [e1]
  exact q2 j (by rw [G.zF]; exact hj)
 have h1:=hs.alloc hf (b:=.row e i.size n.toNat fun _=>i.zero) (cur:=madeCells ez.cells (n.toNat * i.size)) (e:=e) (cap:=n.toNat) (by simp [ba.keys]) (Fz (heap_alloc_new w _) oO (size_madeCells _ _) (Nat.le_refl _) hm (List.take_of_length_le (by simp [size_madeCells])) (lh.mono (fun _ x=>x) hw))
 have h2:=h1.put (dst:=some dst) (x:=.own dst n.toNat) (v:=.slice (some ⟨w.heap.size,0,none⟩) n.toNat n.toNat) (fun t ht=>by cases ht; exact Vr) (.own (by simp [cF]))
 rw [nZ]
 exact ⟨S,_,by rw [hd]; exact h2⟩
theorem FI {T:List (Nat × TI)} (hT:la C.P T) {o:Oper} {t len:Nat} {ps:Array (Nat × Operand)} {e k:Nat} {ds:List D} {ρ:Operand→Option AV} {τ:Tr}
  (hs:cE C A a w S μ ν) (hd:∀ t,o.dst=some t→t < C.nt) (ho:o.op=.buildSlice t len ps) (hρ:∀ x y,ρ x=some y→Rel w S μ ν y (a.eval x)) (h:ra T ρ t len ps.toList=some (e,k,ds))
  (h0:τ.v=.d (.sl len (zI k len ds))) (h1:τ.dst=o.dst) (h2:τ.mem=[]) (h3:τ.eu=[]) :
  o.wp C.P a w (fun a' w'=>∃ S' μ',cE C (τ.apply A) a' w' S' μ' ν) (fun _ _ _=>False):=by
 obtain ⟨cells,dH,gS,lh,_,X2⟩:=wX hT hρ h
 unfold Oper.wp execOp
 simp only [ho,Sem.run_bind,dH,Result.andThen_ok,Sem.run_pure]
 let S':Nat→Prop:=fun q=>S q∨q=w.heap.size
 have h4:=hs.world (S':=S') (w':=w.alloc (.cells cells e)) (fun _ x=>.inl x) (fun q hq=>hq.elim .inl (fun e=>.inr ⟨by omega,by rw [e]; simp⟩)) (l8 w _ _)
 have TM:Rd (w.alloc (.cells cells e)) S' (.sl len (zI k len ds)) (.slice (some ⟨w.heap.size,0,none⟩) len len):=by
  refine .sl len _ ⟨w.heap.size,0,none⟩ len k (fun i j=>cells.toList.getD (i * k+j) undef) (Nat.le_refl _) X2 (.inr rfl) (fun i hi=>(lh.2 i hi).1) (fun i j hi hj=>⟨.inr rfl,?_⟩) (fun i j hi hj=>?_)
  ·have di:i * k+j < cells.size:=by
    rw [gS]
    calc i * k+j < i * k+k:=by omega
     _=(i+1) * k:=by rw [Nat.add_mul,Nat.one_mul]
     _≤len * k:=Nat.mul_le_mul_right k hi
   rw [fC _ _ _ cells e (0,0) (heap_alloc_new w _)]
   simp [List.getD,di]
  ·exact ((lh.2 i hi).2 j hj).mono (fun _ x=>.inl x) (fun q hq=>heap_alloc_old w _ (hs.bound q hq))
 have h5:=h4.put (dst:=o.dst) (x:=.d (.sl len (zI k len ds))) (v:=.slice (some ⟨w.heap.size,0,none⟩) len len) hd (.d TM)
 refine ⟨S',μ,?_⟩
 have e:τ.apply A=A.tS o.dst (.d (.sl len (zI k len ds))):=by
  unfold Tr.apply M.tS M.put
  rw [h0,h1,h2,h3]
  cases ho:o.dst with
  | none=>simp [look]
  | some d =>
   simp only [look,List.map_nil,List.not_mem_nil,if_false,Option.some.injEq]
   congr 1
   funext t
   by_cases c:d=t
   ·simp [c]
   ·have:¬ t=d:=fun e=>c e.symm
    simp [c,this]
 rw [e]
 exact h5
def KO (T:List (Nat × TI)) (ρ:Operand→Option AV):Op→Option (AV × Ob)
 | .convert src d x=>(match ρ x,look T src,look T d with
  | some (.d (.v (.string s))),some _,some { kind:=.slice e,.. }=>(match look T e with
   | some { kind:=.int .u8,.. }=>some (.d (.sl s.size fun i=>[.v (.int .u8 (s.data.toList.getD i 0).toNat)]),.pr (s.size≤maxLen))
   | _=>none)
  | _,_,_=>none)
 | _=>none
theorem Pj {T:List (Nat × TI)} (hT:la C.P T) (hs:cE C A a w S μ ν) {o:Oper} {ρ:Operand→Option AV} (hρ:∀ x y,ρ x=some y→Rel w S μ ν y (a.eval x)) (hd:∀ t,o.dst=some t→t < C.nt) {v:AV} {ob:Ob} (h:KO T ρ o.op=some (v,ob)) (bH:ob.den) (need:List (Nat × AV)) (ro:List (Nat × ba)) (gs:List (Nat × Bool)) :
  o.wp C.P a w (fun a' w'=>∃ S' μ',cE C ((Tr.mk need o.dst v ro [] [] gs).apply A) a' w' S' μ' ν) (fun _ _ _=>False):=by
 unfold KO at h
 split at h
 ·rename_i src d x ho
  split at h
  ·rename_i s ti e _ _ _ _ hx jJ db
   split at h
   ·rename_i _ _ _ _ he
    simp only [Option.some.injEq,Prod.mk.injEq] at h
    obtain ⟨rfl,rfl⟩:=h
    have bH:s.size≤maxLen:=bH
    have hv:=cm rfl (hρ _ _ hx)
    obtain ⟨ds,hds⟩:∃ q,C.P.underlying src=some q:=by
     obtain ⟨tj,zj,G⟩:=aw (hT _ _ jJ)
     have:=G.kind
     cases hu:C.P.underlying src with
     | some q=>exact ⟨q,rfl⟩
     | none=>cases hk:ti.kind <;> rw [hk] at this <;> simp [cO,hu] at this
    obtain ⟨t1,z1,F1⟩:=aw (hT _ _ db)
    obtain ⟨t2,z2,F2⟩:=aw (hT _ _ he)
    have dH:=Lib.run_convert_string_bytes (P:=C.P) w src d e s hds (dq F1.kind) (qZ F2.kind)
    unfold Oper.wp execOp
    simp only [ho,hv,Sem.run_bind,dH,Result.andThen_ok,Sem.run_pure]
    let S':Nat→Prop:=fun q=>S q∨q=w.heap.size
    have AO:Kept w (Lib.bytesWorld w e s) (fun _=>False):=⟨rfl,rfl,rfl,by rw [Lib.bytesWorld_size]; omega,fun b hb _=>Lib.bytesWorld_at_old w e s b hb⟩
    have h4:=hs.world (S':=S') (fun _ x=>.inl x) (fun q hq=>hq.elim .inl (fun e'=>.inr ⟨by omega,by rw [e',Lib.bytesWorld_size]; omega⟩)) AO
    have TM:Rd (Lib.bytesWorld w e s) S' (.sl s.size fun i=>[.v (.int .u8 (s.data.toList.getD i 0).toNat)]) (.slice (some ⟨w.heap.size,0,none⟩) s.size (grownCap w s.size 0 e)):=by
     refine .sl s.size _ ⟨w.heap.size,0,none⟩ _ 1 (fun i _=>.int .u8 (s.data.toList.getD i 0).toNat) (grownCap_ge w s.size 0 e) (grownCap_le_maxLen w s.size 0 e bH) (.inr rfl) (fun i hi=>rfl) (fun i j hi hj=>⟨.inr rfl,?_⟩) (fun i j hi hj=>?_)
     ·obtain rfl:j=0:=by omega
      simp only [Nat.mul_one,Nat.add_zero,Nat.zero_add]
      exact Lib.bytesWorld_cell w e s i hi
     ·obtain rfl:j=0:=by omega
      exact .v _ rfl
    have h5:=h4.put (dst:=o.dst) hd (.d TM)
    refine ⟨S',μ,?_⟩
    have e:(Tr.mk need o.dst (.d (.sl s.size fun i=>[.v (.int .u8 (s.data.toList.getD i 0).toNat)])) ro [] [] gs).apply A=A.tS o.dst (.d (.sl s.size fun i=>[.v (.int .u8 (s.data.toList.getD i 0).toNat)])):=by
     unfold Tr.apply M.tS M.put
     cases ho:o.dst with
     | none=>simp [look]
     | some d =>
      simp only [look,List.map_nil,List.not_mem_nil,if_false,Option.some.injEq]
      congr 1
      funext t
      by_cases c:d=t
      ·simp [c]
      ·have:¬ t=d:=fun e=>c e.symm
       simp [c,this]
    rw [e]
    exact h5
   ·cases h
  ·cases h
 ·cases h
end
section
variable {C : Cx} {A : M} {a : Act} {w : World} {S : Nat → Prop} {μ : Mu} {ν : Nat → Bool}
theorem AP {P:Program} {t k e:Nat} (h:cO P t (.map k e)=true):P.underlying t=some (.map k e):=by
 simp only [cO] at h
 split at h
 ·rename_i x; simp only [Bool.and_eq_true,beq_iff_eq] at h; obtain ⟨rfl,rfl⟩:=h; exact x
 ·cases h
theorem cE.KP (h:cE C A a w S μ ν) {κ g cap:Nat} {b b':ba} {w':World} (hκ:A.lb κ=some b) (hμ:μ κ=some (some (g,cap))) (hk:Kept w w' (fun q=>q=g)) (hb:cD w' S μ b' g cap):cE C (A.set κ (some b')) a w' S μ ν:=by
 have RW:=h.mem κ b hκ
 rw [hμ] at RW
 have oO:=RW.at.not
 have hw:∀ q,S q→w'.heap[q]? = w.heap[q]?:=fun q hq=>hk.block q (h.bound q hq) (fun e=>oO (e ▸ hq))
 refine ⟨h.tmps,h.defers,fun t=>(h.df t).mono (fun _ x=>x) hw (fun _ _ x=>x),fun κ' XV Ce=>?_,fun κ1 κ2 b1 b2 g' c c' h1 h2 h3 h4=>?_,fun κ' XV g' c h1 h2=>?_,h.dG,h.fresh,fun q hq=>Nat.lt_of_lt_of_le (h.bound q hq) hk.size,?_⟩
 ·simp only [M.set] at Ce
  by_cases c:κ'=κ
  ·simp only [c,if_true,Option.some.injEq] at Ce
   subst Ce
   rw [c,hμ]
   exact hb.ok
  ·simp only [c,if_false] at Ce
   have hm:=h.mem κ' XV Ce
   refine hm.mono (fun _ x=>x) hw (fun _ _ x=>x) (fun g' cc e=>?_)
   have XW:=hm
   rw [e] at XW
   exact ⟨hk.block g' XW.at.lt (fun eg=>c (h.inj κ' κ XV b g' cc cap Ce hκ e (by rw [eg]; exact hμ))),XW.at.not⟩
 ·have q1:∃ x,A.lb κ1=some x:=by
   simp only [M.set] at h1
   by_cases c:κ1=κ
   ·rw [c]; exact ⟨b,hκ⟩
   ·simp only [c,if_false] at h1; exact ⟨_,h1⟩
  have q2:∃ x,A.lb κ2=some x:=by
   simp only [M.set] at h2
   by_cases c:κ2=κ
   ·rw [c]; exact ⟨b,hκ⟩
   ·simp only [c,if_false] at h2; exact ⟨_,h2⟩
  obtain ⟨x1,q1⟩:=q1
  obtain ⟨x2,q2⟩:=q2
  exact h.inj κ1 κ2 x1 x2 g' c c' q1 q2 h3 h4
 ·have q1:∃ x,A.lb κ'=some x:=by
   simp only [M.set] at h1
   by_cases c:κ'=κ
   ·rw [c]; exact ⟨b,hκ⟩
   ·simp only [c,if_false] at h1; exact ⟨_,h1⟩
  obtain ⟨x1,q1⟩:=q1
  exact h.own κ' x1 g' c q1 h2
 ·refine h.kept.trans hk (fun q hq e=>?_)
  subst e
  rcases h.own κ b q cap hκ hμ with h1 | h1
  ·omega
  ·exact h1
def World.zJ (w:World) (r:Nat) (o:Obj):World:={ w with heap:=w.heap.setIfInBounds r o }
def KQ:Obj→Bool
 | .cells _ _ _=>false
 | _=>true
theorem rb {P:Program} {r:Nat} {o:Obj} (h:w.heap[r]? = some o) (hn:KQ o=true:=by rfl):(getObj r).run P w=.ok o w:=by
 cases o <;> first | (simp [KQ] at hn; done) | simp [getObj,Sem.run,h]
theorem MO {P:Program} {r:Nat} {x:Obj} (o:Obj) (h:w.heap[r]? = some x) (hn:KQ x=true:=by rfl):(setObj r o).run P w=.ok () (World.zJ w r o):=by
 cases x <;> first | (simp [KQ] at hn; done) | simp [setObj,Sem.run,h,World.zJ]
theorem qM (r:Nat) (o:Obj):Kept w (World.zJ w r o) (fun q=>q=r):=⟨rfl,rfl,rfl,by simp [World.zJ],fun q _ hq=>by
 have:¬ r=q:=fun e=>hq e.symm
 simp [World.zJ,Array.getElem?_setIfInBounds,this]⟩
theorem E7 {r:Nat} {x:Obj} (o:Obj) (h:w.heap[r]? = some x):(World.zJ w r o).heap[r]? = some o:=by
 have hr:=(Array.getElem?_eq_some_iff.1 h).1
 simp [World.zJ,hr]
def FJ:Value→Value→Bool
 | .int k a,.int k' b=>decide (k=k')&&!(a == b)
 | _,_=>false
theorem FK {kk:IntKind} {kv:Value}:∀ (es:List MapEntry) (i:Nat),(∀ e,e∈es→FJ kv e.key=true)→(∃ k n,kv=.int k n)→Instr.findNow (.int kk) kv es i=some none
 | [],_,_,_=>rfl
 | e :: es,i,h,hv=>by
  have h1:=h e (by simp)
  obtain ⟨k,n,rfl⟩:=hv
  have ih:=FK (kk:=kk) es (i+1) (fun x hx=>h x (by simp [hx])) ⟨k,n,rfl⟩
  cases hk:e.key with
  | int k' m =>
   rw [hk] at h1
   simp only [FJ,Bool.and_eq_true,decide_eq_true_eq,Bool.not_eq_true'] at h1
   obtain ⟨rfl,h2⟩:=h1
   simp only [Instr.findNow,Instr.sameNow,hk,if_true,h2]
   exact ih
  | _=>rw [hk] at h1; simp [FJ] at h1
structure R where
 v:AV
 ro:List (Nat × ba)
 mem:List (Nat × ba)
 eu:List (Nat × ba)
 ob:Ob
theorem n4 {P:Program} {b:Bool} {kt:TypeId} {ik kk:IntKind} {n:Int} (QW:P.underlying kt=some (.int ik)) (q:Nat):(Instr.checkKey b (q+1) kt (.int kk n)).run P w=.ok () w:=by
 rw [Instr.checkKey]
 simp [run_underlying QW]
theorem FL {P:Program} {t kt et:TypeId} {ik kk:IntKind} {n0:Int} {g clock:Nat} {cur:Array MapEntry} {x:Value} (hu:P.underlying t=some (.map kt et)) (QW:P.underlying kt=some (.int ik)) (hg:w.heap[g]? = some (.map cur clock)) (hf:Instr.findNow (.int ik) (.int kk n0) cur.toList 0=some none) :
  (Instr.mapUpdate t (.map (some g)) (.int kk n0) x).run P w=.ok () (World.zJ w g (.map (cur.push { key:=.int kk n0,val:=x,born:=clock }) (clock+1))):=by
 unfold Instr.mapUpdate
 simp only [Sem.run_bind,run_underlying hu,Result.andThen_ok,rb hg,n4 QW 9999,Instr.findKey,run_underlying QW,hf,Sem.run_pure,MO _ hg]
def FM (T:List (Nat × TI)) (lb:List (Nat × ba)) (ρ:Operand→Option AV) (dst:Option Nat) (quiet:Bool):Op→Option R
 | .makeMap _ none=>(match quiet,dst with
  | false,some d=>some ⟨.sj d,[],[],[(d,.mp 0 fun _=>(.bool false,default))],.tt⟩
  | _,_=>none)
 | .insert t m k x=>(match quiet,dst,ρ m,ρ k,ρ x,look T t with
  | false,none,some (.sj κ),some (.d (.v (.int kk a))),some (.d xd),some { kind:=.map kt _,.. }=>(match look lb κ,look T kt with
   | some (.mp n f),some { kind:=.int _,.. }=>some ⟨.any,[],[(κ,.mp n f)],[(κ,.mp (n+1) fun q=>if q < n then f q else (.int kk a,xd))],.be ((List.range n).all fun i=>FJ (.int kk a) (f i).1) true⟩
   | _,_=>none)
  | _,_,_,_,_,_=>none)
 | .range t m=>(match quiet,dst,ρ m,look T t with
  | false,some d,some (.sj κ),some { kind:=.map _ _,.. }=>(match look lb κ with
   | some (.mp n f)=>bif Nat.beq d κ then none else some ⟨.ptr d 0,[(κ,.mp n f)],[],[(d,.it κ n [])],.tt⟩
   | _=>none)
  | _,_,_,_=>none)
 | .entry it=>(match ρ it with
  | some (.ptr κi 0)=>(match look lb κi with
   | some (.it κ n (i :: s))=>(match look lb κ with
    | some (.mp n' f)=>some ⟨.eD [.d (.v (f i).1),.d (f i).2],[(κi,.it κ n (i :: s)),(κ,.mp n' f)],[],[],(Ob.ne n n').and (.pr (i < n))⟩
    | _=>none)
   | _=>none)
  | _=>none)
 | .slice t x none (some h) none=>(match quiet,dst,ρ x,ρ h,look T t with
  | false,some d,some (.own κ n),some (.d (.v (.int _ hh))),some { kind:=.slice e,.. }=>(match look lb κ,look T e with
   | some (.row e' k n' f),some i=>bif Nat.beq d κ||!Nat.beq e e'||!Nat.beq k i.size then none else some ⟨.own d hh.toNat,[],[(κ,.row e' k n' f)],[(d,.row e' k hh.toNat f)],(Ob.ne n n').and (.pr (0≤hh∧hh≤n))⟩
   | _,_=>none)
  | false,some _,some (.d (.v (.slice none 0 0))),some (.d (.v (.int _ hh))),some { kind:=.slice e,.. }=>(match look T e with
   | some _=>some ⟨.d (.v (.slice none 0 0)),[],[],[],.pr (0≤hh∧hh≤0)⟩
   | none=>none)
  | _,_,_,_,_=>none)
 | .call { callee:=.builtin .cap,args:=xs,argTypes:=ts }=>(match pR ρ xs.toList,ts.toList with
  | some [.d (.v (.slice none 0 0))],[t]=>(match look T t with
   | some { kind:=.slice _,.. }=>some ⟨.d (.v (.int .i64 0)),[],[],[],.tt⟩
   | _=>none)
  | _,_=>none)
 | .call { callee:=.builtin .append,args:=xs,argTypes:=ts }=>(match quiet,dst,pR ρ xs.toList,ts.toList with
  | false,some d,some [.d (.v (.slice none 0 0)),.d (.v (.int .i64 n))],[t,t']=>(match look T t,look T t' with
   | some { kind:=.slice e,.. },some { kind:=.int .i64,.. }=>(match look T e with
    | some i=>some ⟨.own d n.toNat,[],[],[(d,.row e i.size n.toNat fun _=>i.zero)],.pr (0≤n∧n.toNat≤maxLen∧n.toNat * i.bytes≤140737488355328)⟩
    | none=>none)
   | _,_=>none)
  | _,_,_,_=>none)
 | _=>none
theorem MP {o:Oper} {d:Nat} {v:AV} {x:Value} {b:ba} {w1:World} {need:List (Nat × AV)} {ro:List (Nat × ba)} {gs:List (Nat × Bool)} (hs:cE C A a w S μ ν) (db:o.dst=some d) (Vr:d < C.nt) (hf:iC A d) (hk:d ∉ b.keys)
  (dH:(execOp a.eval o).run C.P w=.ok (.value x) w1) (hk1:Kept w w1 (fun q=>q=w.heap.size)) (hb:∀ c,cD w1 S μ b w.heap.size c) (hv:∀ μ',μ' d=some (some (w.heap.size,0))→Rel w1 S μ' ν v x) :
  o.wp C.P a w (fun a' w'=>∃ S' μ',cE C ((Tr.mk need (some d) v ro [] [(d,b)] gs).apply A) a' w' S' μ' ν) (fun _ _ _=>False):=by
 unfold Oper.wp
 rw [dH]
 have oO:¬ S w.heap.size:=fun h=>by have:=hs.bound _ h; omega
 have h1:=hs.QR hf (blk:=b) (b:=w.heap.size) (cap:=0) hk hk1 oO (fun κ' b' g' c q1 q2 e'=>by
  have:=hs.mem κ' b' q1
  rw [q2] at this
  have:=this.at.lt
  omega) (.inl hs.kept.size) (hb 0)
 have h2:=h1.put (dst:=some d) (x:=v) (v:=x) (fun t ht=>by cases ht; exact Vr) (hv _ (by simp [cF]))
 rw [nZ]
 exact ⟨S,_,by rw [db]; exact h2⟩
theorem KR {T:List (Nat × TI)} (hT:la C.P T) (hs:cE C A a w S μ ν) {lb:List (Nat × ba)} {o:Oper} {ρ:Operand→Option AV} (hρ:∀ x y,ρ x=some y→Rel w S μ ν y (a.eval x)) (hd:∀ t,o.dst=some t→t < C.nt) {quiet:Bool} {r:R}
  (h:FM T lb ρ o.dst quiet o.op=some r) (kB:∀ p,p∈r.ro→A.lb p.1=some p.2) (iG:∀ p,p∈r.mem→A.lb p.1=some p.2) (bH:r.ob.den) (tR:∀ κ,κ∈(r.eu.map (·.1)).filter (fun k=>!(r.mem.map (·.1)).contains k)→iC A κ) (need:List (Nat × AV)) (gs:List (Nat × Bool)) :
  o.wp C.P a w (fun a' w'=>∃ S' μ',cE C ((Tr.mk need o.dst r.v r.ro r.mem r.eu gs).apply A) a' w' S' μ' ν) (fun _ _ _=>False):=by
 unfold FM at h
 split at h
 all_goals rename_i ho
 ·-- makeMap
  split at h
  ·rename_i d db
   simp only [Option.some.injEq] at h
   subst h
   rw [db]
   have oO:¬ S w.heap.size:=fun h=>by have:=hs.bound _ h; omega
   refine MP hs db (hd d db) (tR d (by simp)) (by simp [ba.keys]) (x:=.map (some w.heap.size)) (w1:=w.alloc (.map #[] 0)) ?_ (l8 w _ _) (fun c=>⟨#[],heap_alloc_new w _,oO,rfl,fun i hi=>absurd hi (by omega)⟩) (fun μ' hμ=>.sj hμ)
   simp [execOp,ho,Instr.makeMap]
  ·cases h
 ·-- insert
  rename_i t m k x
  split at h
  ·rename_i κ kk n0 xd kt _ _ _ _ _ db hm hk hx ht
   split at h
   ·rename_i n f ik _ _ _ _ hl VT
    simp only [Option.some.injEq] at h
    subst h
    rw [db]
    have hκ:=iG (κ,.mp n f) (by simp)
    have Ib:=hs.mem κ _ hκ
    have hv:=hρ _ _ hm
    generalize Vt:a.eval m=mv at hv
    cases hv with
    | @sj _ g cap hμ =>
     rw [hμ] at Ib
     obtain ⟨cur,hg,oO,gS,bG⟩:=Ib.at
     obtain ⟨ti,z,F⟩:=aw (hT _ _ ht)
     obtain ⟨tj,zj,G⟩:=aw (hT _ _ VT)
     have hu:=AP F.kind
     have QW:=qZ G.kind
     have Zz:=dj (hρ _ _ hk)
     have bH:(List.range n).all (fun i=>FJ (.int kk n0) (f i).1)=true:=bH
     simp only [List.all_eq_true,List.mem_range] at bH
     have mQ:Instr.findNow (.int ik) (.int kk n0) cur.toList 0=some none:=FK _ 0 (fun e he=>by
      obtain ⟨q,hq,rfl⟩:=List.getElem_of_mem he
      have hqn:q < n:=by simpa [gS] using hq
      obtain ⟨e,h1,h2,_⟩:=bG q hqn
      have:cur.toList[q]=e:=by
       have:=Array.getElem?_eq_some_iff.1 h1
       simpa using this.2
      rw [this,h2]
      exact bH q hqn) ⟨kk,n0,rfl⟩
     have dH:(execOp a.eval o).run C.P w=.ok .skip (World.zJ w g (.map (cur.push { key:=.int kk n0,val:=a.eval x,born:=n }) (n+1))):=by
      have h1:=FL (x:=a.eval x) hu QW hg mQ
      unfold execOp
      rw [ho]
      simp only [Vt,Zz,Sem.run_bind,h1,Result.andThen_ok,Sem.run_pure]
     unfold Oper.wp
     rw [dH]
     refine ⟨S,μ,?_⟩
     rw [kf,db]
     refine hs.KP hκ hμ (qM g _) ⟨_,E7 _ hg,oO,by simp [gS],fun i hi=>?_⟩
     have hw:∀ q,S q→(World.zJ w g (.map (cur.push { key:=.int kk n0,val:=a.eval x,born:=n }) (n+1))).heap[q]? = w.heap[q]?:=fun q hq=>(qM g _).block q (hs.bound q hq) (fun e=>oO (e ▸ hq))
     by_cases c:i < n
     ·obtain ⟨e,h1,h2,h3,h4,h5⟩:=bG i c
      refine ⟨e,?_,by simp only [c,if_true]; exact h2,h3,h4,by simp only [c,if_true]; exact h5.mono (fun _ x=>x) hw⟩
      rw [Array.getElem?_push,if_neg (by omega)]
      exact h1
     ·obtain rfl:i=n:=by omega
      refine ⟨_,by rw [Array.getElem?_push,if_pos gS.symm],by simp only [c,if_false],rfl,rfl,?_⟩
      simp only [c,if_false]
      exact (gq.1 (hρ _ _ hx)).mono (fun _ x=>x) hw
   ·cases h
  ·cases h
 ·-- range
  rename_i t m
  split at h
  ·rename_i d κ _ _ _ _ _ _ db hm ht
   split at h
   ·rename_i n f hl
    rw [Bool.cond_eq_ite] at h
    split at h
    ·cases h
    ·rename_i qW
     simp only [Option.some.injEq] at h
     subst h
     rw [db]
     have hκ:=kB (κ,.mp n f) (by simp)
     have Ib:=hs.mem κ _ hκ
     have hv:=hρ _ _ hm
     generalize Vt:a.eval m=mv at hv
     cases hv with
     | @sj _ g cap hμ =>
      rw [hμ] at Ib
      obtain ⟨cur,hg,adH,gS,bG⟩:=Ib.at
      obtain ⟨ti,z,F⟩:=aw (hT _ _ ht)
      have hu:=AP F.kind
      have oO:¬ S w.heap.size:=fun h=>by have:=hs.bound _ h; omega
      have hdk:d≠κ:=fun e=>by rw [e,Nat.beq_refl] at qW; exact qW rfl
      refine MP hs db (hd d db) (tR d (by simp)) (by simp [ba.keys,hdk]) (x:=.pointer (some ⟨w.heap.size,0,none⟩)) (w1:=w.alloc (.mapIter (some g) n #[] n)) ?_ (l8 w _ _) (fun c=>⟨g,cap,hμ,heap_alloc_new w _,oO⟩) (fun μ' TL=>.ptr TL)
      simp [execOp,ho,Vt,Instr.range,run_underlying hu,rb hg]
   ·cases h
  ·cases h
 ·-- entry
  rename_i it
  split at h
  ·rename_i κi Vu
   split at h
   ·rename_i κ n i s VU
    split at h
    ·rename_i n' f hl
     simp only [Option.some.injEq] at h
     subst h
     have bH:((Ob.ne n n').and (.pr (i < n))).den:=bH
     obtain ⟨o1,o2⟩:=Ob.cg bH
     have o1:n=n':=o1
     subst o1
     have o2:i < n:=o2
     have hκi:=kB (κi,.it κ n (i :: s)) (by simp)
     have hκ:=kB (κ,.mp n f) (by simp)
     have hv:=hρ _ _ Vu
     generalize Tc:a.eval it=iv at hv
     cases hv with
     | @ptr _ _ gi ci hμi =>
      have Xe:=hs.mem κi _ hκi
      rw [hμi] at Xe
      obtain ⟨mg,c,hμ,hgi,aag⟩:=Xe.at
      have Ib:=hs.mem κ _ hκ
      rw [hμ] at Ib
      obtain ⟨cur,hg,oO,gS,bG⟩:=Ib.at
      obtain ⟨e,h1,h2,h3,h4,h5⟩:=bG i o2
      have mQ:cur.find? (fun x=>x.born == i)=some e:=by
       rw [Array.find?_eq_some_iff_getElem]
       have hi:i < cur.size:=by omega
       refine ⟨by simp [h4],i,hi,(Array.getElem?_eq_some_iff.1 h1).2,fun j hj=>?_⟩
       obtain ⟨e',q1,_,_,q4,_⟩:=bG j (by omega)
       have:cur[j]=e':=(Array.getElem?_eq_some_iff.1 q1).2
       rw [this,q4]
       simp
       omega
      refine kd (τ:=Tr.mk need o.dst (.eD [.d (.v (f i).1),.d (f i).2]) [(κi,.it κ n (i :: s)),(κ,.mp n f)] [] [] gs) hs hd (x:=.tuple #[e.key,e.val]) ?_ (.eD rfl (fun q hq=>?_)) rfl rfl rfl
      ·simp [execOp,ho,Tc,Instr.entry,rb hgi,rb hg,mQ]
      ·match q with
       | 0=>simpa [h2] using fB (w:=w) (S:=S) (μ:=μ) (ν:=ν) h3
       | 1=>simpa using Rel.d (μ:=μ) (ν:=ν) h5
       | q+2=>simp at hq; omega
    ·cases h
   ·cases h
  ·cases h
 ·-- slice
  rename_i t x hh0
  split at h
  ·rename_i d κ n kk hh e _ _ _ _ db hx VM ht
   split at h
   ·rename_i e' k n' f i hl VN
    rw [Bool.cond_eq_ite] at h
    split at h
    ·cases h
    ·rename_i qW
     simp only [Bool.or_eq_true,Bool.not_eq_true',not_or,Bool.not_eq_false] at qW
     simp only [Option.some.injEq] at h
     subst h
     rw [db]
     have bH:((Ob.ne n n').and (.pr (0≤hh∧hh≤n))).den:=bH
     obtain ⟨o1,o2,o3⟩:=Ob.cg bH
     have o1:n=n':=o1
     subst o1
     have hdk:d≠κ:=fun e=>qW.1.1 (by rw [e,Nat.beq_refl])
     have hκ:=iG (κ,.row e' k n f) (by simp)
     have Ib:=hs.mem κ _ hκ
     obtain ⟨ti,z,F⟩:=aw (hT _ _ ht)
     have hu:=dq F.kind
     obtain ⟨te,ze,G⟩:=aw (hT _ _ VN)
     have D3:(sizeOf e).run C.P w=.ok i.size w:=by simp [sizeOf,typeInfo,G.info,G.size]
     have hhv:=dj (hρ _ _ VM)
     have hf:iC A d:=tR d (by simp [hdk])
     have hv:=hρ _ _ hx
     generalize Vv:a.eval x=xv at hv
     have QX:=hs.drop κ
     have hfd:=hf.drop κ
     have q1:∀ (k:IntKind) (i:Int) (y:Nat) (c:BoundsCode),0≤i→i≤y→(Instr.sliceBound (.int k i) y c).run C.P w=.ok i.toNat w:=fun k i y c h0 h1=>run_sliceBound w k i y c h0 h1
     cases hv with
     | @cu _ ad hμ =>
      have ab8:hh=0:=by omega
      subst ab8
      unfold Oper.wp
      have dH:(execOp a.eval o).run C.P w=.ok (.value (.slice ad 0 0)) w:=by
       simp (disch:=omega) [execOp,ho,Vv,hhv,Instr.sliceAt,run_underlying hu,Instr.slice,Instr.sliceBounds,q1,D3]
      rw [dH]
      have h1:=QX.FA hfd e' k f
      have h2:=h1.put (dst:=some d) (x:=.own d 0) (v:=.slice ad 0 0) (fun t ht=>by cases ht; exact hd d db) (.cu (by simp [cF]))
      rw [vb hdk]
      exact ⟨S,_,by rw [db]; exact h2⟩
     | @own _ _ g cap hμ =>
      rw [hμ] at Ib
      have oO:=Ib.at.not
      obtain ⟨cur,hg,_,h3,h4,h5,h6⟩:=Ib.at
      unfold Oper.wp
      have R4:hh.toNat≤cap:=by omega
      have dH:(execOp a.eval o).run C.P w=.ok (.value (.slice (some ⟨g,0,none⟩) hh.toNat cap)) w:=by
       simp (disch:=omega) [execOp,ho,Vv,hhv,Instr.sliceAt,run_underlying hu,Instr.slice,Instr.sliceBounds,q1,D3,fU]
      rw [dH]
      have h1:=QX.QR hfd (blk:=.row e' k hh.toNat f) (b:=g) (cap:=cap) (w':=w) (by simp [ba.keys]) (Kept.refl _ _) oO (fun κ' b' g' c q1 q2 e'=>by
       simp only [M.set] at q1
       by_cases cc:κ'=κ
       ·simp [cc] at q1
       ·simp only [cc,if_false] at q1
        subst e'
        exact cc (hs.inj κ' κ b' _ g' c cap q1 hκ q2 hμ)) (hs.own κ _ g cap hκ hμ) ⟨cur,hg,oO,h3,R4,h5,fun q hq=>h6 q (by omega)⟩
      have h2:=h1.put (dst:=some d) (x:=.own d hh.toNat) (v:=.slice (some ⟨g,0,none⟩) hh.toNat cap) (fun t ht=>by cases ht; exact hd d db) (.own (by simp [cF]))
      rw [vb hdk]
      exact ⟨S,_,by rw [db]; exact h2⟩
   ·cases h
  ·rename_i d kk hh e _ _ _ _ db hx VM ht
   split at h
   ·rename_i i VN
    simp only [Option.some.injEq] at h
    subst h
    have bH:0≤hh∧hh≤0:=bH
    obtain rfl:hh=0:=by omega
    obtain ⟨ti,z,F⟩:=aw (hT _ _ ht)
    have hu:=dq F.kind
    obtain ⟨te,ze,G⟩:=aw (hT _ _ VN)
    have D3:(sizeOf e).run C.P w=.ok i.size w:=by simp [sizeOf,typeInfo,G.info,G.size]
    have hhv:=dj (hρ _ _ VM)
    have Vv:=cm rfl (hρ _ _ hx)
    have q1:∀ (k:IntKind) (i:Int) (y:Nat) (c:BoundsCode),0≤i→i≤y→(Instr.sliceBound (.int k i) y c).run C.P w=.ok i.toNat w:=fun k i y c h0 h1=>run_sliceBound w k i y c h0 h1
    refine kd (τ:=Tr.mk need o.dst (.d (.v (.slice none 0 0))) [] [] [] gs) hs hd (x:=.slice none 0 0) ?_ (fB rfl) rfl rfl rfl
    simp (disch:=omega) [execOp,ho,Vv,hhv,Instr.sliceAt,run_underlying hu,Instr.slice,Instr.sliceBounds,q1,D3]
   ·cases h
  ·cases h
 ·-- cap
  rename_i xs ts
  split at h
  ·rename_i t VO Tz
   split at h
   ·rename_i _ _ _ _ _ ht
    simp only [Option.some.injEq] at h
    subst h
    obtain ⟨ti,z,F⟩:=aw (hT _ _ ht)
    have hu:=dq F.kind
    have jP:=ke hρ xs.toList _ VO
    have Xj:xs.map a.eval = #[.slice none 0 0]:=by
     have hl:(xs.map a.eval).toList.length=1:=by simpa using jP.1
     have h0:=jP.2 0 (by simp)
     have h0:=cm rfl h0
     apply Array.ext'
     rw [Array.toList_map] at hl ⊢
     match hq:xs.toList.map a.eval,hl with
     | [y],_=>rw [hq] at h0; simpa using h0
    have TN:ts = #[t]:=by cases ts; simpa using Tz
    refine kd (τ:=Tr.mk need o.dst (.d (.v (.int .i64 0))) [] [] [] gs) hs hd (x:=.int .i64 0) ?_ (fB rfl) rfl rfl rfl
    simp [execOp,ho,resolve,invoke,builtin,Xj,TN,Builtin.cap_,run_underlying hu,goInt]
   ·cases h
  ·cases h
 ·-- append of adr
  rename_i xs ts
  split at h
  ·rename_i d n t t' db VO Tz
   split at h
   ·rename_i e _ _ _ _ _ _ _ _ ht ht'
    split at h
    ·rename_i i VN
     simp only [Option.some.injEq] at h
     subst h
     have bH:0≤n∧n.toNat≤maxLen∧n.toNat * i.bytes≤140737488355328:=bH
     obtain ⟨o1,o2,o3⟩:=bH
     rw [db]
     obtain ⟨ti,z,F⟩:=aw (hT _ _ ht)
     have hu:=dq F.kind
     obtain ⟨ti',z',F'⟩:=aw (hT _ _ ht')
     have hu':=qZ F'.kind
     obtain ⟨te,ze,G⟩:=aw (hT _ _ VN)
     have jP:=ke hρ xs.toList _ VO
     have Xj:xs.map a.eval = #[.slice none 0 0,.int .i64 n]:=by
      have hl:(xs.map a.eval).toList.length=2:=by simpa using jP.1
      have h0:=cm rfl (jP.2 0 (by simp))
      have h1:=cm rfl (jP.2 1 (by simp))
      apply Array.ext'
      rw [Array.toList_map] at hl ⊢
      match hq:xs.toList.map a.eval,hl with
      | [y,y'],_=>rw [hq] at h0 h1; simp only [List.getD_cons_zero,List.getD_cons_succ] at h0 h1; rw [h0,h1]
     have TN:ts = #[t,t']:=by cases ts; simpa using Tz
     have X2:n≤9223372036854775807:=by have:=o2; simp only [maxLen] at this; omega
     have hwr:IntKind.i64.wrap n=n:=IntWalk.i64_in n ⟨by omega,X2⟩
     obtain ⟨q1,q2⟩:=iD (w:=w) (S:=S) G.Vq
     have VS:ze.cells.size=i.size:=by have:=q1; simp only [Array.length_toList] at this; rw [this,G.zF]
     have hf:iC A d:=tR d (by simp)
     by_cases h0:n=0
     ·subst h0
      have dH:(execOp a.eval o).run C.P w=.ok (.value (.slice none 0 0)) w:=by
       simp [execOp,ho,resolve,invoke,builtin,Xj,TN,Builtin.append_,run_underlying hu,run_underlying hu',sizeOf,typeInfo,G.info,asInt,asIntOf,hwr]
      unfold Oper.wp
      rw [dH]
      have h1:=hs.FA hf e i.size (fun _=>i.zero)
      have h2:=h1.put (dst:=some d) (x:=.own d 0) (v:=.slice none 0 0) (fun t ht=>by cases ht; exact hd d db) (.cu (by simp [cF]))
      rw [nZ]
      exact ⟨S,_,by rw [db]; exact h2⟩
     ·have hn1:0 < n.toNat:=by omega
      have XY:=grownCap_ge w n.toNat 0 e
      have H9:grownCap w n.toNat 0 e≤maxLen:=grownCap_le_maxLen w n.toNat 0 e o2
      have h48:¬ (281474976710656 < Builtin.nextslicecap n.toNat 0 * te.bytes):=by rw [nextslicecap_zero hn1,G.bytes]; omega
      have aah:¬ (281474976710656 < n * (te.bytes:Int)):=by
       rw [G.bytes]
       have h1:((n.toNat * i.bytes:Nat):Int)≤140737488355328:=by omega
       rw [Int.natCast_mul,Int.toNat_of_nonneg o1] at h1
       omega
      have dH:∃ cells:Array Value,(execOp a.eval o).run C.P w=.ok (.value (.slice (some ⟨w.heap.size,0,none⟩) n.toNat (grownCap w n.toNat 0 e))) (w.drew.alloc (.cells cells e))∧cells=Builtin.zeroCells ze.cells n.toNat++Builtin.zeroCells ze.cells (grownCap w n.toNat 0 e - n.toNat):=by
       refine ⟨_,?_,rfl⟩
       have hn0:¬ n.toNat=0:=by omega
       have VV:¬ n < 0:=by omega
       have hle:¬ n≤0:=by omega
       have XX:¬ (9223372036854775807 < n):=by omega
       have ZA:max n 0=n:=by omega
       by_cases gS:i.size=0
       ·have hz0:ze.cells.size=0:=by omega
        have hze:Builtin.zeroCells ze.cells n.toNat = #[]:=by simp [Builtin.zeroCells,hz0]
        rw [hze]
        simp [execOp,ho,resolve,invoke,builtin,Xj,TN,Builtin.append_,run_underlying hu,run_underlying hu',sizeOf,typeInfo,G.info,asInt,asIntOf,hwr,VV,hle,h48,aah,XX,ZA,Question.forced,Builtin.firstCells,newRow,grownCap,zeroValue,G.zero,G.size,gS]
       ·simp [execOp,ho,resolve,invoke,builtin,Xj,TN,Builtin.append_,run_underlying hu,run_underlying hu',sizeOf,typeInfo,G.info,asInt,asIntOf,hwr,VV,hle,h48,aah,XX,ZA,Question.forced,Builtin.firstCells,newRow,grownCap,zeroValue,G.zero,G.size]
        intro hc
        rcases Nat.mul_eq_zero.1 hc with hc | hc
        ·exact absurd hc hn0
        ·exact absurd hc gS
      obtain ⟨cells,dH,KS⟩:=dH
      have R4:cells.size=grownCap w n.toNat 0 e * i.size:=by
       rw [KS]
       simp only [Array.size_append,size_zeroCells,VS,← Nat.add_mul]
       congr 1
       omega
      unfold Oper.wp
      rw [dH]
      have oO:¬ S w.heap.size:=fun h=>by have:=hs.bound _ h; omega
      have hw:∀ q,S q→(w.drew.alloc (.cells cells e)).heap[q]? = w.heap[q]?:=fun q hq=>heap_alloc_old w.drew _ (hs.bound q hq)
      have h1:=hs.QR hf (blk:=.row e i.size n.toNat fun _=>i.zero) (b:=w.heap.size) (cap:=grownCap w n.toNat 0 e) (w':=w.drew.alloc (.cells cells e)) (by simp [ba.keys]) ⟨rfl,rfl,rfl,by simp,fun k hk _=>heap_alloc_old w.drew _ hk⟩ oO (fun κ' b' g' c q1 q2 e'=>by
       have:=hs.mem κ' b' q1
       rw [q2] at this
       have:=this.at.lt
       omega) (.inl hs.kept.size) ⟨cells,heap_alloc_new w.drew _,oO,R4,XY,H9,fun q hq=>⟨G.zF,fun j hj=>?_⟩⟩
      ·have h2:=h1.put (dst:=some d) (x:=.own d n.toNat) (v:=.slice (some ⟨w.heap.size,0,none⟩) n.toNat (grownCap w n.toNat 0 e)) (fun t ht=>by cases ht; exact hd d db) (.own (by simp [cF]))
       rw [nZ]
       exact ⟨S,_,by rw [db]; exact h2⟩
      ·have di:q * i.size+j < n.toNat * i.size:=by
        calc q * i.size+j < q * i.size+i.size:=by omega
         _=(q+1) * i.size:=by rw [Nat.add_mul,Nat.one_mul]
         _≤n.toNat * i.size:=Nat.mul_le_mul_right _ hq
       have B5:j < ze.cells.size:=by omega
       have R3:(q * i.size+j) % ze.cells.size=j:=by rw [VS,Nat.mul_comm,Nat.mul_add_mod,Nat.mod_eq_of_lt hj]
       refine ⟨ze.cells[j],?_,?_⟩
       ·rw [KS,Array.getElem?_append_left (by rw [size_zeroCells,VS]; exact di)]
        have H5:q * i.size+j < n.toNat * ze.cells.size:=by rw [VS]; exact di
        simp only [Builtin.zeroCells,Array.getElem?_map,Array.getElem?_range,H5,if_true,Option.map_some,R3]
        rw [getElem!_pos ze.cells j B5]
       ·have:=(q2 j (by rw [G.zF]; exact hj)).mono (S':=S) (w':=w.drew.alloc (.cells cells e)) (fun _ x=>x) hw
        rw [show ze.cells.toList.getD j undef=ze.cells[j] from by simp [List.getD,B5]] at this
        exact this
    ·cases h
   ·cases h
  ·cases h
 ·cases h
theorem R5 {T:List (Nat × TI)} {lb:List (Nat × ba)} {ρ:Operand→Option AV} {dst:Option Nat} {quiet:Bool} {op:Op} {r:R} (h:FM T lb ρ dst quiet op=some r) :
  (∀ p,p∈r.ro→look lb p.1=some p.2)∧(∀ p,p∈r.mem→look lb p.1=some p.2)∧(quiet=true→r.mem=[]∧r.eu=[]):=by
 unfold FM at h
 have nil:∀ {p:Nat × ba},p∈([]:List (Nat × ba))→look lb p.1=some p.2:=fun h=>by cases h
 have one:∀ {κ:Nat} {b:ba},look lb κ=some b→∀ p,p∈[(κ,b)]→look lb p.1=some p.2:=fun h p hp=>by simp only [List.mem_singleton] at hp; subst hp; exact h
 split at h
 ·split at h
  ·simp only [Option.some.injEq] at h; subst h; exact ⟨fun _=>nil,fun _=>nil,fun hq=>by cases hq⟩
  ·cases h
 ·split at h
  ·split at h
   ·rename_i hl _; simp only [Option.some.injEq] at h; subst h; exact ⟨fun _=>nil,one hl,fun hq=>by cases hq⟩
   ·cases h
  ·cases h
 ·split at h
  ·split at h
   ·rename_i hl
    rw [Bool.cond_eq_ite] at h
    split at h
    ·cases h
    ·simp only [Option.some.injEq] at h; subst h; exact ⟨one hl,fun _=>nil,fun hq=>by cases hq⟩
   ·cases h
  ·cases h
 ·split at h
  ·split at h
   ·rename_i VU
    split at h
    ·rename_i hl
     simp only [Option.some.injEq] at h; subst h
     exact ⟨fun p hp=>by
      simp only [List.mem_cons,List.not_mem_nil,or_false] at hp
      rcases hp with rfl | rfl
      ·exact VU
      ·exact hl,fun _=>nil,fun _=>⟨rfl,rfl⟩⟩
    ·cases h
   ·cases h
  ·cases h
 ·split at h
  ·split at h
   ·rename_i hl _
    rw [Bool.cond_eq_ite] at h
    split at h
    ·cases h
    ·simp only [Option.some.injEq] at h; subst h; exact ⟨fun _=>nil,one hl,fun hq=>by cases hq⟩
   ·cases h
  ·split at h
   ·simp only [Option.some.injEq] at h; subst h; exact ⟨fun _=>nil,fun _=>nil,fun hq=>by cases hq⟩
   ·cases h
  ·cases h
 ·split at h
  ·split at h
   ·simp only [Option.some.injEq] at h; subst h; exact ⟨fun _=>nil,fun _=>nil,fun _=>⟨rfl,rfl⟩⟩
   ·cases h
  ·cases h
 ·split at h
  ·split at h
   ·split at h
    ·simp only [Option.some.injEq] at h; subst h; exact ⟨fun _=>nil,fun _=>nil,fun hq=>by cases hq⟩
    ·cases h
   ·cases h
  ·cases h
 ·cases h
end
def zK:Value→Value→Bool
 | .int k a,.int k' b=>decide (k=k')&&(a == b)
 | _,_=>false
def ly (k:Value):Nat→(Nat→Value × D)→Option Nat
 | 0,_=>none
 | n+1,f=>bif zK k (f 0).1 then some 0 else (ly k n fun i=>f (i+1)).map (· + 1)
def AQ (k:Value) (n:Nat) (f:Nat→Value × D):Bool:=(ly k n f).isSome
def sC (k:Value) (n:Nat) (f:Nat→Value × D) (z:D):D:=match ly k n f with | some p=>(f p).2 | none=>z
def X3 (k:Value) (n:Nat) (f:Nat→Value × D):Nat:=match ly k n f with | some _=>n | none=>n+1
def TP (k:Value) (x:D) (n:Nat) (f:Nat→Value × D):Nat→Value × D:=match ly k n f with
 | some p=>fun q=>if q=p then ((f q).1,x) else f q
 | none=>fun q=>if q < n then f q else (k,x)
def QY (P:Program) (t:Nat):Option D:=match P.info? t with
 | some j=>(match j.zero with | some (.int k n)=>some (.v (.int k n)) | some (.bool b)=>some (.v (.bool b)) | _=>none)
 | none=>none
def MQ (P:Program) (T:List (Nat × TI)) (lb:List (Nat × ba)) (ρ:Operand→Option AV) (dst:Option Nat) (quiet:Bool):Op→Option R
 | .mapUpdate t m k x=>(match quiet,dst,ρ m,ρ k,ρ x,look T t with
  | false,none,some (.sj κ),some (.d (.v (.int kk a))),some (.d xd),some { kind:=.map kt _,.. }=>(match look lb κ,look T kt with
   | some (.mp n f),some { kind:=.int _,.. }=>some ⟨.any,[],[(κ,.mp n f)],[(κ,.mp (X3 (.int kk a) n f) (TP (.int kk a) xd n f))],.pr (∀ i,i < n→∃ b,(f i).1=.int kk b)⟩
   | _,_=>none)
  | _,_,_,_,_,_=>none)
 | .lookup t m k ok=>(match ρ m,ρ k,look T t with
  | some (.sj κ),some (.d (.v (.int kk a))),some { kind:=.map kt et,.. }=>(match look lb κ,look T kt,QY P et with
   | some (.mp n f),some { kind:=.int _,.. },some z=>some ⟨bif ok then .eD [.d (sC (.int kk a) n f z),.d (.v (.bool (AQ (.int kk a) n f)))] else .d (sC (.int kk a) n f z),[(κ,.mp n f)],[],[],.pr (∀ i,i < n→∃ b,(f i).1=.int kk b)⟩
   | _,_,_=>none)
  | some (.yg n f),some (.d (.v (.int kk a))),some { kind:=.map kt et,.. }=>(match look T kt,QY P et with
   | some { kind:=.int _,.. },some z=>some ⟨bif ok then .eD [.d (sC (.int kk a) n f z),.d (.v (.bool (AQ (.int kk a) n f)))] else .d (sC (.int kk a) n f z),[],[],[],.pr (∀ i,i < n→∃ b,(f i).1=.int kk b)⟩
   | _,_=>none)
  | _,_,_=>none)
 | _=>none
theorem zL {k:Value}:∀ {n:Nat} {f:Nat→Value × D},(∀ p,ly k n f=some p→p < n∧zK k (f p).1=true)∧(ly k n f=none→∀ i,i < n→zK k (f i).1=false)
 | 0,f=>⟨fun p h=>(by cases h),fun _ i hi=>absurd hi (by omega)⟩
 | n+1,f=>by
  have ih:=zL (k:=k) (n:=n) (f:=fun i=>f (i+1))
  simp only [ly]
  cases hk:zK k (f 0).1 with
  | true=>exact ⟨fun p h=>by simp only [cond_true,Option.some.injEq] at h; subst h; exact ⟨by omega,hk⟩,fun h=>(by cases h)⟩
  | false =>
   simp only [cond_false]
   refine ⟨fun p h=>?_,fun h i hi=>?_⟩
   ·cases hq:ly k n (fun i=>f (i+1)) with
    | none=>rw [hq] at h; cases h
    | some q =>
     rw [hq] at h
     simp only [Option.map_some,Option.some.injEq] at h
     subst h
     obtain ⟨h1,h2⟩:=ih.1 q hq
     exact ⟨by omega,h2⟩
   ·have hq:ly k n (fun i=>f (i+1))=none:=by
     cases hq:ly k n (fun i=>f (i+1)) with
     | none=>rfl
     | some q=>rw [hq] at h; cases h
    cases i with
    | zero=>exact hk
    | succ i=>exact ih.2 hq i (by omega)
theorem wY {ik kk:IntKind} {a:Int}:∀ (es:List MapEntry) (f:Nat→Value × D) (j:Nat),(∀ (i:Nat) (h:i < es.length),(es[i]'h).key=(f i).1∧∃ b,(f i).1=.int kk b) →
  Instr.findNow (.int ik) (.int kk a) es j=some (match ly (.int kk a) es.length f with | some p=>(es[p]?).map (fun e=>(p+j,e.val)) | none=>none)
 | [],_,_,_=>rfl
 | e :: es,f,j,h=>by
  obtain ⟨h1,b,h2⟩:=h 0 (by simp)
  have h1:e.key=(f 0).1:=h1
  have ih:=wY (ik:=ik) (kk:=kk) (a:=a) es (fun i=>f (i+1)) (j+1) (fun i hi=>h (i+1) (by simpa using hi))
  simp only [Instr.findNow,Instr.sameNow,h1,h2,if_true,List.length_cons,ly,zK,decide_true,Bool.true_and]
  cases hab:(a == b) with
  | true=>simp
  | false =>
   simp only [ih,cond_false]
   cases hq:ly (.int kk a) es.length (fun i=>f (i+1)) with
   | none=>simp
   | some q =>
    simp only [Option.map_some,List.getElem?_cons_succ]
    congr 2
    funext e
    simp; omega
section
variable {C : Cx} {A : M} {a : Act} {w : World} {S : Nat → Prop} {μ : Mu} {ν : Nat → Bool}
theorem TQ {P:Program} {k:IntKind} {n:Int}:(Instr.keyThatStays (.int k n) (.int k n)).run P w=.ok (.int k n) w:=by
 simp [Instr.keyThatStays,Instr.sameBits]
theorem FN {ok:Bool} {x:D} {b:Bool} {v:Value} (hv:Rel w S μ ν (.d x) v):Rel w S μ ν (bif ok then .eD [.d x,.d (.v (.bool b))] else .d x) (bif ok then .tuple #[v,.bool b] else v):=by
 cases ok with
 | false=>exact hv
 | true =>
  refine .eD rfl (fun q hq=>?_)
  match q with
  | 0=>simpa using hv
  | 1=>simpa using fB (w:=w) (S:=S) (μ:=μ) (ν:=ν) (x:=.bool b) rfl
  | q+2=>simp at hq; omega
theorem FO {T:List (Nat × TI)} (hT:la C.P T) {t kt et:Nat} {ik kk:IntKind} {n0:Int} {kv:Value} {z:D} {n g:Nat} {f:Nat→Value × D} {cur:Array MapEntry} {ok:Bool} {s1 b1 s2 b2:Nat} {z1 z2:List D} {q1 q2:Bool}
  (Zz:kv=.int kk n0) (ht:look T t=some { kind:=.map kt et,size:=s1,bytes:=b1,zero:=z1,eq:=q1 }) (VT:look T kt=some { kind:=.int ik,size:=s2,bytes:=b2,zero:=z2,eq:=q2 }) (hz:QY C.P et=some z) (bH:(Ob.pr (∀ i,i < n→∃ b,(f i).1=.int kk b)).den)
  (hg:w.heap[g]? = some (.map cur n)) (gS:cur.size=n) (bG:∀ i,i < n→∃ e,cur[i]? = some e∧e.key=(f i).1∧scalar e.key=true∧e.born=i∧Rd w S (f i).2 e.val) :
  ∃ v,(Instr.lookup t (.map (some g)) kv ok).run C.P w=.ok (bif ok then .tuple #[v,.bool (AQ (.int kk n0) n f)] else v) w∧Rel w S μ ν (.d (sC (.int kk n0) n f z)) v:=by
 subst Zz
 obtain ⟨ti,z0,F⟩:=aw (hT _ _ ht)
 obtain ⟨tj,zj,G⟩:=aw (hT _ _ VT)
 have hu:=AP F.kind
 have QW:=qZ G.kind
 have bH:∀ i,i < n→∃ b,(f i).1=.int kk b:=bH
 have X4:∀ (i:Nat) (h:i < cur.toList.length),(cur.toList[i]'h).key=(f i).1∧∃ b,(f i).1=.int kk b:=fun i hi=>by
  have QN:i < n:=by simpa [gS] using hi
  obtain ⟨e,h1,h2,_⟩:=bG i QN
  have:cur.toList[i]=e:=by simpa using (Array.getElem?_eq_some_iff.1 h1).2
  rw [this]
  exact ⟨h2,bH i QN⟩
 have mQ:=wY (ik:=ik) (a:=n0) cur.toList f 0 X4
 have uV:cur.toList.length=n:=by simpa using gS
 rw [uV] at mQ
 have hck:=fun q=>n4 (w:=w) (P:=C.P) (b:=cur.isEmpty) (kk:=kk) (n:=n0) QW q
 obtain ⟨zv,hzv,hzr⟩:∃ zv,(zeroValue et).run C.P w=.ok zv w∧Rel w S μ ν (.d z) zv:=by
  unfold QY at hz
  split at hz
  ·rename_i j hj
   split at hz
   ·rename_i k' n' hjz
    simp only [Option.some.injEq] at hz
    subst hz
    exact ⟨.int k' n',by simp only [zeroValue,typeInfo,Sem.run_bind,run_program,Result.andThen_ok,hj,Sem.run_pure,hjz],fB rfl⟩
   ·rename_i b hjz
    simp only [Option.some.injEq] at hz
    subst hz
    exact ⟨.bool b,by simp only [zeroValue,typeInfo,Sem.run_bind,run_program,Result.andThen_ok,hj,Sem.run_pure,hjz],fB rfl⟩
   ·cases hz
  ·cases hz
 cases D7:ly (.int kk n0) n f with
 | some p =>
  obtain ⟨hp,hpk⟩:=zL.1 p D7
  obtain ⟨e,h1,h2,h3,h4,h5⟩:=bG p hp
  have h1l:cur.toList[p]? = some e:=by simpa using h1
  rw [D7] at mQ
  simp only [h1l,Option.map_some,Nat.add_zero] at mQ
  refine ⟨e.val,?_,by simp only [sC,D7]; exact .d h5⟩
  unfold Instr.lookup
  simp only [Sem.run_bind,run_underlying hu,Result.andThen_ok,rb hg,Sem.run_pure,hck 9999,Instr.findKey,run_underlying QW,mQ,AQ,D7,Option.isSome_some]
  cases ok <;> rfl
 | none =>
  rw [D7] at mQ
  simp only at mQ
  refine ⟨zv,?_,by simp only [sC,D7]; exact hzr⟩
  unfold Instr.lookup
  simp only [Sem.run_bind,run_underlying hu,Result.andThen_ok,rb hg,Sem.run_pure,hck 9999,Instr.findKey,run_underlying QW,mQ,hzv,AQ,D7,Option.isSome_none]
  cases ok <;> rfl
theorem MR {T:List (Nat × TI)} (hT:la C.P T) (hs:cE C A a w S μ ν) {lb:List (Nat × ba)} {o:Oper} {ρ:Operand→Option AV} (hρ:∀ x y,ρ x=some y→Rel w S μ ν y (a.eval x)) (hd:∀ t,o.dst=some t→t < C.nt) {quiet:Bool} {r:R}
  (h:MQ C.P T lb ρ o.dst quiet o.op=some r) (kB:∀ p,p∈r.ro→A.lb p.1=some p.2) (iG:∀ p,p∈r.mem→A.lb p.1=some p.2) (bH:r.ob.den) (need:List (Nat × AV)) (gs:List (Nat × Bool)) :
  o.wp C.P a w (fun a' w'=>∃ S' μ',cE C ((Tr.mk need o.dst r.v r.ro r.mem r.eu gs).apply A) a' w' S' μ' ν) (fun _ _ _=>False):=by
 unfold MQ at h
 split at h
 all_goals rename_i ho
 ·-- an entry is laid
  rename_i t m k x
  split at h
  ·rename_i κ kk n0 xd kt _ _ _ _ _ db hm hk hx ht
   split at h
   ·rename_i n f ik _ _ _ _ hl VT
    simp only [Option.some.injEq] at h
    subst h
    rw [db]
    have hκ:=iG (κ,.mp n f) (by simp)
    have Ib:=hs.mem κ _ hκ
    have hv:=hρ _ _ hm
    generalize Vt:a.eval m=mv at hv
    cases hv with
    | @sj _ g cap hμ =>
     rw [hμ] at Ib
     obtain ⟨cur,hg,oO,gS,bG⟩:=Ib.at
     obtain ⟨ti,z,F⟩:=aw (hT _ _ ht)
     obtain ⟨tj,zj,G⟩:=aw (hT _ _ VT)
     have hu:=AP F.kind
     have QW:=qZ G.kind
     have Zz:=dj (hρ _ _ hk)
     have bH:∀ i,i < n→∃ b,(f i).1=.int kk b:=bH
     have X4:∀ (i:Nat) (h:i < cur.toList.length),(cur.toList[i]'h).key=(f i).1∧∃ b,(f i).1=.int kk b:=fun i hi=>by
      have QN:i < n:=by simpa [gS] using hi
      obtain ⟨e,h1,h2,_⟩:=bG i QN
      have:cur.toList[i]=e:=by simpa using (Array.getElem?_eq_some_iff.1 h1).2
      rw [this]
      exact ⟨h2,bH i QN⟩
     have mQ:=wY (ik:=ik) (a:=n0) cur.toList f 0 X4
     have uV:cur.toList.length=n:=by simpa using gS
     rw [uV] at mQ
     have hw:∀ o':Obj,∀ q,S q→(World.zJ w g o').heap[q]? = w.heap[q]?:=fun o' q hq=>(qM g _).block q (hs.bound q hq) (fun e=>oO (e ▸ hq))
     have hck:=fun q=>n4 (w:=w) (P:=C.P) (b:=false) (kk:=kk) (n:=n0) QW q
     cases D7:ly (.int kk n0) n f with
     | some p =>
      obtain ⟨hp,hpk⟩:=zL.1 p D7
      obtain ⟨e,h1,h2,h3,h4,h5⟩:=bG p hp
      have aai:e.key=.int kk n0:=by
       obtain ⟨b,hb⟩:=bH p hp
       rw [hb] at hpk h2
       simp only [zK,decide_true,Bool.true_and,beq_iff_eq] at hpk
       rw [h2,hpk]
      have h1l:cur.toList[p]? = some e:=by simpa using h1
      rw [D7] at mQ
      simp only [h1l,Option.map_some,Nat.add_zero] at mQ
      have dH:(execOp a.eval o).run C.P w=.ok .skip (World.zJ w g (.map (cur.modify p fun e=>{ e with key:=.int kk n0,val:=a.eval x }) n)):=by
       unfold execOp
       rw [ho]
       simp only [Vt,Zz,Sem.run_bind]
       unfold Instr.mapUpdate
       simp only [Sem.run_bind,run_underlying hu,Result.andThen_ok,rb hg,hck 9999,Instr.findKey,run_underlying QW,mQ,Sem.run_pure,h1,Option.map_some,Option.getD_some,aai,TQ,MO _ hg]
      unfold Oper.wp
      rw [dH]
      refine ⟨S,μ,?_⟩
      rw [kf,db]
      have eN:X3 (.int kk n0) n f=n:=by simp [X3,D7]
      rw [eN]
      refine hs.KP hκ hμ (qM g _) ⟨_,E7 _ hg,oO,by simp [gS],fun i hi=>?_⟩
      obtain ⟨e',q1,q2,q3,q4,q5⟩:=bG i hi
      have fb:i < cur.size:=by omega
      by_cases c:i=p
      ·subst c
       rw [h1] at q1
       cases q1
       refine ⟨{ e with key:=.int kk n0,val:=a.eval x },?_,?_,rfl,q4,?_⟩
       ·simp [Array.getElem?_modify,h1]
       ·simp only [TP,D7,if_true]
        rw [← q2,aai]
       ·simp only [TP,D7,if_true]
        exact (gq.1 (hρ _ _ hx)).mono (fun _ x=>x) (hw _)
      ·refine ⟨e',?_,?_,q3,q4,?_⟩
       ·have c':¬ p=i:=fun e=>c e.symm
        simp [Array.getElem?_modify,c',q1]
       ·simp only [TP,D7,c,if_false]; exact q2
       ·simp only [TP,D7,c,if_false]; exact q5.mono (fun _ x=>x) (hw _)
     | none =>
      rw [D7] at mQ
      simp only at mQ
      have dH:(execOp a.eval o).run C.P w=.ok .skip (World.zJ w g (.map (cur.push { key:=.int kk n0,val:=a.eval x,born:=n }) (n+1))):=by
       have h1:=FL (x:=a.eval x) hu QW hg mQ
       unfold execOp
       rw [ho]
       simp only [Vt,Zz,Sem.run_bind,h1,Result.andThen_ok,Sem.run_pure]
      unfold Oper.wp
      rw [dH]
      refine ⟨S,μ,?_⟩
      rw [kf,db]
      have eN:X3 (.int kk n0) n f=n+1:=by simp [X3,D7]
      rw [eN]
      refine hs.KP hκ hμ (qM g _) ⟨_,E7 _ hg,oO,by simp [gS],fun i hi=>?_⟩
      by_cases c:i < n
      ·obtain ⟨e,h1,h2,h3,h4,h5⟩:=bG i c
       refine ⟨e,?_,by simp only [TP,D7,c,if_true]; exact h2,h3,h4,by simp only [TP,D7,c,if_true]; exact h5.mono (fun _ x=>x) (hw _)⟩
       rw [Array.getElem?_push,if_neg (by omega)]
       exact h1
      ·obtain rfl:i=n:=by omega
       refine ⟨_,by rw [Array.getElem?_push,if_pos gS.symm],by simp only [TP,D7,c,if_false],rfl,rfl,?_⟩
       simp only [TP,D7,c,if_false]
       exact (gq.1 (hρ _ _ hx)).mono (fun _ x=>x) (hw _)
   ·cases h
  ·cases h
 ·-- an entry is looked up
  rename_i t m k ok
  split at h
  ·rename_i κ kk n0 kt et _ _ _ _ hm hk ht
   split at h
   ·rename_i n f ik _ _ _ _ z hl VT hz
    simp only [Option.some.injEq] at h
    subst h
    have hκ:=kB (κ,.mp n f) (by simp)
    have Ib:=hs.mem κ _ hκ
    have hv:=hρ _ _ hm
    generalize Vt:a.eval m=mv at hv
    cases hv with
    | @sj _ g cap hμ =>
     rw [hμ] at Ib
     obtain ⟨cur,hg,oO,gS,bG⟩:=Ib.at
     obtain ⟨v,hrv,hv⟩:=FO (ok:=ok) hT (dj (hρ _ _ hk)) ht VT hz bH hg gS bG
     refine kd (τ:=Tr.mk need o.dst (bif ok then .eD [.d (sC (.int kk n0) n f z),.d (.v (.bool (AQ (.int kk n0) n f)))] else .d (sC (.int kk n0) n f z)) [(κ,.mp n f)] [] [] gs) hs hd (x:=bif ok then .tuple #[v,.bool (AQ (.int kk n0) n f)] else v) ?_ (FN hv) rfl rfl rfl
     simp only [execOp,ho,Vt,Sem.run_bind,hrv,Result.andThen_ok,Sem.run_pure]
   ·cases h
  ·rename_i n f kk n0 kt et _ _ _ _ hm hk ht
   split at h
   ·rename_i ik _ _ _ _ z VT hz
    simp only [Option.some.injEq] at h
    subst h
    have hv:=hρ _ _ hm
    generalize Vt:a.eval m=mv at hv
    cases hv with
    | @yg _ _ g hp =>
     obtain ⟨oO,cur,hg,gS,bG⟩:=hp
     obtain ⟨v,hrv,hv⟩:=FO (ok:=ok) hT (dj (hρ _ _ hk)) ht VT hz bH hg gS bG
     refine kd (τ:=Tr.mk need o.dst (bif ok then .eD [.d (sC (.int kk n0) n f z),.d (.v (.bool (AQ (.int kk n0) n f)))] else .d (sC (.int kk n0) n f z)) [] [] [] gs) hs hd (x:=bif ok then .tuple #[v,.bool (AQ (.int kk n0) n f)] else v) ?_ (FN hv) rfl rfl rfl
     simp only [execOp,ho,Vt,Sem.run_bind,hrv,Result.andThen_ok,Sem.run_pure]
   ·cases h
  ·cases h
 ·cases h
theorem FP {P:Program} {T:List (Nat × TI)} {lb:List (Nat × ba)} {ρ:Operand→Option AV} {dst:Option Nat} {quiet:Bool} {op:Op} {r:R} (h:MQ P T lb ρ dst quiet op=some r) :
  (∀ p,p∈r.ro→look lb p.1=some p.2)∧(∀ p,p∈r.mem→look lb p.1=some p.2)∧(quiet=true→r.mem=[]∧r.eu=[])∧∀ k,k∈r.eu.map (·.1)→k∈r.mem.map (·.1):=by
 unfold MQ at h
 have nil:∀ {p:Nat × ba},p∈([]:List (Nat × ba))→look lb p.1=some p.2:=fun h=>by cases h
 have one:∀ {κ:Nat} {b:ba},look lb κ=some b→∀ p,p∈[(κ,b)]→look lb p.1=some p.2:=fun h p hp=>by simp only [List.mem_singleton] at hp; subst hp; exact h
 split at h
 ·split at h
  ·split at h
   ·rename_i hl _; simp only [Option.some.injEq] at h; subst h; exact ⟨fun _=>nil,one hl,fun hq=>(by cases hq),fun k hk=>by simpa using hk⟩
   ·cases h
  ·cases h
 ·split at h
  ·split at h
   ·rename_i hl _ _; simp only [Option.some.injEq] at h; subst h; exact ⟨one hl,fun _=>nil,fun _=>⟨rfl,rfl⟩,fun k hk=>(by cases hk)⟩
   ·cases h
  ·split at h
   ·simp only [Option.some.injEq] at h; subst h; exact ⟨fun _=>nil,fun _=>nil,fun _=>⟨rfl,rfl⟩,fun k hk=>(by cases hk)⟩
   ·cases h
  ·cases h
 ·cases h
end
structure qc where
 n:Nat
 n':Nat
 f:Nat→List D
 f':Nat→List D
 eq:n=n'∧∀ i,i < n→uU (f i) (f' i)
structure MS where
 x:AV
 y:AV
 le:∀ w S μ ν v,Rel w S μ ν x v→Rel w S μ ν y v
structure AR where
 n:Nat
 n':Nat
 f:Nat→Value × D
 f':Nat→Value × D
 eq:n=n'∧∀ i,i < n→f i=f' i
inductive yn where
 | flat (res:AV)
 | gen (hand:List Nat) (res:AV) (back:List (Nat × ba))
 | fc (c:qc)
 | pq (c:AR)
 | cast (d:Nat) (c:MS)
 | pur (d:Nat)
 | same (κ:Nat) (b':ba)
 | bx (hand:List Nat) (kD:List (Nat × Nat)) (res:AV) (back:List (Nat × ba))
def looks (lb:List (Nat × ba)):List Nat→Option (List (Nat × ba))
 | []=>some []
 | k :: r=>(match look lb k,looks lb r with | some b,some l=>some ((k,b) :: l) | _,_=>none)
def E8 (res:AV) (back:List (Nat × ba)):Bool :=
 res.keys.all (fun k=>(back.map (·.1)).contains k)&&back.all (fun p=>p.2.keys.all fun k=>(back.map (·.1)).contains k)
def KT (T:List (Nat × TI)) (lb:List (Nat × ba)) (t:Nat) (ad v:AV):Option R :=
 match look T t,v.cells with
 | some i,some xs=>(match ad with
  | .ptr κ off=>(match look lb κ with
   | some (.box cs)=>bif Nat.beq xs.length i.size&&Nat.ble (off+i.size) cs.length&&so.lx xs&&xs.all KL then some ⟨.any,[],[(κ,.box cs)],[(κ,.box (cs.take off++xs++cs.drop (off+i.size)))],.tt⟩ else none
   | _=>none)
  | .uS κ k p off=>(match look lb κ,vW xs with
   | some (.row e k' n f),some ds=>bif Nat.beq k k'&&Nat.beq ds.length i.size&&Nat.ble (off+i.size) k&&ds.all wu then
     some ⟨.any,[],[(κ,.row e k n f)],[(κ,.row e k n fun q=>if q=p then (f p).take off++ds++(f p).drop (off+i.size) else f q)],.pr (p < n)⟩ else none
   | _,_=>none)
  | _=>none)
 | _,_=>none
def TS (lb:List (Nat × ba)) (k:Nat):AV→Option (Nat × (Nat→List D) × List (Nat × ba) × Ob)
 | .d (.sl m g)=>some (m,g,[],.pr ((∀ i,i < m→(g i).length=k)∧∀ i,i < m→(g i).all wu=true))
 | .d (.v (.slice none 0 0))=>some (0,fun _=>[],[],.tt)
 | .wG m g=>some (m,g,[],.pr ((∀ i,i < m→(g i).length=k)∧∀ i,i < m→(g i).all wu=true))
 | .own κ m=>(match look lb κ with | some (.row e k' m' g)=>bif Nat.beq k k' then some (m,g,[(κ,.row e k' m' g)],(Ob.ne m m').and (.pr (∀ i,i < m→(g i).all wu=true))) else none | _=>none)
 | _=>none
def FQ (T:List (Nat × TI)) (lb:List (Nat × ba)) (dst t:Nat) (dv sv:AV):Option R :=
 match look T t with
 | some { kind:=.slice e,.. }=>(match look T e with
  | some i=>(match TS lb i.size sv with
   | some (m,g,ro,ob)=>(match dv with
    | .d (.v (.slice none 0 0))=>some ⟨.own dst (0+m),ro,[],[(dst,.row e i.size (0+m) fun q=>if q < 0 then [] else g (q - 0))],ob.and (.pr (0+m≤maxLen∧(0+m) * i.bytes≤140737488355328))⟩
    | .own κ n=>(match look lb κ with
     | some (.row e' k n' f)=>bif Nat.beq e e'&&Nat.beq k i.size&&!Nat.beq dst κ then some ⟨.own dst (n+m),ro,[(κ,.row e' k n' f)],[(dst,.row e i.size (n+m) fun q=>if q < n then f q else g (q - n))],ob.and ((Ob.ne n n').and (.pr (n+m≤maxLen∧(n+m) * i.bytes≤140737488355328)))⟩ else none
     | _=>none)
    | _=>none)
   | none=>none)
  | none=>none)
 | _=>none
def E9 (lb:List (Nat × ba)) (κ:Nat):Bool:=match look lb κ with | some (.box _)=>true | _=>false
def TU (κ:Nat):AV→Bool
 | .ptr k 0=>Nat.beq k κ
 | _=>false
def VW (args:List AV) (hand:List Nat) (cz:List (Nat × ba)) (kD:List (Nat × Nat)) (res:AV) (back:List (Nat × ba)):Bool :=
 kD.all (fun p=>Nat.ble (p.1+1) args.length&&TU p.2 (args.getD p.1 default)&&E9 cz p.2&&E9 back p.2) &&
 back.all (fun q=>(kD.map (·.2)).contains q.1||!hand.contains q.1) &&
 res.keys.all (fun k=>(back.map (·.1)).contains k&&!(kD.map (·.2)).contains k) &&
 back.all (fun q=>q.2.keys.all fun k=>(back.map (·.1)).contains k&&!(kD.map (·.2)).contains k)
def Pk (P:Program) (lb:List (Nat × ba)) (quiet:Bool) (cf:AV) (args:List AV):List yn→Option (R × List yn)
 | .flat res :: ij=>(match cf with
  | .fn f bZ=>(match tW lb (args++bZ) with
   | some (DC,ro,ob)=>bif eA res then some (⟨res,ro,[],[],ob.and (.pr (fA P f DC [] res []))⟩,ij) else none
   | none=>none)
  | _=>none)
 | .gen hand res back :: ij=>(match cf with
  | .fn f bZ=>(match looks lb hand with
   | some cz=>bif so.lx (args++bZ)&&E8 res back&&so res&&(!quiet||(hand.isEmpty&&back.isEmpty))&&back.all (fun p=>!hand.contains p.1) then some (⟨res,[],cz,back,.pr (fA P f (args++bZ) cz res back)⟩,ij) else none
   | none=>none)
  | _=>none)
 | .same κ b' :: ij=>(match cf with
  | .fn f bZ=>(match look lb κ with
   | some b=>bif so.lx (args++bZ)&&!quiet then some (⟨.any,[],[(κ,b)],[(κ,b')],.pr (Zx P f (args++bZ) κ b b')⟩,ij) else none
   | none=>none)
  | _=>none)
 | .bx hand kD res back :: ij=>(match cf with
  | .fn f bZ=>(match looks lb hand with
   | some cz=>bif so.lx (args++bZ)&&VW (args++bZ) hand cz kD res back&&so res&&!quiet then some (⟨res,[],cz,back,.pr (FnB P f (args++bZ) cz res back kD)⟩,ij) else none
   | none=>none)
  | _=>none)
 | _=>none
def Xk (quiet:Bool) (dst:Option Nat) (ij:List yn):Option (List yn) :=
 match quiet with
 | true=>some ij
 | false=>(match dst,ij with
  | some t,.pur d :: r=>bif Nat.beq t d then some r else none
  | _,_=>none)
def MT (P:Program) (T:List (Nat × TI)) (lb:List (Nat × ba)) (ρ:Operand→Option AV) (dst:Option Nat) (quiet:Bool) (ij:List yn) (op:Op):Option (R × List yn) :=
 match op with
 | .alloc t=>(match quiet,dst,look T t with | false,some d,some i=>some (⟨.ptr d 0,[],[],[(d,.box (i.zero.map .d))],.tt⟩,ij) | _,_,_=>none)
 | .box _ x=>(match quiet,dst,ρ x with
  | false,some d,some v=>(match v.cells with
   | some cs=>(match Xk false (some d) ij,vW cs with
    | some qp,some ds=>some (⟨.ref ds,[],[],[],.tt⟩,qp)
    | _,_=>bif so.lx cs&&!(AV.nR cs).contains d then some (⟨.ptr d 0,[],[],[(d,.box cs)],.tt⟩,ij) else none)
   | none=>none)
  | _,_,_=>none)
 | .buildSlice t len ps=>(match ra T ρ t len ps.toList with
  | some (e,k,ds)=>(match Xk quiet dst ij with
   | some ij=>some (⟨.d (.sl len (zI k len ds)),[],[],[],.tt⟩,ij)
   | none=>(match quiet,dst with
    | false,some d=>some (⟨.own d len,[],[],[(d,.row e k len (zI k len ds))],.tt⟩,ij)
    | _,_=>none))
  | none=>none)
 | .store t ad x=>(match quiet,dst,ρ ad,ρ x with
  | false,none,some av,some v=>(match KT T lb t av v with | some r=>some (r,ij) | none=>none)
  | _,_,_,_=>none)
 | .call { callee:=.builtin .append,args:=xs,argTypes:=ts }=>(match quiet,dst,xs.toList,ts.toList with
  | false,some d,[s,x],[t,t']=>(match Nat.beq t t',ρ s,ρ x with
   | true,some dv,some sv=>(match FQ T lb d t dv sv with | some r=>some (r,ij) | none=>none)
   | _,_,_=>none)
  | _,_,_,_=>none)
 | .call { callee:=.value cf,args:=xs,.. }=>(match ρ cf,pR ρ xs.toList with
  | some c,some l=>Pk P lb quiet c l ij
  | _,_=>none)
 | .makeSlice t l c=>(match quiet,dst,look T t,ρ l,ρ c with
  | false,some d,some { kind:=.slice e,.. },some (.d (.v (.int _ n))),some (.d (.v (.int _ m)))=>(match look T e with
   | some i=>some (⟨.own d n.toNat,[],[],[(d,.row e i.size n.toNat fun _=>i.zero)],(Ob.ze n m).and (.pr (0≤n∧n.toNat≤maxLen∧n.toNat * i.bytes≤140737488355328))⟩,ij)
   | none=>none)
  | _,_,_,_,_=>none)
 | op=>(match KO T ρ op with
  | some (v,ob)=>some (⟨v,[],[],[],ob⟩,ij)
  | none=>(match Zu T lb ρ op with | some (v,ro,ob)=>some (⟨v,ro,[],[],ob⟩,ij) | none=>none))
def TV (T:List (Nat × TI)) (ρ:Operand→Option AV):Op→Option (AV × Ob)
 | .build t ps=>(match look T t,wT ρ ps.toList with
  | some { kind:=.array _ e,zero:=z,.. },some vs=>(match look T e with
   | some ie=>(match Fu (fun q=>some (q * ie.size,ie.size)) (z.map .d) vs with | some cs=>some (Ms cs,.tt) | none=>none)
   | none=>none)
  | _,_=>none)
 | .indexAddr t x i=>(match look T t,ρ x,ρ i with
  | some { kind:=.array n e,.. },some (.ptr κ off),some (.d (.v (.int _ q)))=>(match look T e with | some ie=>some (.ptr κ (off+q.toNat * ie.size),.pr (0≤q∧q < n)) | none=>none)
  | some { kind:=.array n e,.. },some (.ref cs),some (.d (.v (.int _ q)))=>(match look T e with | some ie=>some (.ref (cs.drop (q.toNat * ie.size)),.pr (0≤q∧q < n)) | none=>none)
  | _,_,_=>none)
 | _=>none
def MU (P:Program) (T:List (Nat × TI)) (lb:List (Nat × ba)) (ρ:Operand→Option AV) (dst:Option Nat) (quiet:Bool) (ij:List yn) (op:Op):Option (R × List yn) :=
 match MQ P T lb ρ dst quiet op with
 | some r=>some (r,ij)
 | none=>(match FM T lb ρ dst quiet op with
 | some r=>some (r,ij)
 | none=>(match TV T ρ op with
 | some (v,ob)=>some (⟨v,[],[],[],ob⟩,ij)
 | none=>MT P T lb ρ dst quiet ij op))
def ab9:Op→Bool
 | .buildSlice .. | .slice .. | .store .. | .makeSlice .. | .convert ..=>true
 | .call { callee:=.builtin .append,.. }=>true
 | _=>false
def MV (c:qc) (r:R):Option R :=
 match r.eu with
 | [(κ,.row e k n f)]=>(match r.v with
  | .own κ' m=>bif Nat.beq κ' κ then some ⟨.own κ' c.n',r.ro,r.mem,[(κ,.row e k c.n' c.f')],r.ob.and ((Ob.ne m c.n).and ((Ob.ne n c.n).and (.fe f c.f)))⟩ else none
  | .any=>some ⟨.any,r.ro,r.mem,[(κ,.row e k c.n' c.f')],r.ob.and ((Ob.ne n c.n).and (.fe f c.f))⟩
  | _=>none)
 | []=>(match r.v with
  | .d (.sl n f)=>some ⟨.d (.sl c.n' c.f'),r.ro,r.mem,[],r.ob.and ((Ob.ne n c.n).and (.fe f c.f))⟩
  | _=>none)
 | _=>none
def MW (c:AR) (r:R):Option R :=
 match r.eu with
 | [(κ,.mp n f)]=>(match r.v with
  | .any=>some ⟨.any,r.ro,r.mem,[(κ,.mp c.n' c.f')],r.ob.and ((Ob.ne n c.n).and (.me f c.f))⟩
  | .sj q=>some ⟨.sj q,r.ro,r.mem,[(κ,.mp c.n' c.f')],r.ob.and ((Ob.ne n c.n).and (.me f c.f))⟩
  | _=>none)
 | _=>none
def Xl (c:MS) (r:R):R:=⟨c.y,r.ro,r.mem,r.eu,r.ob.and (.ve r.v c.x)⟩
def TW (P:Program) (T:List (Nat × TI)) (lb:List (Nat × ba)) (ρ:Operand→Option AV) (dst:Option Nat) (quiet:Bool) (ij:List yn) (op:Op):Option (R × List yn) :=
 match MU P T lb ρ dst quiet ij op with
 | some (r,Ic)=>(match ab9 op,Ic with
  | true,.fc c :: Pl=>(match MV c r with | some r'=>some (r',Pl) | none=>some (r,Ic))
  | _,.pq c :: Pl=>(match MW c r with | some r'=>some (r',Pl) | none=>some (r,Ic))
  | _,.cast d c :: Pl=>(match dst with | some t=>bif Nat.beq t d then some (Xl c r,Pl) else some (r,Ic) | none=>some (r,Ic))
  | _,_=>some (r,Ic))
 | none=>none
section
variable {C : Cx} {A : M} {a : Act} {w : World} {S : Nat → Prop} {μ : Mu} {ν : Nat → Bool}
theorem Ch {lb:List (Nat × ba)}:∀ {ks:List Nat} {l:List (Nat × ba)},looks lb ks=some l→l.map (·.1)=ks
 | [],l,h=>by simp only [looks,Option.some.injEq] at h; subst h; rfl
 | k :: r,l,h=>by
  simp only [looks] at h
  cases h1:look lb k with
  | none=>rw [h1] at h; cases h
  | some b =>
   cases h2:looks lb r with
   | none=>rw [h1,h2] at h; cases h
   | some l' =>
    rw [h1,h2] at h
    simp only [Option.some.injEq] at h
    subst h
    simp [Ch h2]
theorem X5 {T:List (Nat × TI)} (hT:la C.P T) (hs:cE C A a w S μ ν) {lb:List (Nat × ba)} {o:Oper} {ρ:Operand→Option AV} (hρ:∀ x y,ρ x=some y→Rel w S μ ν y (a.eval x)) (hd:∀ t,o.dst=some t→t < C.nt)
  {v:AV} {ro:List (Nat × ba)} {ob:Ob} (h:Zu T lb ρ o.op=some (v,ro,ob)) (kB:∀ p,p∈ro→A.lb p.1=some p.2) (bH:ob.den) (need:List (Nat × AV)) (gs:List (Nat × Bool)) :
  o.wp C.P a w (fun a' w'=>∃ S' μ',cE C ((Tr.mk need o.dst v ro [] [] gs).apply A) a' w' S' μ' ν) (fun _ _ _=>False):=by
 obtain ⟨x,h1,h2⟩:=RV hT hs hρ h kB bH
 exact kd hs hd h1 h2 rfl rfl rfl
theorem KU {o:Oper} {t:TypeId} {ds:List D} {τ:Tr} (hs:cE C A a w S μ ν) (hd:∀ t,o.dst=some t→t < C.nt) {vs:Array Value}
  (dH:(execOp a.eval o).run C.P w=.ok (.value (.pointer (some ⟨w.heap.size,0,none⟩))) (w.alloc (.cells vs t))) (hr:cP w S μ ν (ds.map .d) vs.toList)
  (h0:τ.v=.ref ds) (h1:τ.dst=o.dst) (h2:τ.mem=[]) (h3:τ.eu=[]) :
  o.wp C.P a w (fun a' w'=>∃ S' μ',cE C (τ.apply A) a' w' S' μ' ν) (fun _ _ _=>False):=by
 unfold Oper.wp
 rw [dH]
 let S':Nat→Prop:=fun q=>S q∨q=w.heap.size
 have h4:=hs.world (S':=S') (w':=w.alloc (.cells vs t)) (fun _ x=>.inl x) (fun q hq=>hq.elim .inl (fun e=>.inr ⟨by omega,by rw [e]; simp⟩)) (l8 w _ _)
 have hl:=hr.1
 simp only [List.length_map,Array.length_toList] at hl
 have TM:∀ ν,Rel (w.alloc (.cells vs t)) S' μ ν (.ref ds) (.pointer (some ⟨w.heap.size,0,none⟩)):=fun ν'=>by
  refine .ref (fun j=>vs.toList.getD j undef) (fun j hj=>⟨.inr rfl,?_⟩) (fun j hj=>?_)
  ·rw [fC _ _ _ vs t (0,0) (heap_alloc_new w _)]
   have di:j < vs.size:=by omega
   simp [List.getD,di]
  ·have:=hr.2 j (by simpa using hj)
   rw [iE _ j hj] at this
   exact (gq.1 this).mono (fun _ x=>.inl x) (fun q hq=>heap_alloc_old w _ (hs.bound q hq))
 have h5:=h4.put (dst:=o.dst) (x:=.ref ds) (v:=.pointer (some ⟨w.heap.size,0,none⟩)) hd (TM ν)
 refine ⟨S',μ,?_⟩
 have e:τ.apply A=A.tS o.dst (.ref ds):=by
  unfold Tr.apply M.tS M.put
  rw [h0,h1,h2,h3]
  cases ho:o.dst with
  | none=>simp [look]
  | some d =>
   simp only [look,List.map_nil,List.not_mem_nil,if_false,Option.some.injEq]
   congr 1
   funext t
   by_cases c:d=t
   ·simp [c]
   ·have:¬ t=d:=fun e=>c e.symm
    simp [c,this]
 rw [e]
 exact h5
theorem MX {T:List (Nat × TI)} (hT:la C.P T) (hs:cE C A a w S μ ν) {lb:List (Nat × ba)} {o:Oper} {ρ:Operand→Option AV} (hρ:∀ x y,ρ x=some y→Rel w S μ ν y (a.eval x)) (hd:∀ t,o.dst=some t→t < C.nt) {quiet:Bool} {ij qp:List yn} {r:R}
  (h:MT C.P T lb ρ o.dst quiet ij o.op=some (r,qp)) (kB:∀ p,p∈r.ro→A.lb p.1=some p.2) (iG:∀ p,p∈r.mem→A.lb p.1=some p.2) (bH:r.ob.den) (tR:∀ κ,κ∈(r.eu.map (·.1)).filter (fun k=>!(r.mem.map (·.1)).contains k)→iC A κ) (need:List (Nat × AV)) (gs:List (Nat × Bool)) :
  o.wp C.P a w (fun a' w'=>∃ S' μ',cE C ((Tr.mk need o.dst r.v r.ro r.mem r.eu gs).apply A) a' w' S' μ' ν) (fun _ _ _=>False):=by
 unfold MT at h
 split at h
 all_goals rename_i ho
 ·rename_i t0
  split at h
  ·rename_i d i db hi
   simp only [Option.some.injEq,Prod.mk.injEq] at h
   obtain ⟨rfl,-⟩:=h
   obtain ⟨ti,z,F⟩:=aw (hT _ _ hi)
   obtain ⟨q1,q2⟩:=iD (w:=w) (S:=S) F.Vq
   have hz:cP w S μ ν (i.zero.map .d) z.cells.toList:=by
    refine ⟨by simpa using q1,fun j hj=>?_⟩
    simp only [List.length_map] at hj
    rw [iE _ j hj]
    exact .d (q2 j hj)
   have hng:∀ l:List D,so.lx (l.map AV.d)=true:=fun l=>by induction l with | nil=>rfl | cons x r ih=>simpa [so.lx,so] using ih
   have QZ:∀ l:List D,AV.nR (l.map AV.d)=[]:=fun l=>by induction l with | nil=>rfl | cons x r ih=>simpa [AV.nR,AV.keys] using ih
   rw [db]
   refine MG (t:=t0) hs db (hd d db) (vs:=z.cells) ?_ hz (hng _) (tR d (by simp)) (by rw [QZ]; simp)
   simp only [execOp,ho,Instr.alloc,zeroValue,typeInfo,Sem.run_bind,run_program,Result.andThen_ok,F.info,Sem.run_pure,F.zero,newVar,newRow,run_newObj]
   rfl
  ·cases h
 ·rename_i t0 x0
  split at h
  ·rename_i d v db hx
   split at h
   ·rename_i cs hc
    split at h
    ·rename_i qp ds _ hp
     simp only [Option.some.injEq,Prod.mk.injEq] at h
     obtain ⟨rfl,-⟩:=h
     have ecs:=qY hp
     subst ecs
     refine KU (t:=t0) (ds:=ds) hs hd ?_ (l7 hc (hρ _ _ hx)) rfl rfl rfl rfl
     simp only [execOp,ho,Instr.box,newVar,newRow,Sem.run_bind,run_newObj,Result.andThen_ok,Sem.run_pure]
     rfl
    cases hb:(so.lx cs&&!(AV.nR cs).contains d) with
    | false=>rw [hb] at h; cases h
    | true =>
     rw [hb] at h
     simp only [cond_true,Option.some.injEq,Prod.mk.injEq] at h
     obtain ⟨rfl,-⟩:=h
     simp only [Bool.and_eq_true,Bool.not_eq_true',List.contains_eq_mem,decide_eq_false_iff_not] at hb
     rw [db]
     refine MG (t:=t0) hs db (hd d db) ?_ (l7 hc (hρ _ _ hx)) hb.1 (tR d (by simp)) hb.2
     simp only [execOp,ho,Instr.box,newVar,newRow,Sem.run_bind,run_newObj,Result.andThen_ok,Sem.run_pure]
     rfl
   ·cases h
  ·cases h
 ·split at h
  ·rename_i e k ds VX
   split at h
   ·simp only [Option.some.injEq,Prod.mk.injEq] at h
    obtain ⟨rfl,-⟩:=h
    exact FI hT hs hd ho hρ VX rfl rfl rfl rfl
   ·split at h
    ·rename_i d db _
     simp only [Option.some.injEq,Prod.mk.injEq] at h
     obtain ⟨rfl,-⟩:=h
     rw [db]
     exact D6 hT hs db (hd d db) ho hρ VX (tR d (by simp))
    ·cases h
  ·cases h
 ·split at h
  ·rename_i av v db Ta hv
   split at h
   ·rename_i r' kE
    simp only [Option.some.injEq,Prod.mk.injEq] at h
    obtain ⟨rfl,-⟩:=h
    rw [db]
    unfold KT at kE
    split at kE
    ·rename_i i xs hi hc
     split at kE
     ·rename_i κ off
      split at kE
      ·rename_i cs hl
       cases hb:(Nat.beq xs.length i.size&&Nat.ble (off+i.size) cs.length&&so.lx xs&&xs.all KL) with
       | false=>rw [hb] at kE; cases kE
       | true =>
        rw [hb] at kE
        simp only [Bool.and_eq_true] at hb
        simp only [cond_true,Option.some.injEq] at kE
        subst kE
        exact Fy hs (hT _ _ hi) ho db (hρ _ _ Ta) (hρ _ _ hv) (iG (κ,.box cs) (by simp)) hc (Nat.eq_of_beq_eq_true hb.1.1.1) (Nat.le_of_ble_eq_true hb.1.1.2) hb.1.2 hb.2 _
      ·cases kE
     ·rename_i κ k p off
      split at kE
      ·rename_i e k' n f ds hl hp
       cases hb:(Nat.beq k k'&&Nat.beq ds.length i.size&&Nat.ble (off+i.size) k&&ds.all wu) with
       | false=>rw [hb] at kE; cases kE
       | true =>
        rw [hb] at kE
        simp only [Bool.and_eq_true] at hb
        simp only [cond_true,Option.some.injEq] at kE
        subst kE
        exact FB hs (hT _ _ hi) ho db (hρ _ _ Ta) (hρ _ _ hv) (iG (κ,.row e k n f) (by simp)) hc hp (Nat.eq_of_beq_eq_true hb.1.1.2) (Nat.le_of_ble_eq_true hb.1.2) bH hb.2 _
      ·cases kE
     ·cases kE
    ·cases kE
   ·cases h
  ·cases h
 ·rename_i xs ts
  split at h
  ·rename_i d s x t t' db VO Tz
   split at h
   ·rename_i dv sv htt Zv VR
    split at h
    ·rename_i r' wJ
     simp only [Option.some.injEq,Prod.mk.injEq] at h
     obtain ⟨rfl,-⟩:=h
     rw [db]
     have e1:=Nat.eq_of_beq_eq_true htt
     subst e1
     have QI:o.op=.call { callee:=.builtin .append,args:=#[s,x],argTypes:=#[t,t] }:=by
      rw [ho]
      congr 2
      ·cases xs; simpa using VO
      ·cases ts; simpa using Tz
     unfold FQ at wJ
     split at wJ
     ·rename_i e _ _ _ _ hl
      split at wJ
      ·rename_i i hi
       split at wJ
       ·rename_i m g JX AE jJ
        have src:AE.den→(∀ p,p∈JX→A.lb p.1=some p.2)→∃ ys,MH w S i.size m g (a.eval x) ys:=by
         intro FR aca
         have hr:=hρ _ _ VR
         unfold TS at jJ
         split at jJ
         ·simp only [Option.some.injEq,Prod.mk.injEq] at jJ
          obtain ⟨rfl,rfl,rfl,rfl⟩:=jJ
          exact MI (gq.1 hr) FR.1 FR.2
         ·simp only [Option.some.injEq,Prod.mk.injEq] at jJ
          obtain ⟨rfl,rfl,rfl,rfl⟩:=jJ
          have:=cm rfl hr
          exact ⟨[],⟨⟨by simp,fun i hi=>absurd hi (by omega)⟩,fun u hu=>(by cases hu),.inl ⟨this,rfl⟩⟩⟩
         ·simp only [Option.some.injEq,Prod.mk.injEq] at jJ
          obtain ⟨rfl,rfl,rfl,rfl⟩:=jJ
          generalize a.eval x=xv at hr
          cases hr with
          | wG hd=>exact MI hd FR.1 FR.2
         ·rename_i κ m0
          split at jJ
          ·rename_i e2 k2 m2 g2 uY
           cases hb:Nat.beq i.size k2 with
           | false=>rw [hb] at jJ; cases jJ
           | true =>
            rw [hb] at jJ
            have e3:=Nat.eq_of_beq_eq_true hb
            simp only [cond_true,Option.some.injEq,Prod.mk.injEq] at jJ
            obtain ⟨rfl,rfl,rfl,rfl⟩:=jJ
            have OZ:=aca (κ,.row e2 k2 m2 g2) (by simp)
            obtain ⟨o5,o6⟩:=Ob.cg FR
            rw [← e3,← (show _=_ from o5)] at OZ
            exact VQ hs OZ hr o6
          ·cases jJ
         ·cases jJ
        split at wJ
        ·simp only [Option.some.injEq] at wJ
         subst wJ
         obtain ⟨o1,o2,o3⟩:=Ob.cg bH
         obtain ⟨ys,ZB⟩:=src o1 kB
         exact DA hs db (hd d db) (hT _ _ hl) rfl (hT _ _ hi) QI (hρ _ _ Zv) (.nil (fun _=>[])) rfl ZB o2 o3 (tR d (by simp))
        ·rename_i κ n
         split at wJ
         ·rename_i e' k n' f uY
          cases hb:(Nat.beq e e'&&Nat.beq k i.size&&!Nat.beq d κ) with
          | false=>rw [hb] at wJ; cases wJ
          | true =>
           rw [hb] at wJ
           simp only [cond_true,Option.some.injEq] at wJ
           subst wJ
           simp only [Bool.and_eq_true] at hb
           have e4:=Nat.eq_of_beq_eq_true hb.1.1
           have e5:=Nat.eq_of_beq_eq_true hb.1.2
           obtain ⟨o1,o7⟩:=Ob.cg bH
           obtain ⟨o2,o3,o4⟩:=Ob.cg o7
           have o2:n=n':=o2
           subst e4; subst e5; subst o2
           obtain ⟨ys,ZB⟩:=src o1 kB
           have hκ:=iG (κ,.row e i.size n f) (by simp)
           have qW:d ∉ [κ]:=fun hc=>by
            simp only [List.mem_singleton] at hc
            subst hc
            have:=hb.2
            rw [Nat.beq_refl] at this
            cases this
           exact DA hs db (hd d db) (hT _ _ hl) rfl (hT _ _ hi) QI (hρ _ _ Zv) (.own hκ) rfl ZB o3 o4 (tR d (by simpa using qW))
         ·cases wJ
        ·cases wJ
       ·cases wJ
      ·cases wJ
     ·cases wJ
    ·cases h
   ·cases h
  ·cases h
 ·rename_i cf xs _
  split at h
  ·rename_i c l hc hl
   have jP:=ke hρ xs.toList l hl
   unfold Pk at h
   split at h
   ·rename_i res R6
    split at h
    ·rename_i f bZ
     split at h
     ·rename_i DC JX AE hb
      cases Xh:eA res with
      | false=>rw [Xh] at h; cases h
      | true =>
       rw [Xh] at h
       simp only [cond_true,Option.some.injEq,Prod.mk.injEq] at h
       obtain ⟨rfl,-⟩:=h
       exact FF hs hd ho (hρ _ _ hc) jP hb kB (Ob.cg bH).1 (Ob.cg bH).2 Xh rfl rfl rfl rfl
     ·cases h
    ·cases h
   ·rename_i hand res back R6
    split at h
    ·rename_i f bZ
     split at h
     ·rename_i cz uY
      cases hb:(so.lx (l++bZ)&&E8 res back&&so res&&(!quiet||(hand.isEmpty&&back.isEmpty))&&back.all (fun p=>!hand.contains p.1)) with
      | false=>rw [hb] at h; cases h
      | true =>
       rw [hb] at h
       simp only [cond_true,Option.some.injEq,Prod.mk.injEq] at h
       obtain ⟨rfl,-⟩:=h
       simp only [Bool.and_eq_true,E8,List.all_eq_true,List.contains_eq_mem,decide_eq_true_eq,Bool.not_eq_true',decide_eq_false_iff_not] at hb
       obtain ⟨⟨⟨⟨h1,h2,h3⟩,h4⟩,h5⟩,h6⟩:=hb
       refine R0 hs hd ho (hρ _ _ hc) jP h1 bH iG (fun k hk=>tR k ?_) h2 h3
       have TX:=Ch uY
       simp only [List.mem_filter,Bool.not_eq_true',List.contains_eq_mem,decide_eq_false_iff_not]
       refine ⟨hk,?_⟩
       rw [TX]
       obtain ⟨p,hp,rfl⟩:=List.mem_map.1 hk
       exact h6 p hp
     ·cases h
    ·cases h
   ·rename_i κ b' R6
    split at h
    ·rename_i f bZ
     split at h
     ·rename_i b uY
      cases hb:(so.lx (l++bZ)&&!quiet) with
      | false=>rw [hb] at h; cases h
      | true =>
       rw [hb] at h
       simp only [cond_true,Option.some.injEq,Prod.mk.injEq] at h
       obtain ⟨rfl,-⟩:=h
       simp only [Bool.and_eq_true] at hb
       exact FH hs hd ho (hρ _ _ hc) jP hb.1 bH (iG (κ,b) (by simp))
     ·cases h
    ·cases h
   ·rename_i hand kD res back R6
    split at h
    ·rename_i f bZ
     split at h
     ·rename_i cz uY
      cases hb:(so.lx (l++bZ)&&VW (l++bZ) hand cz kD res back&&so res&&!quiet) with
      | false=>rw [hb] at h; cases h
      | true =>
       rw [hb] at h
       simp only [cond_true,Option.some.injEq,Prod.mk.injEq] at h
       obtain ⟨rfl,-⟩:=h
       simp only [Bool.and_eq_true,VW,List.all_eq_true,List.contains_eq_mem,decide_eq_true_eq,Bool.not_eq_true',decide_eq_false_iff_not,Bool.or_eq_true] at hb
       obtain ⟨⟨⟨h1,⟨⟨h2,h3⟩,h4⟩,h5⟩,h6⟩,h7⟩:=hb
       have TX:=Ch uY
       have box:∀ (lb:List (Nat × ba)) κ,E9 lb κ=true→∃ cs,look lb κ=some (.box cs):=fun lb κ h=>by
        unfold E9 at h
        split at h
        ·exact ⟨_,by assumption⟩
        ·cases h
       have ptr:∀ κ x,TU κ x=true→x=.ptr κ 0:=fun κ x h=>by
        unfold TU at h
        split at h
        ·rw [Nat.eq_of_beq_eq_true h]
        ·cases h
       refine KN hs hd ho (hρ _ _ hc) jP h1 bH (fun p hp=>?_) iG (fun k hk hn=>tR k ?_) h4 h5
       ·obtain ⟨⟨⟨a1,a2⟩,a3⟩,a4⟩:=h2 p hp
        exact ⟨Nat.le_of_ble_eq_true a1,ptr _ _ a2,box _ _ a3,box _ _ a4⟩
       ·simp only [List.mem_filter,Bool.not_eq_true',List.contains_eq_mem,decide_eq_false_iff_not]
        refine ⟨hk,?_⟩
        rw [TX]
        obtain ⟨p,hp,rfl⟩:=List.mem_map.1 hk
        exact (h3 p hp).resolve_left hn
     ·cases h
    ·cases h
   ·cases h
  ·cases h
 ·split at h
  ·rename_i d e _ _ _ _ kl n kc m db ht hl hc
   split at h
   ·rename_i i hi
    simp only [Option.some.injEq,Prod.mk.injEq] at h
    obtain ⟨rfl,-⟩:=h
    have FR:((Ob.ze n m).and (.pr (0≤n∧n.toNat≤maxLen∧n.toNat * i.bytes≤140737488355328))).den:=bH
    obtain ⟨o1,o2,o3,o4⟩:=Ob.cg FR
    have o1:n=m:=o1
    subst o1
    rw [db]
    exact R2 hT hs db (hd d db) ho ht rfl hi (dj (hρ _ _ hl)) (dj (hρ _ _ hc)) o2 o3 o4 (tR d (by simp))
   ·cases h
  ·cases h
 ·split at h
  ·rename_i v AE hv
   simp only [Option.some.injEq,Prod.mk.injEq] at h
   obtain ⟨rfl,-⟩:=h
   exact Pj hT hs hρ hd hv bH need _ gs
  ·split at h
   ·rename_i v JX AE hv
    simp only [Option.some.injEq,Prod.mk.injEq] at h
    obtain ⟨rfl,-⟩:=h
    exact X5 hT hs hρ hd hv kB bH need gs
   ·cases h
theorem MY {T:List (Nat × TI)} (hT:la C.P T) {o:Oper} {ρ:Operand→Option AV} (hρ:∀ x y,ρ x=some y→Rel w S μ ν y (a.eval x)) {v:AV} {ob:Ob} (h:TV T ρ o.op=some (v,ob)) (bH:ob.den) :
  ∃ x,(execOp a.eval o).run C.P w=.ok (.value x) w∧Rel w S μ ν v x:=by
 unfold TV at h
 split at h
 ·rename_i t ps ho
  split at h
  ·rename_i n e _ _ z _ vs hl hv
   split at h
   ·rename_i ie he
    split at h
    ·rename_i cs zm
     simp only [Option.some.injEq,Prod.mk.injEq] at h
     obtain ⟨rfl,-⟩:=h
     obtain ⟨ti,zz,F⟩:=aw (hT t _ hl)
     have hu:=uX F.kind
     obtain ⟨te,ze,G⟩:=aw (hT e _ he)
     have gS:(sizeOf e).run C.P w=.ok ie.size w:=by simp [sizeOf,typeInfo,G.info,G.size]
     obtain ⟨q1,q2⟩:=iD (w:=w) (S:=S) F.Vq
     have hz:cP w S μ ν (z.map .d) zz.cells.toList:=by
      refine ⟨by simpa using q1,fun i hi=>?_⟩
      simp only [List.length_map] at hi
      rw [iE z i hi]
      exact .d (q2 i hi)
     obtain ⟨v1,v2⟩:=va hρ ps.toList vs hv
     obtain ⟨Fv,hf,hr⟩:=yj (fun q=>some (q * ie.size,ie.size)) vs (ps.toList.map fun p=>(p.1,a.eval p.2)) (z.map .d) cs zz.cells hz v1 v2 zm
     refine ⟨.agg Fv,?_,yi (by have:=hr.1; simpa using this) (fun i hi=>by rw [ct]; exact hr.2 i hi)⟩
     have Xg:(ps.map fun (i,x)=>(i,a.eval x)).toList=ps.toList.map fun p=>(p.1,a.eval p.2):=by simp
     simp only [execOp,ho,Instr.build,Sem.run_bind,zeroValue,typeInfo,run_program,Result.andThen_ok,F.info,Sem.run_pure,F.zero,run_underlying hu,gS,Xg]
     rw [hf]
     simp
    ·cases h
   ·cases h
  ·cases h
 ·rename_i t x i ho
  split at h
  ·rename_i n e _ _ _ _ κ off kk q hl hx hi
   split at h
   ·rename_i ie he
    simp only [Option.some.injEq,Prod.mk.injEq] at h
    obtain ⟨rfl,rfl⟩:=h
    have bH:0≤q∧q < n:=bH
    obtain ⟨ti,zz,F⟩:=aw (hT t _ hl)
    have hu:=uX F.kind
    obtain ⟨te,ze,G⟩:=aw (hT e _ he)
    have gS:(sizeOf e).run C.P w=.ok ie.size w:=by simp [sizeOf,typeInfo,G.info,G.size]
    have Vv:=hρ _ _ hx
    have Tc:=dj (hρ _ _ hi)
    generalize Ta:a.eval x=av at Vv
    cases Vv with
    | @ptr _ _ g cap hμ =>
     refine ⟨.pointer (some ⟨g,off+q.toNat * ie.size,none⟩),?_,.ptr hμ⟩
     simp [execOp,ho,Ta,Tc,Instr.indexAt,asIntOf,run_underlying hu,Instr.sureAddr,bH,gS,fU]
   ·cases h
  ·rename_i n e _ _ _ _ cs kk q hl hx hi
   split at h
   ·rename_i ie he
    simp only [Option.some.injEq,Prod.mk.injEq] at h
    obtain ⟨rfl,rfl⟩:=h
    have bH:0≤q∧q < n:=bH
    obtain ⟨ti,zz,F⟩:=aw (hT t _ hl)
    have hu:=uX F.kind
    obtain ⟨te,ze,G⟩:=aw (hT e _ he)
    have gS:(sizeOf e).run C.P w=.ok ie.size w:=by simp [sizeOf,typeInfo,G.info,G.size]
    have Vv:=hρ _ _ hx
    have Tc:=dj (hρ _ _ hi)
    generalize Ta:a.eval x=av at Vv
    cases Vv with
    | @ref _ b o' eV bG hr =>
     refine ⟨.pointer (some ⟨b,o'+q.toNat * ie.size,none⟩),?_,.ref (fun j=>eV (q.toNat * ie.size+j)) (fun j hj=>?_) (fun j hj=>?_)⟩
     ·simp [execOp,ho,Ta,Tc,Instr.indexAt,asIntOf,run_underlying hu,Instr.sureAddr,bH,gS,fU]
     ·simp only [List.length_drop] at hj
      have:=bG (q.toNat * ie.size+j) (by omega)
      rw [← Nat.add_assoc] at this
      exact this
     ·simp only [List.length_drop] at hj
      have:=hr (q.toNat * ie.size+j) (by omega)
      simpa [List.getD] using this
   ·cases h
  ·cases h
 ·cases h
theorem iZ {T:List (Nat × TI)} (hT:la C.P T) (hs:cE C A a w S μ ν) {lb:List (Nat × ba)} {o:Oper} {ρ:Operand→Option AV} (hρ:∀ x y,ρ x=some y→Rel w S μ ν y (a.eval x)) (hd:∀ t,o.dst=some t→t < C.nt) {quiet:Bool} {ij qp:List yn} {r:R}
  (h:MU C.P T lb ρ o.dst quiet ij o.op=some (r,qp)) (kB:∀ p,p∈r.ro→A.lb p.1=some p.2) (iG:∀ p,p∈r.mem→A.lb p.1=some p.2) (bH:r.ob.den) (tR:∀ κ,κ∈(r.eu.map (·.1)).filter (fun k=>!(r.mem.map (·.1)).contains k)→iC A κ) (need:List (Nat × AV)) (gs:List (Nat × Bool)) :
  o.wp C.P a w (fun a' w'=>∃ S' μ',cE C ((Tr.mk need o.dst r.v r.ro r.mem r.eu gs).apply A) a' w' S' μ' ν) (fun _ _ _=>False):=by
 unfold MU at h
 split at h
 ·rename_i r' hm
  simp only [Option.some.injEq,Prod.mk.injEq] at h
  obtain ⟨rfl,-⟩:=h
  exact MR hT hs hρ hd hm kB iG bH need gs
 split at h
 ·rename_i r' hm
  simp only [Option.some.injEq,Prod.mk.injEq] at h
  obtain ⟨rfl,-⟩:=h
  exact KR hT hs hρ hd hm kB iG bH tR need gs
 split at h
 ·rename_i v ob hm
  simp only [Option.some.injEq,Prod.mk.injEq] at h
  obtain ⟨rfl,-⟩:=h
  obtain ⟨x,h1,h2⟩:=MY hT hρ hm bH
  exact kd hs hd h1 h2 rfl rfl rfl
 ·exact MX hT hs hρ hd h kB iG bH tR need gs
theorem TY {α:Type} (k:Nat) (x:α) (r:List (Nat × α)) (t:Nat):look ((k,x) :: r) t=if k=t then some x else look r t:=by
 simp only [look]
 cases hb:Nat.beq k t with
 | true=>simp [Nat.eq_of_beq_eq_true hb]
 | false =>
  have:¬ k=t:=fun e=>by rw [e,Nat.beq_refl] at hb; cases hb
  simp [this]
theorem cE.weaken {B:M} (h:cE C A a w S μ ν) (ME:∀ t v,Rel w S μ ν (A.sl t) v→Rel w S μ ν (B.sl t) v) (OZ:∀ κ b',B.lb κ=some b'→∃ b,A.lb κ=some b∧∀ y,fT w S μ b y→fT w S μ b' y):cE C B a w S μ ν:=by
 refine ⟨h.tmps,h.defers,fun t=>ME t _ (h.df t),fun κ b hb=>?_,fun κ κ' b b' g c c' hb kC hm zo=>?_,fun κ b g c hb hm=>?_,h.dG,h.fresh,h.bound,h.kept⟩
 ·obtain ⟨d,h1,h2⟩:=OZ κ b hb
  exact h2 _ (h.mem κ d h1)
 ·obtain ⟨d,h1,_⟩:=OZ κ b hb
  obtain ⟨d',h1',_⟩:=OZ κ' b' kC
  exact h.inj κ κ' d d' g c c' h1 h1' hm zo
 ·obtain ⟨d,h1,_⟩:=OZ κ b hb
  exact h.own κ d g c h1 hm
theorem TZ {e k n n':Nat} {f f':Nat→List D} (hn:n=n') (hf:∀ i,i < n→uU (f i) (f' i)) (y:Option (Option (Nat × Nat))) (h:fT w S μ (.row e k n f) y):fT w S μ (.row e k n' f') y:=by
 subst hn
 cases y with
 | none=>exact h
 | some y =>
  cases y with
  | none=>exact h
  | some gc =>
   obtain ⟨g,c⟩:=gc
   obtain ⟨cur,q1,q2,q3,q4,q5,q6⟩:=h.at
   refine cD.ok ⟨cur,q1,q2,q3,q4,q5,fun i hi=>?_⟩
   obtain ⟨z1,z2⟩:=q6 i hi
   refine ⟨(hf i hi).1 ▸ z1,fun j hj=>?_⟩
   obtain ⟨x,x1,x2⟩:=z2 j hj
   exact ⟨x,x1,(hf i hi).2 j (by omega) _ _ _ x2⟩
theorem R7 {c:qc} {r r':R} (h:MV c r=some r') (bH:r'.ob.den):r.ob.den∧r'.ro=r.ro∧r'.mem=r.mem∧r'.eu.map (·.1)=r.eu.map (·.1) ∧
  ∀ {A:M} {dst:Option Nat} {need:List (Nat × AV)} {gs:List (Nat × Bool)} {a:Act} {w:World} {S:Nat→Prop} {μ:Mu} {ν:Nat→Bool},cE C ((Tr.mk need dst r.v r.ro r.mem r.eu gs).apply A) a w S μ ν→cE C ((Tr.mk need dst r'.v r'.ro r'.mem r'.eu gs).apply A) a w S μ ν:=by
 obtain ⟨cn,ce⟩:=c.eq
 obtain ⟨v,ro,mem,eu,ob⟩:=r
 unfold MV at h
 split at h
 ·rename_i κ e k n f iG
  dsimp only at iG
  subst iG
  have blk:n=c.n→f=c.f→∀ {A:M} {dst:Option Nat} {need:List (Nat × AV)} {gs:List (Nat × Bool)} {a:Act} {w:World} {S:Nat→Prop} {μ:Mu} {ν:Nat→Bool} {x y:AV},(∀ v,Rel w S μ ν x v→Rel w S μ ν y v)→cE C ((Tr.mk need dst x ro mem [(κ,.row e k n f)] gs).apply A) a w S μ ν→cE C ((Tr.mk need dst y ro mem [(κ,.row e k c.n' c.f')] gs).apply A) a w S μ ν:=by
   intro hn hf A dst need gs a w S μ ν x y hxy hs
   refine hs.weaken (fun t v hv=>?_) (fun κ' b' kC=>?_)
   ·simp only [Tr.apply] at hv ⊢
    split
    ·rename_i hd
     simp only [hd,if_true] at hv
     exact hxy v hv
    ·rename_i hd
     simp only [hd,if_false] at hv
     exact hv
   ·simp only [Tr.apply,TY] at kC ⊢
    by_cases hk:κ=κ'
    ·subst hk
     simp only [if_true,Option.some.injEq] at kC ⊢
     subst kC
     exact ⟨_,rfl,fun y=>TZ (hn.trans cn) (fun i hi=>by rw [hf]; exact ce i (by omega)) y⟩
    ·simp only [hk,if_false] at kC ⊢
     exact ⟨b',kC,fun _ h=>h⟩
  split at h
  ·rename_i κ' m hv
   dsimp only at hv
   subst hv
   cases hb:Nat.beq κ' κ with
   | false=>rw [hb] at h; cases h
   | true =>
    rw [hb] at h
    simp only [cond_true,Option.some.injEq] at h
    subst h
    obtain ⟨o1,o2⟩:=Ob.cg bH
    obtain ⟨o3,o4⟩:=Ob.cg o2
    obtain ⟨o5,o6⟩:=Ob.cg o4
    have o3:m=c.n:=o3
    refine ⟨o1,rfl,rfl,rfl,fun hs=>blk o5 o6 (fun v hv=>?_) hs⟩
    rw [o3,cn] at hv
    exact hv
  ·rename_i hv
   dsimp only at hv
   subst hv
   simp only [Option.some.injEq] at h
   subst h
   obtain ⟨o1,o2⟩:=Ob.cg bH
   obtain ⟨o5,o6⟩:=Ob.cg o2
   exact ⟨o1,rfl,rfl,rfl,fun hs=>blk o5 o6 (fun v hv=>hv) hs⟩
  ·cases h
 ·rename_i iG
  dsimp only at iG
  subst iG
  split at h
  ·rename_i n f hv
   dsimp only at hv
   subst hv
   simp only [Option.some.injEq] at h
   subst h
   obtain ⟨o1,o2⟩:=Ob.cg bH
   obtain ⟨o5,o6⟩:=Ob.cg o2
   have o5:n=c.n:=o5
   have o6:f=c.f:=o6
   refine ⟨o1,rfl,rfl,rfl,fun hs=>?_⟩
   refine hs.weaken (fun t v hv=>?_) (fun κ' b' kC=>⟨b',kC,fun _ h=>h⟩)
   simp only [Tr.apply] at hv ⊢
   split
   ·rename_i hd
    simp only [hd,if_true] at hv
    exact .d (pQ.slc (o5.trans cn) (fun i hi=>by rw [o6]; exact ce i (by omega)) _ _ _ (gq.1 hv))
   ·rename_i hd
    simp only [hd,if_false] at hv
    exact hv
  ·cases h
 ·cases h
theorem Xm {n n':Nat} {f f':Nat→Value × D} (hn:n=n') (hf:∀ i,i < n→f i=f' i) (y:Option (Option (Nat × Nat))) (h:fT w S μ (.mp n f) y):fT w S μ (.mp n' f') y:=by
 subst hn
 cases y with
 | none=>exact h
 | some y =>
  cases y with
  | none=>exact h
  | some gc =>
   obtain ⟨g,c⟩:=gc
   obtain ⟨cur,q1,q2,q3,q4⟩:=h.at
   refine cD.ok ⟨cur,q1,q2,q3,fun i hi=>?_⟩
   rw [← hf i hi]
   exact q4 i hi
theorem R8 {c:AR} {r r':R} (h:MW c r=some r') (bH:r'.ob.den):r.ob.den∧r'.ro=r.ro∧r'.mem=r.mem∧r'.eu.map (·.1)=r.eu.map (·.1) ∧
  ∀ {A:M} {dst:Option Nat} {need:List (Nat × AV)} {gs:List (Nat × Bool)} {a:Act} {w:World} {S:Nat→Prop} {μ:Mu} {ν:Nat→Bool},cE C ((Tr.mk need dst r.v r.ro r.mem r.eu gs).apply A) a w S μ ν→cE C ((Tr.mk need dst r'.v r'.ro r'.mem r'.eu gs).apply A) a w S μ ν:=by
 obtain ⟨cn,ce⟩:=c.eq
 obtain ⟨v,ro,mem,eu,ob⟩:=r
 unfold MW at h
 split at h
 ·rename_i κ n f iG
  dsimp only at iG
  subst iG
  split at h
  ·rename_i hv
   dsimp only at hv
   subst hv
   simp only [Option.some.injEq] at h
   subst h
   obtain ⟨o1,o2⟩:=Ob.cg bH
   obtain ⟨o5,o6⟩:=Ob.cg o2
   have o5:n=c.n:=o5
   have o6:f=c.f:=o6
   refine ⟨o1,rfl,rfl,rfl,fun hs=>?_⟩
   refine hs.weaken (fun t v hv=>hv) (fun κ' b' kC=>?_)
   simp only [Tr.apply,TY] at kC ⊢
   by_cases hk:κ=κ'
   ·subst hk
    simp only [if_true,Option.some.injEq] at kC ⊢
    subst kC
    exact ⟨_,rfl,fun y=>Xm (o5.trans cn) (fun i hi=>by rw [o6]; exact ce i (by omega)) y⟩
   ·simp only [hk,if_false] at kC ⊢
    exact ⟨b',kC,fun _ h=>h⟩
  ·rename_i hv
   dsimp only at hv
   subst hv
   simp only [Option.some.injEq] at h
   subst h
   obtain ⟨o1,o2⟩:=Ob.cg bH
   obtain ⟨o5,o6⟩:=Ob.cg o2
   have o5:n=c.n:=o5
   have o6:f=c.f:=o6
   refine ⟨o1,rfl,rfl,rfl,fun hs=>?_⟩
   refine hs.weaken (fun t v hv=>hv) (fun κ' b' kC=>?_)
   simp only [Tr.apply,TY] at kC ⊢
   by_cases hk:κ=κ'
   ·subst hk
    simp only [if_true,Option.some.injEq] at kC ⊢
    subst kC
    exact ⟨_,rfl,fun y=>Xm (o5.trans cn) (fun i hi=>by rw [o6]; exact ce i (by omega)) y⟩
   ·simp only [hk,if_false] at kC ⊢
    exact ⟨b',kC,fun _ h=>h⟩
  ·cases h
 ·cases h
theorem R9 {c:MS} {r:R} (bH:(Xl c r).ob.den):r.ob.den ∧
  ∀ {A:M} {dst:Option Nat} {need:List (Nat × AV)} {gs:List (Nat × Bool)} {a:Act} {w:World} {S:Nat→Prop} {μ:Mu} {ν:Nat→Bool},cE C ((Tr.mk need dst r.v r.ro r.mem r.eu gs).apply A) a w S μ ν→cE C ((Tr.mk need dst c.y r.ro r.mem r.eu gs).apply A) a w S μ ν:=by
 obtain ⟨o1,o2⟩:=Ob.cg bH
 have o2:r.v=c.x:=o2
 refine ⟨o1,fun hs=>?_⟩
 refine hs.weaken (fun t v hv=>?_) (fun κ' b' kC=>⟨b',kC,fun _ h=>h⟩)
 simp only [Tr.apply] at hv ⊢
 split
 ·rename_i hd
  simp only [hd,if_true] at hv
  rw [o2] at hv
  exact c.le _ _ _ _ _ hv
 ·rename_i hd
  simp only [hd,if_false] at hv
  exact hv
theorem Pm {T:List (Nat × TI)} (hT:la C.P T) (hs:cE C A a w S μ ν) {lb:List (Nat × ba)} {o:Oper} {ρ:Operand→Option AV} (hρ:∀ x y,ρ x=some y→Rel w S μ ν y (a.eval x)) (hd:∀ t,o.dst=some t→t < C.nt) {quiet:Bool} {ij qp:List yn} {r:R}
  (h:TW C.P T lb ρ o.dst quiet ij o.op=some (r,qp)) (kB:∀ p,p∈r.ro→A.lb p.1=some p.2) (iG:∀ p,p∈r.mem→A.lb p.1=some p.2) (bH:r.ob.den) (tR:∀ κ,κ∈(r.eu.map (·.1)).filter (fun k=>!(r.mem.map (·.1)).contains k)→iC A κ) (need:List (Nat × AV)) (gs:List (Nat × Bool)) :
  o.wp C.P a w (fun a' w'=>∃ S' μ',cE C ((Tr.mk need o.dst r.v r.ro r.mem r.eu gs).apply A) a' w' S' μ' ν) (fun _ _ _=>False):=by
 unfold TW at h
 split at h
 ·rename_i r0 Ic h0
  split at h
  ·rename_i c Pl _
   split at h
   ·rename_i r' hn
    simp only [Option.some.injEq,Prod.mk.injEq] at h
    obtain ⟨rfl,-⟩:=h
    obtain ⟨o1,e1,e2,e3,cG⟩:=R7 (C:=C) hn bH
    rw [e3,e2] at tR
    rw [e1] at kB
    rw [e2] at iG
    exact Oper.wp_mono (fun a' w' hh=>let ⟨S',μ',hh⟩:=hh; ⟨S',μ',cG hh⟩) (iZ hT hs hρ hd h0 kB iG o1 tR need gs)
   ·simp only [Option.some.injEq,Prod.mk.injEq] at h
    obtain ⟨rfl,-⟩:=h
    exact iZ hT hs hρ hd h0 kB iG bH tR need gs
  ·split at h
   ·rename_i r' hn
    simp only [Option.some.injEq,Prod.mk.injEq] at h
    obtain ⟨rfl,-⟩:=h
    obtain ⟨o1,e1,e2,e3,cG⟩:=R8 (C:=C) hn bH
    rw [e3,e2] at tR
    rw [e1] at kB
    rw [e2] at iG
    exact Oper.wp_mono (fun a' w' hh=>let ⟨S',μ',hh⟩:=hh; ⟨S',μ',cG hh⟩) (iZ hT hs hρ hd h0 kB iG o1 tR need gs)
   ·simp only [Option.some.injEq,Prod.mk.injEq] at h
    obtain ⟨rfl,-⟩:=h
    exact iZ hT hs hρ hd h0 kB iG bH tR need gs
  ·split at h
   ·generalize Nat.beq _ _=bb at h
    cases bb with
    | false =>
     simp only [cond_false,Option.some.injEq,Prod.mk.injEq] at h
     obtain ⟨rfl,-⟩:=h
     exact iZ hT hs hρ hd h0 kB iG bH tR need gs
    | true =>
     simp only [cond_true,Option.some.injEq,Prod.mk.injEq] at h
     obtain ⟨rfl,-⟩:=h
     obtain ⟨o1,cG⟩:=R9 (C:=C) bH
     exact Oper.wp_mono (fun a' w' hh=>let ⟨S',μ',hh⟩:=hh; ⟨S',μ',cG hh⟩) (iZ hT hs hρ hd h0 kB iG o1 tR need gs)
   ·simp only [Option.some.injEq,Prod.mk.injEq] at h
    obtain ⟨rfl,-⟩:=h
    exact iZ hT hs hρ hd h0 kB iG bH tR need gs
  ·simp only [Option.some.injEq,Prod.mk.injEq] at h
   obtain ⟨rfl,-⟩:=h
   exact iZ hT hs hρ hd h0 kB iG bH tR need gs
 ·cases h
end
def VY (q p:List (Nat × Bool)):Bool:=q.all fun y=>p.any fun z=>Nat.beq y.1 z.1&&(y.2 == z.2)

def X6 (p:List (Nat × Bool)):AV→Option AV
  | .g q a=>bif VY q p then some a else none
  | x=>some x

def MZ (need:List (Nat × AV)) (p:List (Nat × Bool)):Operand→Option AV
  | .tmp t=>(match look need t with | some x=>X6 p x | none=>none)
  | .const v=>ofConst v
  | .func f=>some (.fn f [])
  | .global g=>(match look zl.gl g with | some cs=>some (.ref cs) | none=>none)

def T1:AV→Option (List (Nat × Bool) × Bool)
  | .d (.v (.bool e))=>some ([],e)
  | .g q (.d (.v (.bool e)))=>some (q,e)
  | _=>none

structure St where
  sl:List (Nat × AV)
  lb:List (Nat × ba)

def St.get (sl:List (Nat × AV)) (t:Nat):AV:=match look sl t with | some x=>x | none=>.any

def St.eE (st:St):M:={ sl:=St.get st.sl,lb:=look st.lb }

def slotsOf:List Operand→List Nat
  | []=>[]
  | .tmp t :: r=>t :: slotsOf r
  | _ :: r=>slotsOf r

def oa (sl:List (Nat × AV)):List Nat→List (Nat × AV)
  | []=>[]
  | t :: r=>(t,St.get sl t) :: oa sl r

/-- a bool on aaj others adI is ads -/
def Sa (gl:List (Nat × Bool)) (s:Nat) (e:Bool):List (Nat × Bool) × Ob :=
  match look gl s with
  | some e'=>(gl,.be e e')
  | none=>(gl++[(s,e)],.tt)

def KV (gl:List (Nat × Bool)):List Nat→List (Nat × Bool)
  | []=>[]
  | s :: r=>(match look gl s with | some e=>(s,e) :: KV gl r | none=>KV gl r)

def wZ (gl:List (Nat × Bool)):List (Nat × Bool)→Ob→Ob
  | [],ob=>ob
  | (s,w) :: r,ob=>(match look gl s with | some e=>(wZ gl r ob).imp e w | none=>wZ gl r ob)

def AU (p:List (Nat × Bool)) (v:AV):AV:=match p with | []=>v | _ :: _=>.g p v

def yo (ops:Array Oper) (j:Nat):Option Nat:=match ops[j]? with | some o=>o.dst | none=>none

/-- JS adt on aaj an operation adu -/
def pathOf (nt:Nat) (ops:Array Oper) (sl:List (Nat × AV)) (gl:List (Nat × Bool)):Option (Nat × Bool)→Option (List (Nat × Bool) × List Nat × List (Nat × Bool) × Ob)
  | none=>some ([],[],gl,.tt)
  | some (j,want)=>(match yo ops j with
    | some s=>bif Nat.ble (s+1) nt then (match T1 (St.get sl s) with
      | some (q,e)=>(match Sa gl s e with | (M0,ob)=>some (q++[(s,want)],[s],M0,ob))
      | none=>none) else none
    | none=>none)

def T2 (need:List (Nat × AV)) (p:List (Nat × Bool)) (c x y:Operand):Option (Nat × Bool × Bool × Bool) :=
  match c with
  | .tmp s=>(match MZ need p c,MZ need ((s,true) :: p) x,MZ need ((s,false) :: p) y with
    | some (.d (.v (.bool e))),some (.d (.v (.bool ex))),some (.d (.v (.bool ey)))=>some (s,e,ex,ey)
    | _,_,_=>none)
  | _=>none

def Pn (P:Program) (T:List (Nat × TI)) (nt:Nat) (ops:Array Oper) (st:St) (gl:List (Nat × Bool)) (ij:List yn) (o:Oper):Option (Tr × List (Nat × Bool) × List yn × Ob) :=
  match pathOf nt ops st.sl gl o.guard,(match o.dst with | some d=>Nat.ble (d+1) nt | none=>true) with
  | some (p,ss,T3,yJ),true =>
    (match o.op with
    | .pick c x y=>(match T2 (oa st.sl (ss++slotsOf [c,x,y])) p c x y with
      | some (s,e,ex,ey)=>(match Sa T3 s e with
        | (ZC,D5)=>some (⟨oa st.sl (ss++slotsOf [c,x,y]),o.dst,AU p (.d (.v (.bool (bif e then ex else ey)))),[],[],[],KV ZC (s :: p.map (·.1))⟩,ZC,ij,yJ.and D5))
      | none=>none)
    | op=>(match TW P T st.lb (MZ (oa st.sl (ss++slotsOf op.operands.toList)) p) o.dst (!p.isEmpty) ij op with
      | some (r,qp)=>some (⟨oa st.sl (ss++slotsOf op.operands.toList),o.dst,AU p r.v,r.ro,r.mem,r.eu,KV T3 (p.map (·.1))⟩,T3,qp,yJ.and (wZ T3 p r.ob))
      | none=>none))
  | _,_=>none

def aL {α:Type} (ks:List Nat):List (Nat × α)→List (Nat × α)
  | []=>[]
  | (k,x) :: r=>bif ks.any (fun q=>Nat.beq q k) then aL ks r else (k,x) :: aL ks r

def St.apply (st:St) (τ:Tr):St :=
  { sl:=match τ.dst with | some d=>(d,τ.v) :: aL [d] st.sl | none=>st.sl
    lb:=match τ.mem,τ.eu with | [],[]=>st.lb | m,m'=>m'++aL (m.map (·.1)) st.lb }

def M1 (P:Program) (T:List (Nat × TI)) (nt:Nat) (ops:Array Oper):List Oper→St→List (Nat × Bool)→List yn→Option (List Tr × St × List (Nat × Bool) × List yn × Ob)
  | [],st,gl,ij=>some ([],st,gl,ij,.tt)
  | o :: r,st,gl,ij=>(match Pn P T nt ops st gl ij o with
    | some (τ,M0,qp,ob)=>(match M1 P T nt ops r (st.apply τ) M0 qp with
      | some (l,st',acb,aak,AE)=>some (τ :: l,st',acb,aak,ob.and AE)
      | none=>none)
    | none=>none)

def KW (st:St) (κ:Nat):Bool:=st.sl.all (fun p=>!p.2.keys.any (fun k=>Nat.beq k κ))&&st.lb.all (fun p=>!Nat.beq p.1 κ&&!p.2.keys.any (fun k=>Nat.beq k κ))

def Xn (keep:Option (List Nat)) (t:Nat):Bool:=match keep with | some l=>l.any (fun k=>Nat.beq k t) | none=>true

def T4 (draw:Bool) (ops:Array Oper) (sm:List Tr):Bool:=match draw with | true=>Mo ops sm | false=>wM sm

def vY (keep:Option (List Nat)):List (Nat × AV)→List (Nat × AV)
  | []=>[]
  | (t,x) :: r=>bif so x&&Xn keep t then (t,x) :: vY keep r else vY keep r

def qN:List (Nat × AV)→Bool
  | []=>true
  | (t,_) :: r=>r.all (fun p=>!Nat.beq p.1 t)&&qN r

/-- a region: JS state behind it,and Ca abV hold -/
def mR (P:Program) (T:List (Nat × TI)) (nt:Nat) (ops:Array Oper) (draw:Bool) (keep:Option (List Nat)) (st:St) (ij:List yn):Option (St × Ob) :=
  match M1 P T nt ops ops.toList st [] ij with
  | some (sm,st',_,[],ob)=>bif T4 draw ops sm&&sm.all (fun τ=>τ.created.all (KW st))&&qN st'.sl then some (⟨vY keep st'.sl,st'.lb⟩,ob) else none
  | _=>none

/-! ZD -/

theorem bq {α:Type} (k:Nat) (x:α) (r:List (Nat × α)) (t:Nat):look ((k,x) :: r) t=if k=t then some x else look r t:=by
  simp only [look]
  cases hb:Nat.beq k t with
  | true=>simp [Nat.eq_of_beq_eq_true hb]
  | false =>
    have:¬ k=t:=fun e=>by rw [e,Nat.beq_refl] at hb; cases hb
    simp [this]

theorem sD {α:Type} (l r:List (Nat × α)) (t:Nat):look (l++r) t=match look l t with | some x=>some x | none=>look r t:=by
  induction l with
  | nil=>rfl
  | cons p l ih =>
    obtain ⟨k,x⟩:=p
    simp only [List.cons_append,bq]
    split
    · rfl
    · exact ih

theorem kh {α:Type} (ks:List Nat) (l:List (Nat × α)) (t:Nat):look (aL ks l) t=if t∈ks then none else look l t:=by
  induction l with
  | nil=>simp [aL,look]
  | cons p l ih =>
    obtain ⟨k,x⟩:=p
    simp only [aL]
    cases hb:ks.any (fun q=>Nat.beq q k) with
    | true =>
      simp only [cond_true]
      rw [ih,bq]
      have hk:k∈ks:=by
        obtain ⟨q,hq,he⟩:=List.any_eq_true.1 hb
        rw [← Nat.eq_of_beq_eq_true he]
        exact hq
      by_cases c:k=t
      · subst c; simp [hk]
      · simp [c]
    | false =>
      simp only [cond_false,bq]
      have hk:k ∉ ks:=fun hc=>by
        have:ks.any (fun q=>Nat.beq q k)=true:=List.any_eq_true.2 ⟨k,hc,Nat.beq_refl k⟩
        rw [this] at hb
        cases hb
      by_cases c:k=t
      · subst c; simp [hk]
      · simp only [c,if_false]
        exact ih

theorem Fa (d:Nat) (v:AV) (sl:List (Nat × AV)) (t:Nat):St.get ((d,v) :: aL [d] sl) t=if d=t then v else St.get sl t:=by
  unfold St.get
  rw [bq]
  by_cases c:d=t
  · simp [c]
  · simp only [c,if_false]
    rw [kh]
    have:t ∉ [d]:=by simp; exact fun e=>c e.symm
    simp [this]

theorem St.Sb (st:St) (τ:Tr):(st.apply τ).eE=τ.apply st.eE:=by
  unfold St.apply St.eE Tr.apply
  have e1:(St.get (match τ.dst with | some d=>(d,τ.v) :: aL [d] st.sl | none=>st.sl))=fun t=>if τ.dst=some t then τ.v else St.get st.sl t:=by
    funext t
    cases hd:τ.dst with
    | none=>simp
    | some d =>
      simp only [Option.some.injEq]
      exact Fa d τ.v st.sl t
  have e2:look (match τ.mem,τ.eu with | [],[]=>st.lb | m,m'=>m'++aL (m.map (·.1)) st.lb)=fun k=>match look τ.eu k with | some b=>some b | none=>if k∈τ.mem.map (·.1) then none else look st.lb k:=by
    funext k
    split
    · rename_i h1 h2
      simp [h1,h2,look]
    · rw [sD,kh]
      cases look τ.eu k <;> simp
  show M.mk (St.get _) (look _)=_
  rw [e1,e2]
  rfl

/-! JS blocks O9 an operation names are aal O9 it has looked up -/

theorem DD {lb:List (Nat × ba)} {x:AV} {cs:List AV} {ro:List (Nat × ba)} {ob:Ob} (h:mP lb x=some (cs,ro,ob)):∀ p,p∈ro→look lb p.1=some p.2:=by
  unfold mP at h
  split at h
  · split at h
    · rename_i hl
      simp only [Option.some.injEq,Prod.mk.injEq] at h
      obtain ⟨-,rfl,-⟩:=h
      intro p hp
      simp only [List.mem_singleton] at hp
      subst hp
      exact hl
    · cases h
  · rename_i key k i off
    split at h
    · rename_i e k' n f hl
      cases hb:Nat.beq k k' with
      | false=>rw [hb] at h; cases h
      | true =>
        rw [hb] at h
        simp only [cond_true,Option.some.injEq,Prod.mk.injEq] at h
        obtain ⟨-,rfl,-⟩:=h
        intro p hp
        simp only [List.mem_singleton] at hp
        subst hp
        exact hl
    · cases h
  · simp only [Option.some.injEq,Prod.mk.injEq] at h
    obtain ⟨-,rfl,-⟩:=h
    intro p hp
    cases hp
  · cases h

theorem bB {lb ro:List (Nat × ba)} (h:ro=[]):∀ p,p∈ro→look lb p.1=some p.2:=fun p hp=>by subst h; cases hp

theorem X7 {T:List (Nat × TI)} {lb:List (Nat × ba)} {ρ:Operand→Option AV} {o:Op} {v:AV} {ro:List (Nat × ba)} {ob:Ob} (h:Zu T lb ρ o=some (v,ro,ob)):∀ p,p∈ro→look lb p.1=some p.2:=by
  have Po:∀ {x:AV},ok x=some (v,ro,ob)→ro=[]:=fun h=>by simp only [ok,Option.some.injEq,Prod.mk.injEq] at h; exact h.2.1.symm
  unfold Zu at h
  split at h
  · split at h
    · exact bB (Po h)
    · cases h
  · split at h
    · exact bB (Po h)
    · cases h
  · split at h
    · split at h
      · rename_i hc
        split at h
        · simp only [Option.some.injEq,Prod.mk.injEq] at h
          obtain ⟨-,rfl,-⟩:=h
          exact DD hc
        · cases h
      · cases h
    · cases h
  · split at h
    · unfold E3 at h
      split at h
      · split at h <;> first | exact bB (Po h) | cases h
      · cases h
    · cases h
  · split at h
    · unfold KK at h
      split at h
      · split at h
        · split at h
          · split at h
            · exact bB (Po h)
            · cases h
          · cases h
        · cases h
      · cases h
    · cases h
  · split at h
    · unfold sB at h
      split at h
      · split at h
        · split at h
          · rename_i ie _ n _ m f _ _ _
            generalize hb:Nat.beq _ _=bb at h
            cases bb with
            | false=>cases h
            | true =>
              simp only [cond_true,Option.some.injEq,Prod.mk.injEq] at h
              exact bB h.2.1.symm
          · simp only [Option.some.injEq,Prod.mk.injEq] at h
            exact bB h.2.1.symm
          · cases h
        · cases h
      · cases h
    · cases h
  · split at h
    · unfold E4 at h
      split at h
      · simp only [Option.some.injEq,Prod.mk.injEq] at h
        exact bB h.2.1.symm
      · cases h
    · cases h
  · split at h
    · unfold QL at h
      split at h
      · split at h
        · simp only [Option.some.injEq,Prod.mk.injEq] at h
          exact bB h.2.1.symm
        · simp only [Option.some.injEq,Prod.mk.injEq] at h
          exact bB h.2.1.symm
        · cases h
      · split at h
        · simp only [Option.some.injEq,Prod.mk.injEq] at h
          exact bB h.2.1.symm
        · cases h
      · split at h
        · exact bB (Po h)
        · cases h
      · cases h
    · cases h
  · split at h
    · unfold VK at h
      split at h <;> first | exact bB (Po h) | cases h
    · cases h
  · split at h
    · unfold Pb at h
      split at h
      · exact bB (Po h)
      · cases h
    · cases h
  · split at h
    · unfold yk at h
      split at h
      · split at h
        · exact bB (Po h)
        · cases h
      · cases h
    · cases h
  · unfold E5 at h
    split at h
    · split at h
      · split at h
        · exact bB (Po h)
        · cases h
      · cases h
    · cases h
  · split at h
    · exact bB (Po h)
    · cases h
  · split at h
    · unfold E6 at h
      split at h
      · unfold u1 at h
        split at h <;> first | exact bB (Po h) | (simp only [Option.some.injEq,Prod.mk.injEq] at h; exact bB h.2.1.symm) | cases h
      · split at h
        · unfold ym at h
          split at h <;> first | (simp only [Option.some.injEq,Prod.mk.injEq] at h; exact bB h.2.1.symm) | cases h
        · cases h
      · split at h
        · unfold u9 at h
          split at h
          · generalize (_&&_&&_:Bool)=bb at h
            cases bb with
            | false=>cases h
            | true=>exact bB (Po h)
          · cases h
        · cases h
      · cases h
    · cases h
  · split at h
    · unfold QM at h
      split at h <;> first | exact bB (Po h) | cases h
    · cases h
  · split at h
    · unfold Cc at h
      split at h
      · split at h
        · exact bB (Po h)
        · cases h
      · cases h
    · cases h
  · split at h
    · unfold Cc at h
      split at h
      · split at h
        · exact bB (Po h)
        · cases h
      · cases h
    · cases h
  · cases h

theorem Q0 {lb:List (Nat × ba)} {x:AV} {y:D} {ro:List (Nat × ba)} {ob:Ob} (h:KM lb x=some (y,ro,ob)):∀ p,p∈ro→look lb p.1=some p.2:=by
  unfold KM at h
  split at h
  · simp only [Option.some.injEq,Prod.mk.injEq] at h
    exact bB h.2.1.symm
  · simp only [Option.some.injEq,Prod.mk.injEq] at h
    exact bB h.2.1.symm
  · split at h
    · rename_i hl
      simp only [Option.some.injEq,Prod.mk.injEq] at h
      obtain ⟨-,rfl,-⟩:=h
      intro p hp
      simp only [List.mem_singleton] at hp
      subst hp
      exact hl
    · cases h
  · cases h

theorem FT {lb:List (Nat × ba)}:∀ {xs:List AV} {ys:List D} {ro:List (Nat × ba)} {ob:Ob},zn lb xs=some (ys,ro,ob)→∀ p,p∈ro→look lb p.1=some p.2
  | [],ys,ro,ob,h=>by simp only [zn,Option.some.injEq,Prod.mk.injEq] at h; exact bB h.2.1.symm
  | x :: r,ys,ro,ob,h=>by
    simp only [zn] at h
    split at h
    · rename_i h1 h2
      simp only [Option.some.injEq,Prod.mk.injEq] at h
      obtain ⟨-,rfl,-⟩:=h
      intro p hp
      rcases List.mem_append.1 hp with hp | hp
      · exact Q0 h1 p hp
      · exact FT h2 p hp
    · cases h

theorem M3 {lb:List (Nat × ba)} {x y:AV} {ro:List (Nat × ba)} {ob:Ob} (h:wW lb x=some (y,ro,ob)):∀ p,p∈ro→look lb p.1=some p.2:=by
  unfold wW at h
  split at h
  · simp only [Option.some.injEq,Prod.mk.injEq] at h
    exact bB h.2.1.symm
  · split at h
    · rename_i hl
      split at h
      · rename_i hb
        simp only [Option.some.injEq,Prod.mk.injEq] at h
        obtain ⟨-,rfl,-⟩:=h
        intro p hp
        rcases List.mem_cons.1 hp with rfl | hp
        · exact hl
        · exact FT hb p hp
      · cases h
    · cases h
  · split at h
    · rename_i hb
      simp only [Option.some.injEq,Prod.mk.injEq] at h
      obtain ⟨-,rfl,-⟩:=h
      exact FT hb
    · cases h
  · split at h
    · rename_i hl
      simp only [Option.some.injEq,Prod.mk.injEq] at h
      obtain ⟨-,rfl,-⟩:=h
      intro p hp
      simp only [List.mem_singleton] at hp
      subst hp
      exact hl
    · simp only [Option.some.injEq,Prod.mk.injEq] at h
      exact bB h.2.1.symm
    · cases h
  · simp only [Option.some.injEq,Prod.mk.injEq] at h
    exact bB h.2.1.symm
  · split at h
    · rename_i hb
      simp only [Option.some.injEq,Prod.mk.injEq] at h
      obtain ⟨-,rfl,-⟩:=h
      exact Q0 hb
    · cases h

theorem J0 {lb:List (Nat × ba)}:∀ {xs ys:List AV} {ro:List (Nat × ba)} {ob:Ob},vd lb xs=some (ys,ro,ob)→∀ p,p∈ro→look lb p.1=some p.2
  | [],ys,ro,ob,h=>by simp only [vd,Option.some.injEq,Prod.mk.injEq] at h; exact bB h.2.1.symm
  | x :: r,ys,ro,ob,h=>by
    simp only [vd] at h
    split at h
    · rename_i h1 h2
      simp only [Option.some.injEq,Prod.mk.injEq] at h
      obtain ⟨-,rfl,-⟩:=h
      intro p hp
      rcases List.mem_append.1 hp with hp | hp
      · exact M3 h1 p hp
      · exact J0 h2 p hp
    · cases h

theorem VZ {lb:List (Nat × ba)} {x y:AV} {ro:List (Nat × ba)} {ob:Ob} (h:wv lb x=some (y,ro,ob)):∀ p,p∈ro→look lb p.1=some p.2:=by
  unfold wv at h
  split at h
  · split at h
    · rename_i hb
      simp only [Option.some.injEq,Prod.mk.injEq] at h
      obtain ⟨-,rfl,-⟩:=h
      exact J0 hb
    · cases h
  · exact M3 h

theorem FU {lb:List (Nat × ba)}:∀ {xs ys:List AV} {ro:List (Nat × ba)} {ob:Ob},tW lb xs=some (ys,ro,ob)→∀ p,p∈ro→look lb p.1=some p.2
  | [],ys,ro,ob,h=>by simp only [tW,Option.some.injEq,Prod.mk.injEq] at h; exact bB h.2.1.symm
  | x :: r,ys,ro,ob,h=>by
    simp only [tW] at h
    split at h
    · rename_i h1 h2
      simp only [Option.some.injEq,Prod.mk.injEq] at h
      obtain ⟨-,rfl,-⟩:=h
      intro p hp
      rcases List.mem_append.1 hp with hp | hp
      · exact VZ h1 p hp
      · exact FU h2 p hp
    · cases h

theorem zM {lb:List (Nat × ba)}:∀ {ks:List Nat} {l:List (Nat × ba)},looks lb ks=some l→∀ p,p∈l→look lb p.1=some p.2
  | [],l,h=>by simp only [looks,Option.some.injEq] at h; exact bB h.symm
  | k :: r,l,h=>by
    simp only [looks] at h
    split at h
    · rename_i h1 h2
      simp only [Option.some.injEq] at h
      subst h
      intro p hp
      rcases List.mem_cons.1 hp with rfl | hp
      · exact h1
      · exact zM h2 p hp
    · cases h

theorem M4 {P:Program} {T:List (Nat × TI)} {lb:List (Nat × ba)} {ρ:Operand→Option AV} {dst:Option Nat} {quiet:Bool} {ij qp:List yn} {op:Op} {r:R} (h:MT P T lb ρ dst quiet ij op=some (r,qp)) :
    (∀ p,p∈r.ro→look lb p.1=some p.2)∧(∀ p,p∈r.mem→look lb p.1=some p.2)∧(quiet=true→r.mem=[]∧r.eu=[]):=by
  have one:∀ {κ:Nat} {b:ba},look lb κ=some b→∀ p,p∈[(κ,b)]→look lb p.1=some p.2:=fun hl p hp=>by
    simp only [List.mem_singleton] at hp
    subst hp
    exact hl
  unfold MT at h
  split at h
  · split at h
    · simp only [Option.some.injEq,Prod.mk.injEq] at h
      obtain ⟨rfl,-⟩:=h
      exact ⟨bB rfl,bB rfl,fun hq=>(by cases hq)⟩
    · cases h
  · split at h
    · split at h
      · split at h
        · simp only [Option.some.injEq,Prod.mk.injEq] at h
          obtain ⟨rfl,-⟩:=h
          exact ⟨bB rfl,bB rfl,fun hq=>(by cases hq)⟩
        generalize (so.lx _&&_)=bb at h
        cases bb with
        | false=>cases h
        | true =>
          simp only [cond_true,Option.some.injEq,Prod.mk.injEq] at h
          obtain ⟨rfl,-⟩:=h
          exact ⟨bB rfl,bB rfl,fun hq=>(by cases hq)⟩
      · cases h
    · cases h
  · split at h
    · split at h
      · simp only [Option.some.injEq,Prod.mk.injEq] at h
        obtain ⟨rfl,-⟩:=h
        exact ⟨bB rfl,bB rfl,fun _=>⟨rfl,rfl⟩⟩
      · split at h
        · simp only [Option.some.injEq,Prod.mk.injEq] at h
          obtain ⟨rfl,-⟩:=h
          exact ⟨bB rfl,bB rfl,fun hq=>(by cases hq)⟩
        · cases h
    · cases h
  · split at h
    · split at h
      · rename_i r' kE
        simp only [Option.some.injEq,Prod.mk.injEq] at h
        obtain ⟨rfl,-⟩:=h
        refine ⟨?_,?_,fun hq=>(by cases hq)⟩
        all_goals
          unfold KT at kE
          split at kE
          · rename_i i xs hi hc
            split at kE
            · rename_i κ off
              split at kE
              · rename_i cs hl
                generalize (Nat.beq _ _&&_&&_&&_)=bb at kE
                cases bb with
                | false=>cases kE
                | true =>
                  simp only [cond_true,Option.some.injEq] at kE
                  subst kE
                  first | exact one hl | exact bB rfl
              · cases kE
            · split at kE
              · rename_i e k' n f ds hl hp
                generalize hb:(Nat.beq _ k'&&_&&_&&_)=bb at kE
                cases bb with
                | false=>cases kE
                | true =>
                  simp only [Bool.and_eq_true] at hb
                  have ek:=Nat.eq_of_beq_eq_true hb.1.1.1
                  subst ek
                  simp only [cond_true,Option.some.injEq] at kE
                  subst kE
                  first | exact one hl | exact bB rfl
              · cases kE
            · cases kE
          · cases kE
      · cases h
    · cases h
  · split at h
    · split at h
      · split at h
        · rename_i r' wJ
          simp only [Option.some.injEq,Prod.mk.injEq] at h
          obtain ⟨rfl,-⟩:=h
          have main:(∀ p,p∈r'.ro→look lb p.1=some p.2)∧(∀ p,p∈r'.mem→look lb p.1=some p.2):=by
            unfold FQ at wJ
            split at wJ
            · split at wJ
              · rename_i i hi
                split at wJ
                · rename_i m g ro ob jJ
                  have kB:∀ p,p∈ro→look lb p.1=some p.2:=by
                    unfold TS at jJ
                    split at jJ
                    · simp only [Option.some.injEq,Prod.mk.injEq] at jJ
                      exact bB jJ.2.2.1.symm
                    · simp only [Option.some.injEq,Prod.mk.injEq] at jJ
                      exact bB jJ.2.2.1.symm
                    · simp only [Option.some.injEq,Prod.mk.injEq] at jJ
                      exact bB jJ.2.2.1.symm
                    · split at jJ
                      · rename_i hl
                        generalize hb:Nat.beq _ _=bb at jJ
                        cases bb with
                        | false=>cases jJ
                        | true =>
                          simp only [cond_true,Option.some.injEq,Prod.mk.injEq] at jJ
                          obtain ⟨-,-,rfl,-⟩:=jJ
                          exact one hl
                      · cases jJ
                    · cases jJ
                  split at wJ
                  · simp only [Option.some.injEq] at wJ
                    subst wJ
                    exact ⟨kB,bB rfl⟩
                  · split at wJ
                    · rename_i hl
                      generalize (Nat.beq _ _&&_&&_)=bb at wJ
                      cases bb with
                      | false=>cases wJ
                      | true =>
                        simp only [cond_true,Option.some.injEq] at wJ
                        subst wJ
                        exact ⟨kB,one hl⟩
                    · cases wJ
                  · cases wJ
                · cases wJ
              · cases wJ
            · cases wJ
          exact ⟨main.1,main.2,fun hq=>(by cases hq)⟩
        · cases h
      · cases h
    · cases h
  · split at h
    · unfold Pk at h
      split at h
      · split at h
        · split at h
          · rename_i hb
            generalize eA _=bb at h
            cases bb with
            | false=>cases h
            | true =>
              simp only [cond_true,Option.some.injEq,Prod.mk.injEq] at h
              obtain ⟨rfl,-⟩:=h
              exact ⟨FU hb,bB rfl,fun _=>⟨rfl,rfl⟩⟩
          · cases h
        · cases h
      · rename_i hand res back R6
        split at h
        · split at h
          · rename_i cz uY
            generalize hb:(so.lx _&&E8 res back&&so res&&(!quiet||(hand.isEmpty&&back.isEmpty))&&back.all (fun p=>!hand.contains p.1))=bb at h
            cases bb with
            | false=>cases h
            | true =>
              simp only [cond_true,Option.some.injEq,Prod.mk.injEq] at h
              obtain ⟨rfl,-⟩:=h
              simp only [Bool.and_eq_true,Bool.or_eq_true,Bool.not_eq_true',List.isEmpty_iff] at hb
              refine ⟨bB rfl,zM uY,fun hq=>?_⟩
              rcases hb.1.2 with h1 | ⟨h1,h2⟩
              · rw [hq] at h1; cases h1
              · subst h1; subst h2
                simp only [looks,Option.some.injEq] at uY
                exact ⟨uY.symm,rfl⟩
          · cases h
        · cases h
      · rename_i κ b' R6
        split at h
        · split at h
          · rename_i b uY
            generalize hb:(so.lx _&&!quiet)=bb at h
            cases bb with
            | false=>cases h
            | true =>
              simp only [cond_true,Option.some.injEq,Prod.mk.injEq] at h
              obtain ⟨rfl,-⟩:=h
              simp only [Bool.and_eq_true,Bool.not_eq_true'] at hb
              refine ⟨bB rfl,fun p hp=>?_,fun hq=>?_⟩
              · have:p=(κ,b):=by simpa using hp
                subst this
                exact uY
              · rw [hq] at hb; cases hb.2
          · cases h
        · cases h
      · rename_i hand kD res back R6
        split at h
        · split at h
          · rename_i cz uY
            generalize hb:(so.lx _&&VW _ hand cz kD res back&&so res&&!quiet)=bb at h
            cases bb with
            | false=>cases h
            | true =>
              simp only [cond_true,Option.some.injEq,Prod.mk.injEq] at h
              obtain ⟨rfl,-⟩:=h
              simp only [Bool.and_eq_true,Bool.not_eq_true'] at hb
              exact ⟨bB rfl,zM uY,fun hq=>by rw [hq] at hb; cases hb.2⟩
          · cases h
        · cases h
      · cases h
    · cases h
  · split at h
    · split at h
      · simp only [Option.some.injEq,Prod.mk.injEq] at h
        obtain ⟨rfl,-⟩:=h
        exact ⟨bB rfl,bB rfl,fun hq=>(by cases hq)⟩
      · cases h
    · cases h
  · split at h
    · simp only [Option.some.injEq,Prod.mk.injEq] at h
      obtain ⟨rfl,-⟩:=h
      exact ⟨bB rfl,bB rfl,fun _=>⟨rfl,rfl⟩⟩
    · split at h
      · rename_i hv
        simp only [Option.some.injEq,Prod.mk.injEq] at h
        obtain ⟨rfl,-⟩:=h
        exact ⟨X7 hv,bB rfl,fun _=>⟨rfl,rfl⟩⟩
      · cases h

theorem M5 {P:Program} {T:List (Nat × TI)} {lb:List (Nat × ba)} {ρ:Operand→Option AV} {dst:Option Nat} {quiet:Bool} {ij qp:List yn} {op:Op} {r:R} (h:MU P T lb ρ dst quiet ij op=some (r,qp)) :
    (∀ p,p∈r.ro→look lb p.1=some p.2)∧(∀ p,p∈r.mem→look lb p.1=some p.2)∧(quiet=true→r.mem=[]∧r.eu=[]):=by
  unfold MU at h
  split at h
  · rename_i hm
    simp only [Option.some.injEq,Prod.mk.injEq] at h
    obtain ⟨rfl,-⟩:=h
    exact ⟨(FP hm).1,(FP hm).2.1,(FP hm).2.2.1⟩
  split at h
  · rename_i hm
    simp only [Option.some.injEq,Prod.mk.injEq] at h
    obtain ⟨rfl,-⟩:=h
    exact R5 hm
  split at h
  · simp only [Option.some.injEq,Prod.mk.injEq] at h
    obtain ⟨rfl,-⟩:=h
    exact ⟨bB rfl,bB rfl,fun _=>⟨rfl,rfl⟩⟩
  · exact M4 h

theorem Pp {c:qc} {r r':R} (h:MV c r=some r'):r'.ro=r.ro∧r'.mem=r.mem∧(r.eu=[]→r'.eu=[]):=by
  unfold MV at h
  split at h
  · rename_i hm
    have nn:∀ {x:List (Nat × ba)},r.eu=[]→x=[]:=fun e=>by rw [hm] at e; cases e
    split at h
    · generalize Nat.beq _ _=bb at h
      cases bb with
      | false=>cases h
      | true =>
        simp only [cond_true,Option.some.injEq] at h
        subst h
        exact ⟨rfl,rfl,nn⟩
    · simp only [Option.some.injEq] at h
      subst h
      exact ⟨rfl,rfl,nn⟩
    · cases h
  · split at h
    · simp only [Option.some.injEq] at h
      subst h
      exact ⟨rfl,rfl,fun _=>rfl⟩
    · cases h
  · cases h

theorem Pq {c:AR} {r r':R} (h:MW c r=some r'):r'.ro=r.ro∧r'.mem=r.mem∧(r.eu=[]→r'.eu=[]):=by
  unfold MW at h
  split at h
  · rename_i hm
    split at h
    · simp only [Option.some.injEq] at h
      subst h
      exact ⟨rfl,rfl,fun e=>by rw [hm] at e; cases e⟩
    · simp only [Option.some.injEq] at h
      subst h
      exact ⟨rfl,rfl,fun e=>by rw [hm] at e; cases e⟩
    · cases h
  · cases h

theorem Pr {P:Program} {T:List (Nat × TI)} {lb:List (Nat × ba)} {ρ:Operand→Option AV} {dst:Option Nat} {quiet:Bool} {ij qp:List yn} {op:Op} {r:R} (h:TW P T lb ρ dst quiet ij op=some (r,qp)) :
    (∀ p,p∈r.ro→look lb p.1=some p.2)∧(∀ p,p∈r.mem→look lb p.1=some p.2)∧(quiet=true→r.mem=[]∧r.eu=[]):=by
  unfold TW at h
  split at h
  · rename_i r0 Ic h0
    obtain ⟨q1,q2,q3⟩:=M5 h0
    split at h
    · split at h
      · rename_i r' hn
        simp only [Option.some.injEq,Prod.mk.injEq] at h
        obtain ⟨rfl,-⟩:=h
        obtain ⟨e1,e2,e3⟩:=Pp hn
        rw [e1,e2]
        exact ⟨q1,q2,fun hq=>⟨(q3 hq).1,e3 (q3 hq).2⟩⟩
      · simp only [Option.some.injEq,Prod.mk.injEq] at h
        obtain ⟨rfl,-⟩:=h
        exact ⟨q1,q2,q3⟩
    · split at h
      · rename_i r' hn
        simp only [Option.some.injEq,Prod.mk.injEq] at h
        obtain ⟨rfl,-⟩:=h
        obtain ⟨e1,e2,e3⟩:=Pq hn
        rw [e1,e2]
        exact ⟨q1,q2,fun hq=>⟨(q3 hq).1,e3 (q3 hq).2⟩⟩
      · simp only [Option.some.injEq,Prod.mk.injEq] at h
        obtain ⟨rfl,-⟩:=h
        exact ⟨q1,q2,q3⟩
    · split at h
      · generalize Nat.beq _ _=bb at h
        cases bb with
        | false =>
          simp only [cond_false,Option.some.injEq,Prod.mk.injEq] at h
          obtain ⟨rfl,-⟩:=h
          exact ⟨q1,q2,q3⟩
        | true =>
          simp only [cond_true,Option.some.injEq,Prod.mk.injEq] at h
          obtain ⟨rfl,-⟩:=h
          exact ⟨q1,q2,q3⟩
      · simp only [Option.some.injEq,Prod.mk.injEq] at h
        obtain ⟨rfl,-⟩:=h
        exact ⟨q1,q2,q3⟩
    · simp only [Option.some.injEq,Prod.mk.injEq] at h
      obtain ⟨rfl,-⟩:=h
      exact ⟨q1,q2,q3⟩
  · cases h

def re (ν:Nat→Bool) (p:List (Nat × Bool)):Prop:=∀ y,y∈p→ν y.1=y.2

theorem Ps {ν:Nat→Bool} {q p:List (Nat × Bool)} (h:VY q p=true) (hp:re ν p):re ν q:=by
  intro y hy
  simp only [VY,List.all_eq_true,List.any_eq_true,Bool.and_eq_true,beq_iff_eq] at h
  obtain ⟨z,hz,h1,h2⟩:=h y hy
  have:=hp z hz
  rw [Nat.eq_of_beq_eq_true h1,h2]
  exact this

section
variable {C : Cx} {A : M} {a : Act} {w : World} {S : Nat → Prop} {μ : Mu} {ν : Nat → Bool}

theorem AW (Tv:gT w S) {need:List (Nat × AV)} {p:List (Nat × Bool)} (FV:∀ q,q∈need→Rel w S μ ν q.2 (a.tmps.getD q.1 undef)) (hp:re ν p) (x:Operand) (y:AV) (h:MZ need p x=some y):Rel w S μ ν y (a.eval x):=by
  cases x with
  | tmp t =>
    simp only [MZ] at h
    cases hl:look need t with
    | none=>rw [hl] at h; cases h
    | some z =>
      rw [hl] at h
      have hr:=FV (t,z) (gB hl)
      show Rel w S μ ν y (a.tmps.getD t undef)
      simp only at h hr
      cases z with
      | g q b =>
        simp only [X6] at h
        cases hs:VY q p with
        | false=>rw [hs] at h; cases h
        | true =>
          rw [hs] at h
          simp only [cond_true,Option.some.injEq] at h
          subst h
          cases hr with
          | g h1 _=>exact h1 (Ps hs hp)
      | _=>simp only [X6,Option.some.injEq] at h; subst h; exact hr
  | const v=>exact Mr h
  | func f =>
    simp only [MZ,Option.some.injEq] at h
    subst h
    exact .fn rfl (fun i hi=>absurd hi (by simp))
  | global g =>
    simp only [MZ] at h
    cases hl:look (zl.gl) g with
    | none=>rw [hl] at h; cases h
    | some cs =>
      rw [hl] at h
      simp only [Option.some.injEq] at h
      subst h
      obtain ⟨eV,h1,h2⟩:=Tv (g,cs) (gB hl)
      exact .ref eV h1 h2

theorem FW {sl:List (Nat × AV)}:∀ {ts:List Nat} {q:Nat × AV},q∈oa sl ts→q.2=St.get sl q.1∧q.1∈ts
  | t :: r,q,h=>by
    rcases List.mem_cons.1 h with rfl | h'
    · exact ⟨rfl,List.mem_cons_self⟩
    · obtain ⟨h1,h2⟩:=FW h'
      exact ⟨h1,List.mem_cons_of_mem _ h2⟩

theorem Ci {sl:List (Nat × AV)}:∀ {ts:List Nat} {s:Nat},s∈ts→(s,St.get sl s)∈oa sl ts
  | t :: r,s,h=>by
    rcases List.mem_cons.1 h with rfl | h'
    · exact List.mem_cons_self
    · exact List.mem_cons_of_mem _ (Ci h')

theorem AX {gl:List (Nat × Bool)}:∀ {ss:List Nat} {q:Nat × Bool},q∈KV gl ss→look gl q.1=some q.2
  | s :: r,q,h=>by
    simp only [KV] at h
    cases hl:look gl s with
    | none=>rw [hl] at h; exact AX h
    | some e =>
      rw [hl] at h
      rcases List.mem_cons.1 h with rfl | h'
      · exact hl
      · exact AX h'

theorem xa {gl:List (Nat × Bool)} {ob:Ob}:∀ {p:List (Nat × Bool)},(wZ gl p ob).den→(∀ s e,s∈p.map (·.1)→look gl s=some e→ν s=e)→re ν p→ob.den
  | [],h,_,_=>h
  | (s,w) :: r,h,hg,hp=>by
    simp only [wZ] at h
    have hr:∀ s e,s∈r.map (·.1)→look gl s=some e→ν s=e:=fun s e hs=>hg s e (by simp only [List.map_cons,List.mem_cons]; exact .inr hs)
    have VL:re ν r:=fun y hy=>hp y (List.mem_cons_of_mem _ hy)
    cases hl:look gl s with
    | none=>rw [hl] at h; exact xa h hr VL
    | some e =>
      rw [hl] at h
      exact xa (Ob.VJ h (by rw [← hg s e (by simp) hl]; exact hp (s,w) List.mem_cons_self)) hr VL

theorem J1 {gl M0:List (Nat × Bool)} {s:Nat} {e:Bool} {ob:Ob} (h:Sa gl s e=(M0,ob)) (bH:ob.den):look M0 s=some e∧∀ t x,look gl t=some x→look M0 t=some x:=by
  unfold Sa at h
  cases hl:look gl s with
  | some e' =>
    rw [hl] at h
    simp only [Prod.mk.injEq] at h
    obtain ⟨rfl,rfl⟩:=h
    simp only [Ob.den] at bH
    exact ⟨by rw [hl,bH],fun t x h=>h⟩
  | none =>
    rw [hl] at h
    simp only [Prod.mk.injEq] at h
    obtain ⟨rfl,rfl⟩:=h
    refine ⟨by rw [sD,hl]; simp [look],fun t x ht=>by rw [sD,ht]⟩

theorem M6 {ops:Array Oper} {j s:Nat} (hj:yo ops j=some s) (di:s < a.tmps.size):yielded ops a.tmps j=match a.tmps.getD s undef with | .bool b=>some b | _=>none:=by
  unfold yo at hj
  cases ho:ops[j]? with
  | none=>rw [ho] at hj; cases hj
  | some o =>
    rw [ho] at hj
    simp only at hj
    unfold yielded
    rw [ho]
    simp only [Option.bind_some,hj,Array.getElem?_eq_getElem di]
    have e:a.tmps.getD s undef=a.tmps[s]:=by simp [Array.getD,di]
    rw [e]
    cases a.tmps[s] <;> rfl


theorem M7 {p:List (Nat × Bool)} {v:AV} {x:Value} (hp:re ν p) (h:Rel w S μ ν v x):Rel w S μ ν (AU p v) x:=by
  cases p with
  | nil=>exact h
  | cons y r=>exact .g (fun _=>h) (fun hn=>absurd hp hn)

/-- JS same X8,with Q1 name for its result -/
theorem cE.rename {τ τ':Tr} {a':Act} {w':World} {S':Nat→Prop} {μ':Mu} (h:cE C (τ.apply A) a' w' S' μ' ν) (hd:τ'.dst=τ.dst) (hm:τ'.mem=τ.mem) (zo:τ'.eu=τ.eu) (hv:∀ x,Rel w' S' μ' ν τ.v x→Rel w' S' μ' ν τ'.v x):cE C (τ'.apply A) a' w' S' μ' ν:=by
  have e:(τ'.apply A).lb=(τ.apply A).lb:=by simp only [Tr.apply,hm,zo]
  refine ⟨h.tmps,h.defers,fun t=>?_,by rw [e]; exact h.mem,by rw [e]; exact h.inj,by rw [e]; exact h.own,h.dG,h.fresh,h.bound,h.kept⟩
  have h0:=h.df t
  simp only [Tr.apply,hd] at h0 ⊢
  split
  · rename_i c
    simp only [c,if_true] at h0
    exact hv _ h0
  · rename_i c
    simp only [c,if_false] at h0
    exact h0

theorem KX {T:List (Nat × TI)} (hT:la C.P T) {ops:Array Oper} {st:St} {gl M0:List (Nat × Bool)} {ij qp:List yn} {o:Oper} {τ:Tr} {ob:Ob}
    (h:Pn C.P T C.nt ops st gl ij o=some (τ,M0,qp,ob)) (bH:ob.den) (hν:∀ s e,look M0 s=some e→ν s=e) :
    E2 C ν ops o τ∧(∀ p,p∈τ.gs→ν p.1=p.2)∧En τ st.eE∧∀ t x,look gl t=some x→look M0 t=some x:=by
  unfold Pn at h
  split at h
  case h_2=>cases h
  rename_i p ss T3 yJ rh db
  have hd:∀ t,o.dst=some t→t < C.nt:=fun t ht=>by
    rw [ht] at db
    simp only at db
    exact Nat.lt_of_succ_le (Nat.le_of_ble_eq_true db)
  -- JS path
  have path:yJ.den→(∀ s e,look T3 s=some e→ν s=e)→(∀ t x,look gl t=some x→look T3 t=some x) ∧
      ∀ (A:M) (a:Act) (w:World) (S:Nat→Prop) (μ:Mu),cE C A a w S μ ν→(∀ s,s∈ss→A.sl s=St.get st.sl s)→(Region.wanted o (yielded ops a.tmps)=true→re ν p)∧(Region.wanted o (yielded ops a.tmps)=false→p≠[]∧¬ re ν p):=by
    intro xb hν1
    unfold pathOf at rh
    split at rh
    · rename_i hg
      simp only [Option.some.injEq,Prod.mk.injEq] at rh
      obtain ⟨rfl,rfl,rfl,rfl⟩:=rh
      refine ⟨fun _ _ h=>h,fun A a w S μ hs _=>⟨fun _ y hy=>(by cases hy),fun hw=>?_⟩⟩
      simp [Region.wanted,hg] at hw
    · rename_i j want hg
      split at rh
      · rename_i s RQ
        cases ZE:Nat.ble (s+1) C.nt with
        | false=>rw [ZE] at rh; cases rh
        | true =>
        rw [ZE] at rh
        simp only [cond_true] at rh
        split at rh
        · rename_i q e X9
          generalize Pt:Sa gl s e=rg at rh
          obtain ⟨ZC,D5⟩:=rg
          simp only [Option.some.injEq,Prod.mk.injEq] at rh
          obtain ⟨rfl,rfl,rfl,rfl⟩:=rh
          obtain ⟨g1,g2⟩:=J1 Pt xb
          refine ⟨g2,fun A a w S μ hs hss=>?_⟩
          have Ya:=hν1 s e g1
          have hsA:=hss s (by simp)
          have hr:=hs.df s
          rw [hsA] at hr
          have di:s < a.tmps.size:=by rw [hs.tmps]; exact Nat.lt_of_succ_le (Nat.le_of_ble_eq_true ZE)
          have hy:=M6 (a:=a) RQ di
          have aam:Region.wanted o (yielded ops a.tmps)=((match a.tmps.getD s undef with | .bool b=>some b | _=>none) == some want):=by
            unfold Region.wanted
            rw [hg]
            simp only [hy]
          rw [aam]
          unfold T1 at X9
          split at X9
          · rename_i Ph
            simp only [Option.some.injEq,Prod.mk.injEq] at X9
            obtain ⟨rfl,rfl⟩:=X9
            rw [Ph] at hr
            have:=lu hr
            rw [this]
            refine ⟨fun hw y hy=>?_,fun hw=>⟨by simp,fun hh=>?_⟩⟩
            · simp only [List.nil_append,List.mem_singleton] at hy
              subst hy
              simp only [beq_iff_eq,Option.some.injEq] at hw
              rw [Ya,hw]
            · have:=hh (s,want) (by simp)
              rw [Ya] at this
              simp [this] at hw
          · rename_i Ph
            simp only [Option.some.injEq,Prod.mk.injEq] at X9
            obtain ⟨rfl,rfl⟩:=X9
            rw [Ph] at hr
            generalize a.tmps.getD s undef=xv at hr ⊢
            cases hr with
            | g h1 h0 =>
              rename_i q0 e0
              by_cases hq:re ν q0
              · have:=lu (h1 hq)
                rw [this]
                refine ⟨fun hw y hy=>?_,fun hw=>⟨by simp,fun hh=>?_⟩⟩
                · rcases List.mem_append.1 hy with hy | hy
                  · exact hq y hy
                  · simp only [List.mem_singleton] at hy
                    subst hy
                    simp only [beq_iff_eq,Option.some.injEq] at hw
                    rw [Ya,hw]
                · have:=hh (s,want) (by simp)
                  rw [Ya] at this
                  simp [this] at hw
              · have:=h0 hq
                rw [this]
                refine ⟨fun hw=>?_,fun _=>⟨by simp,fun hh=>hq (fun y hy=>hh y (List.mem_append.2 (.inl hy)))⟩⟩
                simp [undef] at hw
          · cases X9
        · cases rh
      · cases rh
  have enN:∀ (ts:List Nat) (τ:Tr),τ.need=oa st.sl ts→(∀ p,p∈τ.ro→st.eE.lb p.1=some p.2)→(∀ p,p∈τ.mem→st.eE.lb p.1=some p.2)→En τ st.eE:=fun ts τ hn h1 h2 =>
    ⟨fun q hq=>by rw [hn] at hq; exact (FW hq).1.symm,h1,h2⟩
  split at h
  · -- pick
    rename_i c x y zE
    split at h
    · rename_i s e ex ey AY
      generalize Pt:Sa T3 s e=rg at h
      obtain ⟨ZC,D5⟩:=rg
      simp only [Option.some.injEq,Prod.mk.injEq] at h
      obtain ⟨rfl,rfl,rfl,rfl⟩:=h
      obtain ⟨xb,yK⟩:=Ob.cg bH
      obtain ⟨r1,r2⟩:=J1 Pt yK
      obtain ⟨T5,Yb⟩:=path xb (fun s' e' hl=>hν s' e' (r2 s' e' hl))
      refine ⟨?_,fun q hq=>hν _ _ (AX hq),enN _ _ rfl (fun p hp=>by cases hp) (fun p hp=>by cases hp),fun t x h=>r2 t x (T5 t x h)⟩
      intro A a w S μ hs Tm _ _
      have hA:∀ t,t∈ss++slotsOf [c,x,y]→A.sl t=St.get st.sl t:=fun t ht=>Tm.need (t,St.get st.sl t) (Ci ht)
      obtain ⟨p1,p0⟩:=Yb A a w S μ hs (fun s' wO=>hA s' (List.mem_append.2 (.inl wO)))
      have FV:∀ q,q∈oa st.sl (ss++slotsOf [c,x,y])→Rel w S μ ν q.2 (a.tmps.getD q.1 undef):=fun q hq=>by
        have:=hs.df q.1
        rw [Tm.need q hq] at this
        exact this
      split
      · rename_i hw
        have hp:=p1 hw
        have Ya:ν s=e:=hν s e r1
        unfold T2 at AY
        cases c with
        | tmp s' =>
          simp only at AY
          split at AY
          · rename_i e' ex' ey' h1 h2 h3
            simp only [Option.some.injEq,Prod.mk.injEq] at AY
            obtain ⟨rfl,rfl,rfl,rfl⟩:=AY
            have hc:=lu (AW hs.wL FV hp _ _ h1)
            refine kd (x:=.bool (bif e' then ex' else ey')) hs hd ?_ (M7 hp (fB rfl)) rfl rfl rfl
            simp only [execOp,zE,hc,asBool,Sem.run_bind,Sem.run_pure,Result.andThen_ok]
            cases e' with
            | true =>
              have hpx:re ν ((s',true) :: p):=fun y hy=>by
                rcases List.mem_cons.1 hy with rfl | hy
                · exact Ya
                · exact hp y hy
              have hx:=lu (AW hs.wL FV hpx _ _ h2)
              simp [hx]
            | false =>
              have hpy:re ν ((s',false) :: p):=fun y hy=>by
                rcases List.mem_cons.1 hy with rfl | hy
                · exact Ya
                · exact hp y hy
              have hx:=lu (AW hs.wL FV hpy _ _ h3)
              simp [hx]
          · cases AY
        | const=>cases AY
        | global=>cases AY
        | func=>cases AY
      · rename_i hw
        obtain ⟨qW,hnp⟩:=p0 (by simpa using hw)
        refine ⟨S,μ,?_⟩
        have hr:Rel w S μ ν (AU p (.d (.v (.bool (bif e then ex else ey))))) undef:=by
          cases p with
          | nil=>exact absurd rfl qW
          | cons y r=>exact .g (fun hh=>absurd hh hnp) (fun _=>rfl)
        have h5:=hs.put (dst:=o.dst) hd hr
        have e0:(Tr.mk (oa st.sl (ss++slotsOf [c,x,y])) o.dst (AU p (.d (.v (.bool (bif e then ex else ey))))) [] [] [] (KV ZC (s :: p.map (·.1)))).apply A=A.tS o.dst (AU p (.d (.v (.bool (bif e then ex else ey))))):=by
          unfold Tr.apply M.tS M.put
          cases hdd:o.dst with
          | none=>simp [look]
          | some d =>
            simp only [look,List.map_nil,List.not_mem_nil,if_false,Option.some.injEq]
            congr 1
            funext t
            by_cases cc:d=t
            · simp [cc]
            · have:¬ t=d:=fun e=>cc e.symm
              simp [cc,this]
        rw [e0]
        exact h5
    · cases h
  · rename_i op0 hnp
    split at h
    · rename_i r Ic Yc
      simp only [Option.some.injEq,Prod.mk.injEq] at h
      obtain ⟨rfl,rfl,rfl,rfl⟩:=h
      obtain ⟨xb,yK⟩:=Ob.cg bH
      obtain ⟨T5,Yb⟩:=path xb hν
      have T6:(∀ p,p∈r.ro→look st.lb p.1=some p.2)∧(∀ p,p∈r.mem→look st.lb p.1=some p.2)∧(p≠[]→r.mem=[]∧r.eu=[]):=by
        obtain ⟨q1,q2,q3⟩:=Pr Yc
        exact ⟨q1,q2,fun qW=>q3 (by cases p with | nil=>exact absurd rfl qW | cons _ _=>rfl)⟩
      refine ⟨?_,fun q hq=>hν _ _ (AX hq),enN _ _ rfl T6.1 T6.2.1,T5⟩
      intro A a w S μ hs Tm tR _
      have hA:∀ t,t∈ss++slotsOf o.op.operands.toList→A.sl t=St.get st.sl t:=fun t ht=>Tm.need (t,St.get st.sl t) (Ci ht)
      obtain ⟨p1,p0⟩:=Yb A a w S μ hs (fun s' wO=>hA s' (List.mem_append.2 (.inl wO)))
      have FV:∀ q,q∈oa st.sl (ss++slotsOf o.op.operands.toList)→Rel w S μ ν q.2 (a.tmps.getD q.1 undef):=fun q hq=>by
        have:=hs.df q.1
        rw [Tm.need q hq] at this
        exact this
      split
      · rename_i hw
        have hp:=p1 hw
        have acd:r.ob.den:=xa yK (fun s e _ hl=>hν s e hl) hp
        have:=Pm hT hs (fun x y hxy=>AW hs.wL FV hp x y hxy) hd Yc Tm.ro Tm.mem acd (fun κ hκ=>tR κ hκ) (oa st.sl (ss++slotsOf o.op.operands.toList)) (KV T3 (p.map (·.1)))
        refine Oper.wp_mono (fun a' w' hh=>?_) this
        obtain ⟨S',μ',cG⟩:=hh
        exact ⟨S',μ',cG.rename rfl rfl rfl (fun x hx=>M7 hp hx)⟩
      · rename_i hw
        obtain ⟨qW,ace⟩:=p0 (by simpa using hw)
        obtain ⟨hm1,hm2⟩:=T6.2.2 qW
        refine ⟨S,μ,?_⟩
        have hr:Rel w S μ ν (AU p r.v) undef:=by
          cases p with
          | nil=>exact absurd rfl qW
          | cons y r=>exact .g (fun hh=>absurd hh ace) (fun _=>rfl)
        have h5:=hs.put (dst:=o.dst) hd hr
        have e0:(Tr.mk (oa st.sl (ss++slotsOf o.op.operands.toList)) o.dst (AU p r.v) r.ro r.mem r.eu (KV T3 (p.map (·.1)))).apply A=A.tS o.dst (AU p r.v):=by
          unfold Tr.apply M.tS M.put
          simp only [hm1,hm2]
          cases hdd:o.dst with
          | none=>simp [look]
          | some d =>
            simp only [look,List.map_nil,List.not_mem_nil,if_false,Option.some.injEq]
            congr 1
            funext t
            by_cases cc:d=t
            · simp [cc]
            · have:¬ t=d:=fun e=>cc e.symm
              simp [cc,this]
        rw [e0]
        exact h5
    · cases h

end

end Go.Av
