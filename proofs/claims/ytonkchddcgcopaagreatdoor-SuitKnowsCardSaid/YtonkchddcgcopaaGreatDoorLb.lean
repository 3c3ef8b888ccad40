/- Append, stores into rows, slices made, in abstract states. -/
import Derived.Test.YtonkchddcgcopaaGreatDoorLa
import Derived.Lib.ConvBytes
set_option linter.unusedSimpArgs false
set_option linter.unusedVariables false
set_option linter.unusedSectionVars false
namespace Go.Av
open Go
variable [DS]
section
variable {C : Cx} {A : M} {a : Act} {w : World} {S : Nat → Prop} {μ : Mu} {ν : Nat → Bool}
theorem dG.Xz (h:dG C A a w S μ ν) {κ:Nat} (hf:lh A κ) {blk:bP} {b cap:Nat} {w':World} (hk:κ ∉ blk.keys) (Fe:Kept w w' (fun q=>q=b)) (hS:¬ S b) (YK:∀ κ' b' g c,A.lb κ'=some b'→μ κ'=some (some (g,c))→g≠b)
  (GP:C.w0.heap.size≤b∨C.T0 b) (hb:eH w' S μ blk b cap):dG C (A.set κ (some blk)) a w' S (dH μ κ (some (some (b,cap)))) ν:=by
 have hw:∀ q,S q→w'.heap[q]? = w.heap[q]?:=fun q hq=>Fe.block q (h.bound q hq) (fun e=>hS (e ▸ hq))
 have h0:=h.forget hf
 have NX:∀ k y,(if k=κ then none else μ k)=some y→dH μ κ (some (some (b,cap))) k=some y:=by
  intro k y hy
  by_cases c:k=κ
  ·simp [c] at hy
  ·simpa [dH,c] using hy
 refine ⟨h.tmps,h.defers,fun t=>(h0.fa t).mono (fun _ x=>x) hw NX,fun κ' b' pk=>?_,fun κ1 κ2 b1 b2 g c c' h1 h2 h3 h4=>?_,fun κ' b' g c h1 h2=>?_,h.fU,h.fresh,fun q hq=>Nat.lt_of_lt_of_le (h.bound q hq) Fe.size,?_⟩
 ·simp only [M.set] at pk
  by_cases c:κ'=κ
  ·simp only [c,if_true,Option.some.injEq] at pk
   subst pk
   rw [c]
   simp only [dH,if_true]
   exact ((hb.forget hk).mono (fun _ x=>x) (fun _ _=>rfl) NX rfl hb.not).ok
  ·simp only [c,if_false] at pk
   have hm:=h0.mem κ' b' pk
   simp only [c,if_false] at hm
   have:dH μ κ (some (some (b,cap))) κ'=μ κ':=by simp [dH,c]
   rw [this]
   refine hm.mono (fun _ x=>x) hw NX (fun g cc e=>?_)
   have vD:=YK κ' b' g cc pk e
   rw [e] at hm
   exact ⟨Fe.block g hm.at.lt vD,hm.at.not⟩
 ·simp only [M.set] at h1 h2
  by_cases c1:κ1=κ
  ·by_cases c2:κ2=κ
   ·rw [c1,c2]
   ·simp only [c1,dH,if_true,Option.some.injEq,Prod.mk.injEq] at h3
    simp only [c2,if_false] at h2
    simp only [dH,c2,if_false] at h4
    exact absurd h3.1.symm (YK κ2 b2 g c' h2 h4)
  ·simp only [c1,if_false] at h1
   simp only [dH,c1,if_false] at h3
   by_cases c2:κ2=κ
   ·simp only [c2,dH,if_true,Option.some.injEq,Prod.mk.injEq] at h4
    exact absurd h4.1.symm (YK κ1 b1 g c h1 h3)
   ·simp only [c2,if_false] at h2
    simp only [dH,c2,if_false] at h4
    exact h.inj κ1 κ2 b1 b2 g c c' h1 h2 h3 h4
 ·simp only [M.set] at h1
  by_cases c1:κ'=κ
  ·simp only [c1,dH,if_true,Option.some.injEq,Prod.mk.injEq] at h2
   rw [← h2.1]
   exact GP
  ·simp only [c1,if_false] at h1
   simp only [dH,c1,if_false] at h2
   exact h.own κ' b' g c h1 h2
 ·refine h.kept.trans Fe (fun q hq e=>?_)
  subst e
  rcases GP with h1 | h1
  ·omega
  ·exact h1
theorem dG.KZ (h:dG C A a w S μ ν) {κ:Nat} (hf:lh A κ) (e k:Nat) (f:Nat→List D):dG C (A.set κ (some (.row e k 0 f))) a w S (dH μ κ (some none)) ν:=by
 have h0:=h.forget hf
 have NX:∀ k y,(if k=κ then none else μ k)=some y→dH μ κ (some none) k=some y:=by
  intro k y hy
  by_cases c:k=κ
  ·simp [c] at hy
  ·simpa [dH,c] using hy
 refine ⟨h.tmps,h.defers,fun t=>(h0.fa t).mono (fun _ x=>x) (fun _ _=>rfl) NX,fun κ' b' pk=>?_,fun κ1 κ2 b1 b2 g c c' h1 h2 h3 h4=>?_,fun κ' b' g c h1 h2=>?_,h.fU,h.fresh,h.bound,h.kept⟩
 ·simp only [M.set] at pk
  by_cases c:κ'=κ
  ·simp only [c,if_true,Option.some.injEq] at pk
   subst pk
   rw [c]
   simp only [dH,if_true]
   rfl
  ·simp only [c,if_false] at pk
   have hm:=h0.mem κ' b' pk
   simp only [c,if_false] at hm
   have:dH μ κ (some none) κ'=μ κ':=by simp [dH,c]
   rw [this]
   refine hm.mono (fun _ x=>x) (fun _ _=>rfl) NX (fun g cc e=>⟨rfl,?_⟩)
   rw [e] at hm
   exact hm.at.not
 ·simp only [M.set] at h1 h2
  have n1:κ1≠κ:=fun e=>by simp [e,dH] at h3
  have n2:κ2≠κ:=fun e=>by simp [e,dH] at h4
  simp only [n1,n2,if_false] at h1 h2
  simp only [dH,n1,n2,if_false] at h3 h4
  exact h.inj κ1 κ2 b1 b2 g c c' h1 h2 h3 h4
 ·simp only [M.set] at h1
  have n1:κ'≠κ:=fun e=>by simp [e,dH] at h2
  simp only [n1,if_false] at h1
  simp only [dH,n1,if_false] at h2
  exact h.own κ' b' g c h1 h2
inductive adS (A:M) (w:World) (S:Nat→Prop) (μ:Mu) (e k:Nat):AV→Nat→(Nat→List D)→List (Nat × bP)→Prop
 | nil (f:Nat→List D):adS A w S μ e k (.d (.v (.slice none 0 0))) 0 f []
 | own {κ n:Nat} {f:Nat→List D} (h:A.lb κ=some (.row e k n f)):adS A w S μ e k (.own κ n) n f [(κ,.row e k n f)]
theorem Iu {o:Oper} {dst t e:Nat} {it i:TI} {s x:Operand} {dv:AV} {n m:Nat} {f g:Nat→List D} {mem:List (Nat × bP)} {need:List (Nat × AV)} {ro:List (Nat × bP)} {gs:List (Nat × Bool)} {sv:Value}
  (hs:dG C A a w S μ ν) (hd:o.dst=some dst) (hdt:dst < C.nt) (ht:GK C.P t it=true) (hk:it.kind=.slice e) (hti:GK C.P e i=true) (ho:o.op=.call { callee:=.builtin .append,args:=#[s,x],argTypes:=#[t,t] })
  (hdv:Rel w S μ ν dv (a.eval s)) (afj:adS A w S μ e i.size dv n f mem) (hsv:a.eval x=sv) {ys:List Value} (mW:Tb w S i.size m g sv ys) (h63:n+m≤maxLen) (hb:(n+m) * i.bytes≤140737488355328) (hf:lh A dst) :
  o.wp C.P a w (fun a' w'=>∃ S' μ',dG C ((Tr.mk need (some dst) (.own dst (n+m)) ro mem [(dst,.row e i.size (n+m) fun q=>if q < n then f q else g (q - n))] gs).apply A) a' w' S' μ' ν) (fun _ _ _=>False):=by
 obtain ⟨tj,z,F⟩:=aG ht
 have wT:=F.kind
 rw [hk] at wT
 have hu:=fA wT
 have fin:∀ (A':M) (xs:List Value),dG C A' a w S μ ν→lh A' dst→(∀ t,A'.sl t=A.sl t)→(Tr.mk need (some dst) (.own dst (n+m)) ro mem [(dst,.row e i.size (n+m) fun q=>if q < n then f q else g (q - n))] gs).apply A=(A'.set dst (some (.row e i.size (n+m) fun q=>if q < n then f q else g (q - n)))).put dst (.own dst (n+m)) →
   kg w S i.size n f xs →
   ((∃ Tf,a.eval s=.slice Tf 0 0∧n=0∧xs=[])∨∃ b cap cur,a.eval s=.slice (some ⟨b,0,none⟩) n cap∧w.heap[b]? = some (.cells cur e (0,0))∧cur.size=cap * i.size∧n≤cap∧cap≤maxLen∧cur.toList.take (n * i.size)=xs∧¬ S b∧(C.w0.heap.size≤b∨C.T0 b)∧∀ κ' b' g' c,A'.lb κ'=some b'→μ κ'=some (some (g',c))→g'≠b) →
   o.wp C.P a w (fun a' w'=>∃ S' μ',dG C ((Tr.mk need (some dst) (.own dst (n+m)) ro mem [(dst,.row e i.size (n+m) fun q=>if q < n then f q else g (q - n))] gs).apply A) a' w' S' μ' ν) (fun _ _ _=>False):=by
  intro A' xs yG hf' _ ag6 rq afk
  obtain ⟨v',w',iH,aak⟩:=Te (P:=C.P) (ty:=o.type) hu hti afk mW h63 hb
  unfold Oper.wp execOp
  simp only [ho,resolve,invoke,builtin,Sem.run_bind,Sem.run_pure,Result.andThen_ok,List.map_toArray,List.map_cons,List.map_nil,hsv,iH]
  rw [ag6]
  rcases aak with ⟨Tf,rfl,h0,rfl⟩ | ⟨b,cap,cur,rfl,hg,kM,hnm,SI,htk,VY,Fe⟩
  ·have hn0:n+m=0:=h0
   refine ⟨S,dH μ dst (some none),?_⟩
   have h1:=yG.KZ hf' e i.size (fun q=>if q < n then f q else g (q - n))
   rw [hn0]
   have h2:=h1.put (dst:=some dst) (x:=.own dst 0) (v:=.slice Tf 0 0) (fun t ht=>by cases ht; exact hdt) (.dt (by simp [dH]))
   rw [hd]
   exact h2
  ·have hbS:¬ S b:=by
    rcases VY with rfl | hQ
    ·exact fun hq=>by have:=hs.bound _ hq; omega
    ·exact hQ.1
   have GP:C.w0.heap.size≤b∨C.T0 b:=by
    rcases VY with rfl | hQ
    ·exact .inl hs.kept.size
    ·exact hQ.2.1
   have YK:∀ κ' b' g' c,A'.lb κ'=some b'→μ κ'=some (some (g',c))→g'≠b:=by
    rcases VY with rfl | hQ
    ·intro κ' b' g' c h1 h2 e'
     have:=yG.mem κ' b' h1
     rw [h2] at this
     have:=this.at.lt
     omega
    ·exact hQ.2.2
   have hw:∀ q,S q→w'.heap[q]? = w.heap[q]?:=fun q hq=>Fe.block q (hs.bound q hq) (fun e=>hbS (e ▸ hq))
   have afl:kg w' S i.size (n+m) (fun q=>if q < n then f q else g (q - n)) (xs++ys):=(rq.append mW.rows).mono (fun _ x=>x) hw
   have h1:=yG.Xz hf' (blk:=.row e i.size (n+m) fun q=>if q < n then f q else g (q - n)) (by simp [bP.keys]) Fe hbS YK GP (KY hg hbS kM hnm SI htk afl)
   have h2:=h1.put (dst:=some dst) (x:=.own dst (n+m)) (v:=.slice (some ⟨b,0,none⟩) (n+m) cap) (fun t ht=>by cases ht; exact hdt) (.own (by simp [dH]))
   refine ⟨S,dH μ dst (some (some (b,cap))),?_⟩
   rw [hd]
   exact h2
 cases afj with
 | nil =>
  have SR:=dc rfl hdv
  exact fin A [] hs hf (fun _=>rfl) (by rw [sD]) ⟨by simp,fun i hi=>absurd hi (by omega)⟩ (.inl ⟨none,SR,rfl,rfl⟩)
 | @own κ _ _ hκ =>
  have hm:=hs.mem κ _ hκ
  have vD:dst≠κ:=fun e=>by rw [e] at hf; rw [hf.lb] at hκ; cases hκ
  generalize afm:a.eval s=sv0 at hdv
  cases hdv with
  | dt hμ =>
   rw [hμ] at hm
   exact fin (A.set κ none) [] (hs.drop κ) (hf.drop κ) (fun _=>rfl) (by rw [zT vD]) ⟨by simp,fun i hi=>absurd hi (by omega)⟩ (.inl ⟨_,afm,rfl,rfl⟩)
  | @own _ _ b cap hμ =>
   rw [hμ] at hm
   have uH:=hm.at.not
   obtain ⟨cur,hg,h2,h3,h4,h5⟩:=BD hm.at
   refine fin (A.set κ none) _ (hs.drop κ) (hf.drop κ) (fun _=>rfl) (by rw [zT vD]) h5 (.inr ⟨b,cap,cur,afm,hg,h2,h3,h4,rfl,uH,hs.own κ _ b cap hκ hμ,fun κ' b' g' c h1 h2 e'=>?_⟩)
   simp only [M.set] at h1
   by_cases cc:κ'=κ
   ·simp [cc] at h1
   ·simp only [cc,if_false] at h1
    subst e'
    exact cc (hs.inj κ' κ b' _ g' c cap h1 hκ h2 hμ)
theorem K0 {o:Oper} {t:Nat} {i:TI} {κ e k n p off:Nat} {f:Nat→List D} {ad x:Operand} {v:AV} {xs:List AV} {ds:List D} {need:List (Nat × AV)} {ro:List (Nat × bP)} {gs:List (Nat × Bool)} (hs:dG C A a w S μ ν) (ht:GK C.P t i=true) (ho:o.op=.store t ad x) (hd:o.dst=none)
  (ha:Rel w S μ ν (.zL κ k p off) (a.eval ad)) (hx:Rel w S μ ν v (a.eval x)) (hκ:A.lb κ=some (.row e k n f)) (hc:v.cells=some xs) (hp:AQ xs=some ds) (hlen:ds.length=i.size) (hle:off+i.size≤k) (hpn:p < n) (Fb:ds.all A8=true) (y:AV) :
  o.wp C.P a w (fun a' w'=>∃ S' μ',dG C ((Tr.mk need none y ro [(κ,.row e k n f)] [(κ,.row e k n fun q=>if q=p then (f p).take off++ds++(f p).drop (off+i.size) else f q)] gs).apply A) a' w' S' μ' ν) (fun _ _ _=>False):=by
 have exs:=vG hp
 subst exs
 generalize ZU:a.eval ad=av at ha
 cases ha with
 | @zL _ _ _ _ g cap hμ =>
  have hm:=hs.mem κ _ hκ
  rw [hμ] at hm
  have VQ:=hm.at
  have uH:=VQ.not
  obtain ⟨cur,hg,E8,VW,SI,rq⟩:=BD VQ
  obtain ⟨aah,aai⟩:=qB hc hx
  simp only [List.length_map] at aah aai
  have hvs:(a.eval x).cells.size=i.size:=by simp at aah; omega
  have hpk:p * k+k≤n * k:=by
   calc p * k+k=(p+1) * k:=by rw [Nat.add_mul,Nat.one_mul]
    _≤n * k:=Nat.mul_le_mul_right k hpn
  have aiF:n * k≤cap * k:=Nat.mul_le_mul_right k VW
  have iH:=Ir (w:=w) (P:=C.P) ht (g:=g) (off:=p * k+off) (v:=a.eval x) hg hvs (by omega) (fun u hu=>by
   obtain ⟨j,hj,rfl⟩:=List.getElem_of_mem hu
   have Ip:j < ds.length:=by omega
   have h2:=aai j Ip
   rw [show (a.eval x).cells.toList.getD j undef=(a.eval x).cells.toList[j] from by simp only [List.getD,List.getElem?_eq_getElem hj,Option.getD_some],ln ds j Ip] at h2
   simp only [List.all_eq_true] at Fb
   exact Fa (Fb _ (by simp [List.getD,Ip])) (jW.1 h2))
  unfold Oper.wp execOp
  simp only [ho,Sem.run_bind,ZU,iH,Result.andThen_ok,Sem.run_pure]
  refine ⟨S,μ,?_⟩
  rw [nF,hd]
  generalize Fc:(cur.toList.take (p * k+off)++(a.eval x).cells.toList++cur.toList.drop (p * k+off+i.size))=new
  have hw:∀ q,S q→(w.setRow g new.toArray).heap[q]? = w.heap[q]?:=fun q hq=>setRow_other w g q _ (fun e=>uH (e ▸ hq))
  have YL:(a.eval x).cells.toList.length=i.size:=by rw [aah]; exact hlen
  have hnl:new.length=cap * k:=by
   rw [← Fc]
   simp only [List.length_append,List.length_take,List.length_drop,Array.length_toList] at YL ⊢
   simp only [hvs]
   omega
  have NY:∀ j,j < cap * k→new[j]? = if j < p * k+off then cur[j]? else if j < p * k+off+i.size then (a.eval x).cells.toList[j - (p * k+off)]? else cur[j]?:=by
   intro j hj
   rw [← Fc]
   by_cases c1:j < p * k+off
   ·rw [List.append_assoc,List.getElem?_append_left (by simp; omega),List.getElem?_take,if_pos c1,if_pos c1]
    simp
   ·rw [if_neg c1]
    by_cases c2:j < p * k+off+i.size
    ·rw [if_pos c2,List.append_assoc,List.getElem?_append_right (by simp; omega),List.getElem?_append_left (by simp at YL ⊢; omega)]
     congr 1
     simp
     omega
    ·rw [if_neg c2,List.getElem?_append_right (by simp at YL ⊢; omega),List.getElem?_drop]
     simp only [Array.getElem?_toList]
     congr 1
     simp at YL ⊢
     omega
  refine hs.write hκ hμ (b':=.row e k n _) ⟨new.toArray,setRow_heap w g cur _ e _ hg,uH,by simpa using hnl,VW,SI,fun q hq=>⟨?_,fun j hj=>?_⟩⟩
  ·by_cases c:q=p
   ·simp only [c,if_true,List.length_append,List.length_take,List.length_drop]
    have:=(rq.2 p hpn).1
    omega
   ·simp only [c,if_false]
    exact (rq.2 q hq).1
  ·have hqk:q * k+k≤n * k:=by
    calc q * k+k=(q+1) * k:=by rw [Nat.add_mul,Nat.one_mul]
     _≤n * k:=Nat.mul_le_mul_right k hq
   have hjl:q * k+j < cap * k:=by omega
   rw [List.getElem?_toArray,NY _ hjl]
   have ag7:∃ u,cur[q * k+j]? = some u∧Rd w S ((f q).getD j default) u:=by
    have gH:q * k+j < cur.size:=by omega
    refine ⟨cur[q * k+j],by simp [gH],?_⟩
    have:=(rq.2 q hq).2 j hj
    rwa [show (cur.toList.take (n * k)).getD (q * k+j) undef=cur[q * k+j] from by simp [List.getD,(by omega:q * k+j < n * k),gH]] at this
   obtain ⟨u,hu,VV⟩:=ag7
   by_cases c:q=p
   ·subst c
    simp only [if_true]
    have hfl:=(rq.2 q hq).1
    by_cases c1:j < off
    ·rw [if_pos (by omega)]
     refine ⟨u,hu,?_⟩
     rw [show ((f q).take off++ds++(f q).drop (off+i.size)).getD j default=(f q).getD j default from by
      simp only [List.getD]
      rw [List.append_assoc,List.getElem?_append_left (by simp; omega),List.getElem?_take,if_pos c1]]
     exact VV.mono (fun _ x=>x) hw
    ·rw [if_neg (by omega)]
     by_cases c2:j < off+i.size
     ·rw [if_pos (by omega)]
      have hjd:j - off < ds.length:=by omega
      have h2:=aai (j - off) hjd
      rw [ln ds _ hjd] at h2
      have gH:q * k+j - (q * k+off) < (a.eval x).cells.toList.length:=by omega
      refine ⟨_,List.getElem?_eq_getElem gH,?_⟩
      rw [show ((f q).take off++ds++(f q).drop (off+i.size)).getD j default=ds.getD (j - off) default from by
       simp only [List.getD]
       rw [List.append_assoc,List.getElem?_append_right (by simp; omega),List.getElem?_append_left (by simp; omega)]
       simp [(by omega:min off (f q).length=off)]]
      have e3:(a.eval x).cells.toList.getD (j - off) undef=(a.eval x).cells.toList[q * k+j - (q * k+off)]:=by
       have:q * k+j - (q * k+off)=j - off:=by omega
       simp only [this,List.getD]
       rw [List.getElem?_eq_getElem (by omega),Option.getD_some]
      rw [e3] at h2
      exact (jW.1 h2).mono (fun _ x=>x) hw
     ·rw [if_neg (by omega)]
      refine ⟨u,hu,?_⟩
      rw [show ((f q).take off++ds++(f q).drop (off+i.size)).getD j default=(f q).getD j default from by
       simp only [List.getD]
       rw [List.getElem?_append_right (by simp; omega),List.getElem?_drop]
       congr 2
       simp
       omega]
      exact VV.mono (fun _ x=>x) hw
   ·simp only [c,if_false]
    have ag8:q * k+j < p * k+off∨p * k+off+i.size≤q * k+j:=by
     rcases Nat.lt_or_gt_of_ne c with h1 | h1
     ·left
      have:q * k+k≤p * k:=by
       calc q * k+k=(q+1) * k:=by rw [Nat.add_mul,Nat.one_mul]
        _≤p * k:=Nat.mul_le_mul_right k h1
      omega
     ·right
      have:p * k+k≤q * k:=by
       calc p * k+k=(p+1) * k:=by rw [Nat.add_mul,Nat.one_mul]
        _≤q * k:=Nat.mul_le_mul_right k h1
      omega
    refine ⟨u,?_,VV.mono (fun _ x=>x) hw⟩
    rcases ag8 with h1 | h1
    ·rw [if_pos h1]; exact hu
    ·rw [if_neg (by omega),if_neg (by omega)]; exact hu
end
def ga (P:Program) (f:FuncId):Bool :=
 match P.funcs[f]? with
 | some fn=>fn.name != "runtime.NumGoroutine"&&fn.body.isSome
 | none=>false
def Handed (c6:List (Nat × bP)) (μ:Mu) (g:Nat):Prop:=∃ κ b c,look c6 κ=some b∧μ κ=some (some (g,c))
def XA (c6:List (Nat × bP)) (μ:Mu):Prop:=∀ κ κ' b b' g c c',look c6 κ=some b→look c6 κ'=some b'→μ κ=some (some (g,c))→μ κ'=some (some (g,c'))→κ=κ'
structure Tg (w:World) (S:Nat→Prop) (T:Nat→Prop) (res:AV) (c6:List (Nat × bP)) (v:Value) (S':Nat→Prop) (μ':Mu) (w':World):Prop where
 res:∀ ν,Rel w' S' μ' ν res v
 mem:∀ κ b,look c6 κ=some b→jq w' S' μ' b (μ' κ)
 inj:XA c6 μ'
 own:∀ κ b g c,look c6 κ=some b→μ' κ=some (some (g,c))→w.heap.size≤g∨T g
 sub:∀ b,S b→S' b
 new:∀ b,S' b→S b∨w.heap.size≤b∨T b
 bound:∀ b,S' b→b < w'.heap.size
 kept:Kept w w' T
theorem Tg.Th {w w':World} {S T T' S':Nat→Prop} {res:AV} {c6:List (Nat × bP)} {v:Value} {μ':Mu} (h:Tg w S T res c6 v S' μ' w') (hT:∀ b,T b→T' b):Tg w S T' res c6 v S' μ' w' :=
 ⟨h.res,h.mem,h.inj,fun κ b g c h1 h2=>(h.own κ b g c h1 h2).imp id (hT g),h.sub,fun b hb=>(h.new b hb).imp id (Or.imp id (hT b)),h.bound,h.kept.Bs hT⟩
def gQ (P:Program) (f:FuncId) (args:List AV) (c6:List (Nat × bP)) (res:AV) (gR:List (Nat × bP)):Prop :=
 ga P f=true∧∀ (w:World) (S:Nat→Prop) (μ:Mu) (vs:Array Value),(∀ b,S b→b < w.heap.size)→kN w S→(∀ ν,eo w S μ ν args vs.toList)→(∀ κ b,look c6 κ=some b→jq w S μ b (μ κ))→XA c6 μ →
  Calls P f vs w fun e w'=>∃ v S' μ',e=.returned v∧Tg w S (Handed c6 μ) res gR v S' μ' w'
theorem Ff {P:Program} {w:World} {f:FuncId} (h:ga P f=true) (args:Array Value):(callFunc f args).run P w=.ok (.enter f args) w:=by
 unfold ga at h
 cases hf:P.funcs[f]? with
 | none=>rw [hf] at h; cases h
 | some fn =>
  rw [hf] at h
  simp only [Bool.and_eq_true,bne_iff_ne,ne_eq] at h
  have h2:¬ fn.body=none:=by cases hb:fn.body <;> simp_all
  simp [callFunc,hf,h.1,h2]
section
variable {C : Cx} {A : M} {a : Act} {w : World} {S : Nat → Prop} {μ : Mu} {ν : Nat → Bool}
def flat:D→Bool
 | .v _=>true
 | .agg cs=>PL cs
 | .sl _ _=>false
where PL:List D→Bool
 | []=>true
 | .v _ :: r=>PL r
 | _ :: _=>false
theorem K3:∀ (l:List D) (i:Nat),flat.PL l=true→i < l.length→∃ x,l.getD i default=.v x
 | [],i,_,hi=>absurd hi (by simp)
 | .v x :: r,0,_,_=>⟨x,rfl⟩
 | .v x :: r,i+1,h,hi=>by simpa using K3 r i (by simpa [flat.PL] using h) (by simpa using hi)
 | .agg _ :: r,_,h,_=>by simp [flat.PL] at h
 | .sl _ _ :: r,_,h,_=>by simp [flat.PL] at h
theorem XB {d:D} (h:flat d=true) {w':World} {S':Nat→Prop} {x:Value} (hr:Rd w S d x):Rd w' S' d x:=by
 cases hr with
 | v _ hs=>exact .v _ hs
 | agg cs vs hl hh =>
  refine .agg cs vs hl (fun i hi=>?_)
  obtain ⟨y,hy⟩:=K3 cs i (by simpa [flat] using h) hi
  have:=hh i hi
  rw [hy] at this ⊢
  cases this with
  | v _ hs=>exact .v _ hs
 | nil=>simp [flat] at h
 | sl=>simp [flat] at h
def gJ:AV→Bool
 | .d x=>flat x
 | .fD l=>nG l
 | _=>false
where nG:List AV→Bool
 | []=>true
 | .d x :: r=>flat x&&nG r
 | _ :: _=>false
theorem Iv:∀ (l:List AV) (i:Nat),gJ.nG l=true→i < l.length→∃ x,l.getD i default=.d x∧flat x=true
 | [],i,_,hi=>absurd hi (by simp)
 | .d x :: r,0,h,_=>⟨x,rfl,by simp only [gJ.nG,Bool.and_eq_true] at h; exact h.1⟩
 | .d x :: r,i+1,h,hi=>by
  simp only [gJ.nG,Bool.and_eq_true] at h
  simpa using Iv r i h.2 (by simpa using hi)
 | .any :: r,_,h,_=>by simp [gJ.nG] at h
 | .own _ _ :: r,_,h,_=>by simp [gJ.nG] at h
 | .ptr _ _ :: r,_,h,_=>by simp [gJ.nG] at h
 | .zL _ _ _ _ :: r,_,h,_=>by simp [gJ.nG] at h
 | .ref _ :: r,_,h,_=>by simp [gJ.nG] at h
 | .Bo _ _ :: r,_,h,_=>by simp [gJ.nG] at h
 | .vp _ :: r,_,h,_=>by simp [gJ.nG] at h
 | .CP _ _ :: r,_,h,_=>by simp [gJ.nG] at h
 | .fn _ _ :: r,_,h,_=>by simp [gJ.nG] at h
 | .fD _ :: r,_,h,_=>by simp [gJ.nG] at h
 | .ag _ :: r,_,h,_=>by simp [gJ.nG] at h
 | .g _ _ :: r,_,h,_=>by simp [gJ.nG] at h
theorem PM {x:AV} (h:gJ x=true) {w':World} {S':Nat→Prop} {μ':Mu} {ν':Nat→Bool} {v:Value} (hr:Rel w S μ ν x v):Rel w' S' μ' ν' x v:=by
 cases hr with
 | d hd=>exact .d (XB (by simpa [gJ] using h) hd)
 | fD hl hh =>
  refine .fD hl (fun i hi=>?_)
  obtain ⟨y,hy,hf⟩:=Iv _ i (by simpa [gJ] using h) hi
  have:=hh i hi
  rw [hy] at this ⊢
  exact .d (XB hf (jW.1 this))
 | any=>simp [gJ] at h
 | dt=>simp [gJ] at h
 | own=>simp [gJ] at h
 | ptr=>simp [gJ] at h
 | zL=>simp [gJ] at h
 | ref=>simp [gJ] at h
 | Bo=>simp [gJ] at h
 | vp=>simp [gJ] at h
 | CP=>simp [gJ] at h
 | fn=>simp [gJ] at h
 | ag=>simp [gJ] at h
 | g=>simp [gJ] at h
abbrev BR (α:Type):=Option (α × List (Nat × bP) × Ob)
def QQ (lb:List (Nat × bP)):AV→BR D
 | .d x=>some (x,[],.tt)
 | .Bo n f=>some (.sl n f,[],.tt)
 | .own κ n=>(match look lb κ with | some (.row e k m f)=>some (.sl n f,[(κ,.row e k m f)],.ne n m) | _=>none)
 | _=>none
def DT (lb:List (Nat × bP)):List AV→BR (List D)
 | []=>some ([],[],.tt)
 | x :: r=>(match QQ lb x,DT lb r with | some (y,ro,ob),some (l,PK,E0)=>some (y :: l,ro++PK,ob.and E0) | _,_=>none)
def BE (lb:List (Nat × bP)):AV→BR AV
 | .ref cs=>some (.ref cs,[],.tt)
 | .ptr κ off=>(match look lb κ with
  | some (.box cs)=>(match DT lb cs with | some (ds,ro,ob)=>some (.ref (ds.drop off),(κ,.box cs) :: ro,ob) | none=>none)
  | _=>none)
 | .ag l=>(match DT lb l with | some (ds,ro,ob)=>some (.d (.agg ds),ro,ob) | none=>none)
 | .vp κ=>(match look lb κ with | some (.mp n f)=>some (.CP n f,[(κ,.mp n f)],.tt) | some .mx=>some (.any,[],.tt) | _=>none)
 | .CP n f=>some (.CP n f,[],.tt)
 | x=>(match QQ lb x with | some (y,ro,ob)=>some (.d y,ro,ob) | none=>none)
def zU (lb:List (Nat × bP)):List AV→BR (List AV)
 | []=>some ([],[],.tt)
 | x :: r=>(match BE lb x,zU lb r with | some (y,ro,ob),some (l,PK,E0)=>some (y :: l,ro++PK,ob.and E0) | _,_=>none)
def A9 (lb:List (Nat × bP)):AV→BR AV
 | .fn f cY=>(match zU lb cY with | some (l,ro,ob)=>some (.fn f l,ro,ob) | none=>none)
 | x=>BE lb x
def yJ (lb:List (Nat × bP)):List AV→BR (List AV)
 | []=>some ([],[],.tt)
 | x :: r=>(match A9 lb x,yJ lb r with | some (y,ro,ob),some (l,PK,E0)=>some (y :: l,ro++PK,ob.and E0) | _,_=>none)
theorem XC (hs:dG C A a w S μ ν) {S':Nat→Prop} (hS:∀ b,S b→S' b) (hO:∀ κ b g c,A.lb κ=some b→μ κ=some (some (g,c))→S' g) {lb:List (Nat × bP)} {x:AV} {y:D} {ro:List (Nat × bP)} {ob:Ob} (h:QQ lb x=some (y,ro,ob)) (oq:∀ p,p∈ro→A.lb p.1=some p.2) (cD:ob.den) {v:Value} (hr:Rel w S μ ν x v):Rd w S' y v:=by
 unfold QQ at h
 split at h
 ·simp only [Option.some.injEq,Prod.mk.injEq] at h
  obtain ⟨rfl,-,-⟩:=h
  exact (jW.1 hr).mono hS (fun _ _=>rfl)
 ·simp only [Option.some.injEq,Prod.mk.injEq] at h
  obtain ⟨rfl,-,-⟩:=h
  cases hr with
  | Bo hd=>exact hd.mono hS (fun _ _=>rfl)
 ·rename_i κ n
  split at h
  ·rename_i e k m f hl
   simp only [Option.some.injEq,Prod.mk.injEq] at h
   obtain ⟨rfl,rfl,rfl⟩:=h
   simp only [Ob.den] at cD
   have hm:=hs.mem κ _ (oq (κ,.row e k m f) (by simp))
   cases hr with
   | @dt _ ad =>
    cases ad with
    | none=>exact .nil f
    | some ad=>exact .sl 0 f ad 0 0 (fun _ _=>undef) (Nat.le_refl _) (by simp [maxLen]) (.inl rfl) (fun i hi=>absurd hi (by omega)) (fun i j hi=>absurd hi (by omega)) (fun i j hi=>absurd hi (by omega))
   | @own _ _ g cap hμ =>
    rw [hμ] at hm
    have gH:=hO κ _ g cap (oq (κ,.row e k m f) (by simp)) hμ
    obtain ⟨cur,hg,_,kM,hn,hc,rq⟩:=hm.at
    refine .sl n f ⟨g,0,none⟩ cap k (fun i j=>(cur[i * k+j]?).getD undef) (by omega) hc (.inr rfl) (fun i hi=>(rq i (by omega)).1) (fun i j hi hj=>⟨gH,?_⟩) (fun i j hi hj=>?_)
    ·obtain ⟨u,hu,_⟩:=(rq i (by omega)).2 j hj
     rw [Nat.zero_add,iJ w g _ cur e _ hg,hu]
     rfl
    ·obtain ⟨u,hu,VV⟩:=(rq i (by omega)).2 j hj
     rw [hu]
     exact VV.mono hS (fun _ _=>rfl)
  ·cases h
 ·cases h
theorem K4 (hs:dG C A a w S μ ν) {S':Nat→Prop} (hS:∀ b,S b→S' b) (hO:∀ κ b g c,A.lb κ=some b→μ κ=some (some (g,c))→S' g) {lb:List (Nat × bP)}:∀ {xs:List AV} {ys:List D} {ro:List (Nat × bP)} {ob:Ob},DT lb xs=some (ys,ro,ob)→(∀ p,p∈ro→A.lb p.1=some p.2)→ob.den→∀ {vs:List Value},eo w S μ ν xs vs →
  ys.length=xs.length∧∀ i,i < ys.length→Rd w S' (ys.getD i default) (vs.getD i undef)
 | [],ys,ro,ob,h,_,_,vs,_=>by
  simp only [DT,Option.some.injEq,Prod.mk.injEq] at h
  obtain ⟨rfl,-,-⟩:=h
  exact ⟨rfl,fun i hi=>absurd hi (by simp)⟩
 | x :: r,ys,ro,ob,h,oq,cD,vs,hr=>by
  simp only [DT] at h
  cases h1:QQ lb x with
  | none=>rw [h1] at h; cases h
  | some p =>
   obtain ⟨y,ro1,Ds⟩:=p
   cases h2:DT lb r with
   | none=>rw [h1,h2] at h; cases h
   | some q =>
    obtain ⟨l,ro2,I8⟩:=q
    rw [h1,h2] at h
    simp only [Option.some.injEq,Prod.mk.injEq] at h
    obtain ⟨rfl,rfl,rfl⟩:=h
    have hr0:=hr.2 0 (by simp)
    match vs,hr with
    | [],hr=>have:=hr.1; simp at this
    | v :: vs,hr =>
     have ht:eo w S μ ν r vs:=⟨by simpa using hr.1,fun i hi=>by simpa using hr.2 (i+1) (by simpa using hi)⟩
     obtain ⟨i1,i2⟩:=K4 hs hS hO h2 (fun p hp=>oq p (List.mem_append.2 (.inr hp))) (Ob.da cD).2 ht
     refine ⟨by simp [i1],fun i hi=>?_⟩
     cases i with
     | zero=>simpa using XC hs hS hO h1 (fun p hp=>oq p (List.mem_append.2 (.inl hp))) (Ob.da cD).1 (by simpa using hr.2 0 (by simp))
     | succ i=>simpa using i2 i (by simpa using hi)
theorem jh (hs:dG C A a w S μ ν) {S':Nat→Prop} (hS:∀ b,S b→S' b) (hO:∀ κ b g c,A.lb κ=some b→μ κ=some (some (g,c))→S' g) {lb:List (Nat × bP)} {x y:AV} {ro:List (Nat × bP)} {ob:Ob} (h:BE lb x=some (y,ro,ob)) (oq:∀ p,p∈ro→A.lb p.1=some p.2) (cD:ob.den) {v:Value} (hr:Rel w S μ ν x v) (μ':Mu) (ν':Nat→Bool):Rel w S' μ' ν' y v:=by
 have other:(match QQ lb x with | some (y,ro,ob)=>some (AV.d y,ro,ob) | none=>none)=some (y,ro,ob)→Rel w S' μ' ν' y v:=fun h=>by
  cases h1:QQ lb x with
  | none=>rw [h1] at h; cases h
  | some p =>
   obtain ⟨y',ro1,Ds⟩:=p
   rw [h1] at h
   simp only [Option.some.injEq,Prod.mk.injEq] at h
   obtain ⟨rfl,rfl,rfl⟩:=h
   exact .d (XC hs hS hO h1 oq cD hr)
 cases x with
 | ref cs =>
  simp only [BE,Option.some.injEq,Prod.mk.injEq] at h
  obtain ⟨rfl,-,-⟩:=h
  cases hr with
  | ref ef cC h=>exact .ref ef (fun j hj=>⟨hS _ (cC j hj).1,(cC j hj).2⟩) (fun j hj=>(h j hj).mono hS (fun _ _=>rfl))
 | ptr κ off =>
  simp only [BE] at h
  split at h
  ·rename_i cs hl
   split at h
   ·rename_i ds PK E0 hb
    simp only [Option.some.injEq,Prod.mk.injEq] at h
    obtain ⟨rfl,rfl,rfl⟩:=h
    cases hr with
    | @ptr _ _ g cap hμ =>
     have hm:=hs.mem κ _ (oq (κ,.box cs) (by simp))
     rw [hμ] at hm
     have gH:=hO κ _ g cap (oq (κ,.box cs) (by simp)) hμ
     obtain ⟨cur,e,hg,_,kM,rq⟩:=hm.at
     have hrl:eo w S μ ν cs cur.toList:=⟨by simpa using kM,fun i hi=>by
      obtain ⟨u,hu,VV⟩:=rq i hi
      rw [show cur.toList.getD i undef=u from by simp [List.getD,hu]]
      exact VV ν⟩
     obtain ⟨i1,i2⟩:=K4 hs hS hO hb (fun p hp=>oq p (List.mem_cons_of_mem _ hp)) cD hrl
     refine .ref (fun j=>cur.toList.getD (off+j) undef) (fun j hj=>⟨gH,?_⟩) (fun j hj=>?_)
     ·simp only [List.length_drop] at hj
      rw [iJ w g _ cur e _ hg]
      have:off+j < cur.size:=by omega
      simp [List.getD,this]
     ·simp only [List.length_drop] at hj
      rw [show (ds.drop off).getD j default=ds.getD (off+j) default from by simp [List.getD]]
      exact i2 (off+j) (by omega)
   ·cases h
  ·cases h
 | ag l =>
  simp only [BE] at h
  split at h
  ·rename_i ds PK E0 hb
   simp only [Option.some.injEq,Prod.mk.injEq] at h
   obtain ⟨rfl,rfl,rfl⟩:=h
   cases hr with
   | @ag _ vs hl hh =>
    obtain ⟨i1,i2⟩:=K4 hs hS hO hb oq cD (vs:=vs.toList) ⟨by rw [Array.length_toList]; exact hl,fun i hi=>by rw [← cZ]; exact hh i hi⟩
    exact .d (.agg ds vs (by omega) (fun i hi=>by rw [cZ]; exact i2 i hi))
  ·cases h
 | any=>exact other h
 | d=>exact other h
 | own=>exact other h
 | zL=>exact other h
 | Bo=>exact other h
 | CP n f =>
  simp only [BE,Option.some.injEq,Prod.mk.injEq] at h
  obtain ⟨rfl,-,-⟩:=h
  cases hr with
  | CP h=>exact .CP (h.mono hS (fun _ _=>rfl))
 | vp κ =>
  simp only [BE] at h
  split at h
  ·rename_i n f hl
   simp only [Option.some.injEq,Prod.mk.injEq] at h
   obtain ⟨rfl,rfl,rfl⟩:=h
   have hκ:=oq (κ,.mp n f) (by simp)
   cases hr with
   | @vp _ g cap hμ =>
    have hm:=hs.mem κ _ hκ
    rw [hμ] at hm
    obtain ⟨cur,h1,_,h2,h3⟩:=hm.at
    refine .CP ⟨hO κ _ g cap hκ hμ,cur,h1,h2,fun i hi=>?_⟩
    obtain ⟨e,q1,q2,q3,q4,q5⟩:=h3 i hi
    exact ⟨e,q1,q2,q3,q4,q5.mono hS (fun _ _=>rfl)⟩
  ·simp only [Option.some.injEq,Prod.mk.injEq] at h
   obtain ⟨rfl,-,-⟩:=h
   exact .any _
  ·cases h
 | fn=>exact other h
 | fD=>exact other h
 | g=>exact other h
theorem K5 (hs:dG C A a w S μ ν) {S':Nat→Prop} (hS:∀ b,S b→S' b) (hO:∀ κ b g c,A.lb κ=some b→μ κ=some (some (g,c))→S' g) {lb:List (Nat × bP)} (μ':Mu) (ν':Nat→Bool):∀ {xs ys:List AV} {ro:List (Nat × bP)} {ob:Ob},zU lb xs=some (ys,ro,ob)→(∀ p,p∈ro→A.lb p.1=some p.2)→ob.den→∀ {vs:List Value},eo w S μ ν xs vs →
  eo w S' μ' ν' ys vs
 | [],ys,ro,ob,h,_,_,vs,hr=>by
  simp only [zU,Option.some.injEq,Prod.mk.injEq] at h
  obtain ⟨rfl,-,-⟩:=h
  exact ⟨hr.1,fun i hi=>absurd hi (by simp)⟩
 | x :: r,ys,ro,ob,h,oq,cD,vs,hr=>by
  simp only [zU] at h
  cases h1:BE lb x with
  | none=>rw [h1] at h; cases h
  | some p =>
   obtain ⟨y,ro1,Ds⟩:=p
   cases h2:zU lb r with
   | none=>rw [h1,h2] at h; cases h
   | some q =>
    obtain ⟨l,ro2,I8⟩:=q
    rw [h1,h2] at h
    simp only [Option.some.injEq,Prod.mk.injEq] at h
    obtain ⟨rfl,rfl,rfl⟩:=h
    match vs,hr with
    | [],hr=>have:=hr.1; simp at this
    | v :: vs,hr =>
     have ht:eo w S μ ν r vs:=⟨by simpa using hr.1,fun i hi=>by simpa using hr.2 (i+1) (by simpa using hi)⟩
     have ih:=K5 hs hS hO μ' ν' h2 (fun p hp=>oq p (List.mem_append.2 (.inr hp))) (Ob.da cD).2 ht
     refine ⟨by simpa using ih.1,fun i hi=>?_⟩
     cases i with
     | zero=>simpa using jh hs hS hO h1 (fun p hp=>oq p (List.mem_append.2 (.inl hp))) (Ob.da cD).1 (by simpa using hr.2 0 (by simp)) μ' ν'
     | succ i=>simpa using ih.2 i (by simpa using hi)
theorem aal (hs:dG C A a w S μ ν) {S':Nat→Prop} (hS:∀ b,S b→S' b) (hO:∀ κ b g c,A.lb κ=some b→μ κ=some (some (g,c))→S' g) {lb:List (Nat × bP)} {x y:AV} {ro:List (Nat × bP)} {ob:Ob} (h:A9 lb x=some (y,ro,ob)) (oq:∀ p,p∈ro→A.lb p.1=some p.2) (cD:ob.den) {v:Value} (hr:Rel w S μ ν x v) (μ':Mu) (ν':Nat→Bool):Rel w S' μ' ν' y v:=by
 cases x with
 | fn f cY =>
  simp only [A9] at h
  split at h
  ·rename_i l PK E0 hb
   simp only [Option.some.injEq,Prod.mk.injEq] at h
   obtain ⟨rfl,rfl,rfl⟩:=h
   cases hr with
   | @fn _ _ vs hl hh =>
    obtain ⟨i1,i2⟩:=K5 hs hS hO μ' ν' hb oq cD (vs:=vs.toList) ⟨by simpa using hl,fun i hi=>by rw [← cZ]; exact hh i hi⟩
    exact .fn (by simpa using i1) (fun i hi=>by rw [cZ]; exact i2 i hi)
  ·cases h
 | any=>exact jh hs hS hO (lb:=lb) (by simpa only [A9] using h) oq cD hr μ' ν'
 | d=>exact jh hs hS hO (lb:=lb) (by simpa only [A9] using h) oq cD hr μ' ν'
 | own=>exact jh hs hS hO (lb:=lb) (by simpa only [A9] using h) oq cD hr μ' ν'
 | ptr=>exact jh hs hS hO (lb:=lb) (by simpa only [A9] using h) oq cD hr μ' ν'
 | zL=>exact jh hs hS hO (lb:=lb) (by simpa only [A9] using h) oq cD hr μ' ν'
 | ref=>exact jh hs hS hO (lb:=lb) (by simpa only [A9] using h) oq cD hr μ' ν'
 | Bo=>exact jh hs hS hO (lb:=lb) (by simpa only [A9] using h) oq cD hr μ' ν'
 | vp=>exact jh hs hS hO (lb:=lb) (by simpa only [A9] using h) oq cD hr μ' ν'
 | CP=>exact jh hs hS hO (lb:=lb) (by simpa only [A9] using h) oq cD hr μ' ν'
 | fD=>exact jh hs hS hO (lb:=lb) (by simpa only [A9] using h) oq cD hr μ' ν'
 | ag=>exact jh hs hS hO (lb:=lb) (by simpa only [A9] using h) oq cD hr μ' ν'
 | g=>exact jh hs hS hO (lb:=lb) (by simpa only [A9] using h) oq cD hr μ' ν'
theorem GQ (hs:dG C A a w S μ ν) {S':Nat→Prop} (hS:∀ b,S b→S' b) (hO:∀ κ b g c,A.lb κ=some b→μ κ=some (some (g,c))→S' g) {lb:List (Nat × bP)} (μ':Mu) (ν':Nat→Bool):∀ {xs ys:List AV} {ro:List (Nat × bP)} {ob:Ob},yJ lb xs=some (ys,ro,ob)→(∀ p,p∈ro→A.lb p.1=some p.2)→ob.den→∀ {vs:List Value},eo w S μ ν xs vs →
  eo w S' μ' ν' ys vs
 | [],ys,ro,ob,h,_,_,vs,hr=>by
  simp only [yJ,Option.some.injEq,Prod.mk.injEq] at h
  obtain ⟨rfl,-,-⟩:=h
  exact ⟨hr.1,fun i hi=>absurd hi (by simp)⟩
 | x :: r,ys,ro,ob,h,oq,cD,vs,hr=>by
  simp only [yJ] at h
  cases h1:A9 lb x with
  | none=>rw [h1] at h; cases h
  | some p =>
   obtain ⟨y,ro1,Ds⟩:=p
   cases h2:yJ lb r with
   | none=>rw [h1,h2] at h; cases h
   | some q =>
    obtain ⟨l,ro2,I8⟩:=q
    rw [h1,h2] at h
    simp only [Option.some.injEq,Prod.mk.injEq] at h
    obtain ⟨rfl,rfl,rfl⟩:=h
    match vs,hr with
    | [],hr=>have:=hr.1; simp at this
    | v :: vs,hr =>
     have ht:eo w S μ ν r vs:=⟨by simpa using hr.1,fun i hi=>by simpa using hr.2 (i+1) (by simpa using hi)⟩
     have ih:=GQ hs hS hO μ' ν' h2 (fun p hp=>oq p (List.mem_append.2 (.inr hp))) (Ob.da cD).2 ht
     refine ⟨by simpa using ih.1,fun i hi=>?_⟩
     cases i with
     | zero=>simpa using aal hs hS hO h1 (fun p hp=>oq p (List.mem_append.2 (.inl hp))) (Ob.da cD).1 (by simpa using hr.2 0 (by simp)) μ' ν'
     | succ i=>simpa using ih.2 i (by simpa using hi)
theorem zV {P:Program} {o:Oper} {cf:Operand} {xs:Array Operand} {ts:Array TypeId} (ho:o.op=.call { callee:=.value cf,args:=xs,argTypes:=ts }) {f:FuncId} {CW:Array Value} (YM:a.eval cf=.func (.func f) #[] CW) (hc:ga P f=true) :
  (execOp a.eval o).run P w=.ok (.enter f (xs.map a.eval++CW)) w:=by
 simp only [execOp,ho,resolve,YM,Deferred.ofValue,Sem.run_bind,Sem.run_pure,Result.andThen_ok,invoke,Array.empty_append]
 exact Ff hc _
theorem K6 {o:Oper} {cf:Operand} {xs:Array Operand} {ts:Array TypeId} {f:FuncId} {args cY Iw:List AV} {res:AV} {ro:List (Nat × bP)} {ob:Ob} {lb:List (Nat × bP)} {τ:Tr}
  (hs:dG C A a w S μ ν) (hd:∀ t,o.dst=some t→t < C.nt) (ho:o.op=.call { callee:=.value cf,args:=xs,argTypes:=ts }) (YM:Rel w S μ ν (.fn f cY) (a.eval cf)) (lq:eo w S μ ν args (xs.toList.map a.eval))
  (hb:yJ lb (args++cY)=some (Iw,ro,ob)) (oq:∀ p,p∈ro→A.lb p.1=some p.2) (cD:ob.den) (YN:gQ C.P f Iw [] res []) (hfl:gJ res=true)
  (h0:τ.v=res) (h1:τ.dst=o.dst) (h2:τ.mem=[]) (h3:τ.gI=[]) :
  o.wp C.P a w (fun a' w'=>∃ S' μ',dG C (τ.apply A) a' w' S' μ' ν) (fun _ _ _=>False):=by
 generalize hcv:a.eval cf=cv at YM
 cases YM with
 | @fn _ _ CW hl hh =>
  unfold Oper.wp
  rw [zV ho hcv YN.1]
  have rl:eo w S μ ν (args++cY) (xs.map a.eval++CW).toList:=by
   rw [Array.toList_append,Array.toList_map]
   exact lq.append ⟨by simpa using hl,fun i hi=>by rw [← cZ]; exact hh i hi⟩
  refine (YN.2 w (fun b=>b < w.heap.size) (fun _=>none) (xs.map a.eval++CW) (fun b hb=>hb) (hs.Bt.mono hs.bound (fun _ _=>rfl)) (fun ν'=>GQ hs hs.bound (fun κ b g c h1 h2=>by have:=hs.mem κ b h1; rw [h2] at this; exact this.at.lt) _ ν' hb oq cD rl) (fun κ b hk=>by simp [look] at hk) (fun κ κ' b b' g c c' hk=>by simp [look] at hk)).mono ?_
  rintro e w' ⟨v,S',μ',rfl,B⟩
  have hk:Kept w w' (fun _=>False):=⟨B.kept.os,B.kept.tape,B.kept.output,B.kept.size,fun b hb _=>B.kept.block b hb (fun ⟨κ,b',c,hx,_⟩=>by simp [look] at hx)⟩
  have h4:=hs.world (S':=S) (fun _ x=>x) (fun _ x=>.inl x) hk
  have h5:=h4.put (dst:=o.dst) (x:=res) (v:=v) hd (PM hfl (B.res ν))
  refine ⟨S,μ,?_⟩
  have e:τ.apply A=A.yE o.dst res:=by
   unfold Tr.apply M.yE M.put
   rw [h0,h1,h2,h3]
   cases ho:o.dst with
   | none=>simp [look]
   | some d =>
    simp only [look,List.map_nil,List.not_mem_nil,if_false,Option.some.injEq]
    congr 1
    funext t
    by_cases c:d=t
    ·simp [c]
    ·have:¬ t=d:=fun e=>c e.symm
     simp [c,this]
  rw [e]
  exact h5
end
section
variable {C : Cx} {A : M} {a : Act} {w : World} {S : Nat → Prop} {μ : Mu} {ν : Nat → Bool}
theorem AV.yK {k:Nat}:∀ (l:List AV) (i:Nat),i < l.length→k∈(l.getD i default).keys→k∈AV.so l
 | [],i,hi,_=>absurd hi (by simp)
 | a :: r,0,_,h=>by simp only [AV.so,List.mem_append]; exact .inl (by simpa using h)
 | a :: r,i+1,hi,h=>by simp only [AV.so,List.mem_append]; exact .inr (AV.yK r i (by simpa using hi) (by simpa using h))
theorem Rel.agree {μ':Mu} {x:AV} {v:Value} (h:Rel w S μ ν x v) (hk:∀ k,k∈x.keys→μ' k=μ k):Rel w S μ' ν x v:=by
 induction h with
 | any x=>exact .any x
 | d h=>exact .d h
 | @dt key _ h=>exact .dt (by rw [hk key (by simp [AV.keys])]; exact h)
 | @own key _ _ _ h=>exact .own (by rw [hk key (by simp [AV.keys])]; exact h)
 | @ptr key _ _ _ h=>exact .ptr (by rw [hk key (by simp [AV.keys])]; exact h)
 | @zL key _ _ _ _ _ h=>exact .zL (by rw [hk key (by simp [AV.keys])]; exact h)
 | ref ef cC h=>exact .ref ef cC h
 | Bo h=>exact .Bo h
 | @vp key _ _ h=>exact .vp (by rw [hk key (by simp [AV.keys])]; exact h)
 | CP h=>exact .CP h
 | @fn _ cY _ hl _ ih=>exact .fn hl (fun i hi=>ih i hi (fun k gY=>hk k (by simp only [AV.keys]; exact AV.yK cY i hi gY)))
 | @fD l _ hl _ ih=>exact .fD hl (fun i hi=>ih i hi (fun k gY=>hk k (by simp only [AV.keys]; exact AV.yK l i hi gY)))
 | @ag l _ hl _ ih=>exact .ag hl (fun i hi=>ih i hi (fun k gY=>hk k (by simp only [AV.keys]; exact AV.yK l i hi gY)))
 | g _ h0 ih=>exact .g (fun hp=>ih hp (fun k gY=>hk k (by simpa [AV.keys] using gY))) h0
theorem eH.agree {μ':Mu} {b:bP} {g cap:Nat} (h:eH w S μ b g cap) (hk:∀ k,k∈b.keys→μ' k=μ k):eH w S μ' b g cap:=by
 cases b with
 | box cs =>
  obtain ⟨cur,e,h1,h0,h2,h6⟩:=h
  refine ⟨cur,e,h1,h0,h2,fun j hj=>?_⟩
  obtain ⟨x,hx,hr⟩:=h6 j hj
  exact ⟨x,hx,fun ν=>(hr ν).agree (fun k gY=>hk k (AV.yK _ j hj gY))⟩
 | row e k n f=>exact h
 | mp n f=>exact h
 | it mk n seen =>
  obtain ⟨mg,c,h0,h1⟩:=h
  exact ⟨mg,c,by rw [hk mk (by simp [bP.keys])]; exact h0,h1⟩
 | mx=>exact h
theorem jq.agree {μ':Mu} {b:bP} {y:Option (Option (Nat × Nat))} (h:jq w S μ b y) (hk:∀ k,k∈b.keys→μ' k=μ k):jq w S μ' b y:=by
 cases y with
 | none=>cases b <;> exact h
 | some y =>
  cases y with
  | none=>cases b <;> exact h
  | some gc=>obtain ⟨g,c⟩:=gc; exact (h.at.agree hk).ok
theorem eo.nu {ν':Nat→Bool} {l:List AV} {vs:List Value} (h:eo w S μ ν l vs) (hn:wU.pE l=true):eo w S μ ν' l vs:=⟨h.1,fun i hi=>(h.2 i hi).nu (sE l i hn hi)⟩
theorem YO {o:Oper} {cf:Operand} {xs:Array Operand} {ts:Array TypeId} {f:FuncId} {args cY:List AV} {res:AV} {c6 gR:List (Nat × bP)} {need:List (Nat × AV)} {ro:List (Nat × bP)} {gs:List (Nat × Bool)}
  (hs:dG C A a w S μ ν) (hd:∀ t,o.dst=some t→t < C.nt) (ho:o.op=.call { callee:=.value cf,args:=xs,argTypes:=ts }) (YM:Rel w S μ ν (.fn f cY) (a.eval cf)) (lq:eo w S μ ν args (xs.toList.map a.eval)) (hn:wU.pE (args++cY)=true)
  (YN:gQ C.P f (args++cY) c6 res gR) (VF:∀ p,p∈c6→A.lb p.1=some p.2) (yA:∀ k,k∈gR.map (·.1)→lh A k) (YP:∀ k,k∈res.keys→k∈gR.map (·.1)) (I9:∀ p,p∈gR→∀ k,k∈p.2.keys→k∈gR.map (·.1)) :
  o.wp C.P a w (fun a' w'=>∃ S' μ',dG C ((Tr.mk need o.dst res ro c6 gR gs).apply A) a' w' S' μ' ν) (fun _ _ _=>False):=by
 generalize hcv:a.eval cf=cv at YM
 cases YM with
 | @fn _ _ CW hl hh =>
  unfold Oper.wp
  rw [zV ho hcv YN.1]
  have rl:eo w S μ ν (args++cY) (xs.map a.eval++CW).toList:=by
   rw [Array.toList_append,Array.toList_map]
   exact lq.append ⟨by simpa using hl,fun i hi=>by rw [← cZ]; exact hh i hi⟩
  have xM:∀ κ b,look c6 κ=some b→A.lb κ=some b:=fun κ b h=>VF (κ,b) (kf h)
  refine (YN.2 w S μ (xs.map a.eval++CW) hs.bound hs.Bt (fun ν'=>rl.nu hn) (fun κ b hk=>hs.mem κ b (xM κ b hk)) (fun κ κ' b b' g c c' h1 h2 h3 h4=>hs.inj κ κ' b b' g c c' (xM _ _ h1) (xM _ _ h2) h3 h4)).mono ?_
  rintro e w' ⟨v,S',μ',rfl,B⟩
  have hT:∀ q,Handed c6 μ q→C.w0.heap.size≤q∨C.T0 q:=fun q ⟨κ,b,c,h1,h2⟩=>hs.own κ b q c (xM κ b h1) h2
  have hTs:∀ q,Handed c6 μ q→¬ S q:=fun q ⟨κ,b,c,h1,h2⟩=>by
   have:=hs.mem κ b (xM κ b h1)
   rw [h2] at this
   exact this.at.not
  have hw:∀ q,S q→w'.heap[q]? = w.heap[q]?:=fun q hq=>B.kept.block q (hs.bound q hq) (fun ht=>hTs q ht hq)
  let μ'':Mu:=fun k=>if k∈gR.map (·.1) then μ' k else μ k
  have ag:∀ k,k ∉ gR.map (·.1)→μ'' k=μ k:=fun k hk=>by simp only [μ'',hk,if_false]
  have ZV:∀ k,k∈gR.map (·.1)→μ'' k=μ' k:=fun k hk=>by simp only [μ'',hk,if_true]
  have old:∀ x v,Rel w S μ ν x v→(∀ k,k∈gR.map (·.1)→k ∉ x.keys)→Rel w' S' μ'' ν x v:=fun x v hr hk =>
   (hr.mono B.sub hw (fun _ _ e=>e)).agree (fun k hkx=>ag k (fun gY=>hk k gY hkx))
  refine ⟨S',μ'',?_⟩
  have K7:∀ κ b,((Tr.mk need o.dst res ro c6 gR gs).apply A).lb κ=some b→(look gR κ=some b∧κ∈gR.map (·.1))∨(κ ∉ gR.map (·.1)∧κ ∉ c6.map (·.1)∧A.lb κ=some b):=by
   intro κ b hb
   simp only [Tr.apply] at hb
   cases KS:look gR κ with
   | some b' =>
    rw [KS] at hb
    simp only [Option.some.injEq] at hb
    subst hb
    exact .inl ⟨rfl,sC KS⟩
   | none =>
    rw [KS] at hb
    simp only at hb
    have hnk:κ ∉ gR.map (·.1):=fun hk=>by
     obtain ⟨p,hp,e⟩:=List.mem_map.1 hk
     have:∀ (l:List (Nat × bP)),p∈l→look l κ≠none:=by
      intro l
      induction l with
      | nil=>intro h; cases h
      | cons q r ih =>
       intro h hn
       obtain ⟨q1,q2⟩:=q
       simp only [look] at hn
       cases hq:Nat.beq q1 κ with
       | true=>rw [hq] at hn; cases hn
       | false =>
        rw [hq] at hn
        rcases List.mem_cons.1 h with h' | h'
        ·subst h'
         simp only at e
         rw [e,Nat.beq_refl] at hq
         cases hq
        ·exact ih h' (by simpa using hn)
     exact this gR hp KS
    split at hb
    ·cases hb
    ·rename_i hnm
     exact .inr ⟨hnk,hnm,hb⟩
  have hgT:∀ κ b g c,κ ∉ c6.map (·.1)→A.lb κ=some b→μ κ=some (some (g,c))→¬ Handed c6 μ g∧g < w.heap.size∧¬ S g:=by
   intro κ b g c hnm hb hμ
   have hm:=hs.mem κ b hb
   rw [hμ] at hm
   refine ⟨fun ⟨κ2,b2,c2,h1,h2⟩=>?_,hm.at.lt,hm.at.not⟩
   have:=hs.inj κ κ2 b b2 g c c2 hb (xM _ _ h1) hμ h2
   rw [this] at hnm
   exact hnm (sC h1)
  refine ⟨?_,?_,fun t=>?_,fun κ b hb=>?_,fun κ1 κ2 b1 b2 g c c' h1 h2 h3 h4=>?_,fun κ b g c hb hμ=>?_,fun b hb=>B.sub b (hs.fU b hb),fun b hb=>?_,B.bound,?_⟩
  ·simp only [Act.put]; split <;> simp [hs.tmps]
  ·simp only [Act.put]; split <;> exact hs.defers
  ·simp only [Tr.apply]
   by_cases c:o.dst=some t
   ·simp only [c,if_true,Act.put]
    rw [iW _ _ _ (by rw [hs.tmps]; exact hd t c)]
    exact (B.res ν).agree (fun k hk=>ZV k (YP k hk))
   ·simp only [c,if_false]
    have e:(a.put o.dst v).tmps.getD t undef=a.tmps.getD t undef:=by
     cases eT:o.dst with
     | none=>rfl
     | some d =>
      simp only [Act.put]
      exact dw _ _ _ _ (fun e=>c (by rw [eT,e]))
    rw [e]
    exact old _ _ (hs.fa t) (fun k hk=>(yA k hk).sl t)
  ·rcases K7 κ b hb with ⟨h1,h2⟩ | ⟨h1,h2,h3⟩
   ·rw [ZV κ h2]
    exact (B.mem κ b h1).agree (fun k hk=>ZV k (I9 (κ,b) (kf h1) k hk))
   ·rw [ag κ h1]
    have hm:=hs.mem κ b h3
    refine (hm.mono B.sub hw (fun _ _ e=>e) (fun g c e=>?_)).agree (fun k hk=>ag k (fun gY=>(yA k gY).bl κ b h3 hk))
    obtain ⟨q1,q2,q3⟩:=hgT κ b g c h2 h3 e
    refine ⟨B.kept.block g q2 q1,fun yG=>?_⟩
    rcases B.new g yG with h | h | h
    ·exact q3 h
    ·omega
    ·exact q1 h
  ·rcases K7 κ1 b1 h1 with ⟨x1,x2⟩ | ⟨x1,x2,x3⟩
   ·rw [ZV κ1 x2] at h3
    rcases K7 κ2 b2 h2 with ⟨y1,y2⟩ | ⟨y1,y2,y3⟩
    ·rw [ZV κ2 y2] at h4
     exact B.inj κ1 κ2 b1 b2 g c c' x1 y1 h3 h4
    ·rw [ag κ2 y1] at h4
     obtain ⟨q1,q2,q3⟩:=hgT κ2 b2 g c' y2 y3 h4
     rcases B.own κ1 b1 g c x1 h3 with h | h
     ·omega
     ·exact absurd h q1
   ·rw [ag κ1 x1] at h3
    obtain ⟨q1,q2,q3⟩:=hgT κ1 b1 g c x2 x3 h3
    rcases K7 κ2 b2 h2 with ⟨y1,y2⟩ | ⟨y1,y2,y3⟩
    ·rw [ZV κ2 y2] at h4
     rcases B.own κ2 b2 g c' y1 h4 with h | h
     ·omega
     ·exact absurd h q1
    ·rw [ag κ2 y1] at h4
     exact hs.inj κ1 κ2 b1 b2 g c c' x3 y3 h3 h4
  ·rcases K7 κ b hb with ⟨h1,h2⟩ | ⟨h1,h2,h3⟩
   ·rw [ZV κ h2] at hμ
    rcases B.own κ b g c h1 hμ with h | h
    ·exact .inl (Nat.le_trans hs.kept.size h)
    ·exact hT g h
   ·rw [ag κ h1] at hμ
    exact hs.own κ b g c h3 hμ
  ·rcases B.new b hb with h | h | h
   ·exact hs.fresh b h
   ·exact .inr (.inl (Nat.le_trans hs.kept.size h))
   ·rcases hT b h with h' | h'
    ·exact .inr (.inl h')
    ·exact .inr (.inr h')
  ·refine hs.kept.trans B.kept (fun b hb h=>?_)
   rcases hT b h with h' | h'
   ·omega
   ·exact h'
def FnB (P:Program) (f:FuncId) (args:List AV) (c6:List (Nat × bP)) (res:AV) (gR:List (Nat × bP)) (jX:List (Nat × Nat)):Prop :=
 ga P f=true∧∀ (w:World) (S:Nat→Prop) (μ:Mu) (vs:Array Value),(∀ b,S b→b < w.heap.size)→kN w S→(∀ ν,eo w S μ ν args vs.toList)→(∀ κ b,look c6 κ=some b→jq w S μ b (μ κ))→XA c6 μ →
  Calls P f vs w fun e w'=>∃ v S' μ',e=.returned v∧Tg w S (Handed c6 μ) res gR v S' μ' w'∧∀ p,p∈jX→∀ ν,Rel w' S' μ' ν (.ptr p.2 0) (vs.toList.getD p.1 undef)
theorem QR {jX:List (Nat × Nat)} {o:Oper} {cf:Operand} {xs:Array Operand} {ts:Array TypeId} {f:FuncId} {args cY:List AV} {res:AV} {c6 gR:List (Nat × bP)} {need:List (Nat × AV)} {ro:List (Nat × bP)} {gs:List (Nat × Bool)}
  (hs:dG C A a w S μ ν) (hd:∀ t,o.dst=some t→t < C.nt) (ho:o.op=.call { callee:=.value cf,args:=xs,argTypes:=ts }) (YM:Rel w S μ ν (.fn f cY) (a.eval cf)) (lq:eo w S μ ν args (xs.toList.map a.eval)) (hn:wU.pE (args++cY)=true)
  (YN:FnB C.P f (args++cY) c6 res gR jX) (adT:∀ p,p∈jX→p.1 < (args++cY).length∧(args++cY).getD p.1 default=.ptr p.2 0∧(∃ cs,look c6 p.2=some (.box cs))∧∃ cs,look gR p.2=some (.box cs)) (VF:∀ p,p∈c6→A.lb p.1=some p.2) (yA:∀ k,k∈gR.map (·.1)→k ∉ jX.map (·.2)→lh A k) (YP:∀ k,k∈res.keys→k∈gR.map (·.1)∧k ∉ jX.map (·.2)) (I9:∀ p,p∈gR→∀ k,k∈p.2.keys→k∈gR.map (·.1)∧k ∉ jX.map (·.2)) :
  o.wp C.P a w (fun a' w'=>∃ S' μ',dG C ((Tr.mk need o.dst res ro c6 gR gs).apply A) a' w' S' μ' ν) (fun _ _ _=>False):=by
 generalize hcv:a.eval cf=cv at YM
 cases YM with
 | @fn _ _ CW hl hh =>
  unfold Oper.wp
  rw [zV ho hcv YN.1]
  have rl:eo w S μ ν (args++cY) (xs.map a.eval++CW).toList:=by
   rw [Array.toList_append,Array.toList_map]
   exact lq.append ⟨by simpa using hl,fun i hi=>by rw [← cZ]; exact hh i hi⟩
  have xM:∀ κ b,look c6 κ=some b→A.lb κ=some b:=fun κ b h=>VF (κ,b) (kf h)
  refine (YN.2 w S μ (xs.map a.eval++CW) hs.bound hs.Bt (fun ν'=>rl.nu hn) (fun κ b hk=>hs.mem κ b (xM κ b hk)) (fun κ κ' b b' g c c' h1 h2 h3 h4=>hs.inj κ κ' b b' g c c' (xM _ _ h1) (xM _ _ h2) h3 h4)).mono ?_
  rintro e w' ⟨v,S',μ',rfl,B,ha⟩
  have afn:∀ κ,κ∈jX.map (·.2)→κ∈gR.map (·.1)∧(∃ cs,look gR κ=some (.box cs))∧∃ g c c',μ κ=some (some (g,c))∧μ' κ=some (some (g,c')):=by
   intro κ hκ
   obtain ⟨p,hp,rfl⟩:=List.mem_map.1 hκ
   obtain ⟨h1,h2,-,cs,h4⟩:=adT p hp
   have h5:=rl.2 p.1 h1
   rw [h2] at h5
   have h6:=ha p hp ν
   generalize (xs.map a.eval++CW).toList.getD p.1 undef=u at h5 h6
   refine ⟨sC h4,⟨cs,h4⟩,?_⟩
   cases h5 with
   | @ptr _ _ g c hμ =>
    cases h6 with
    | @ptr _ _ _ c' hμ'=>exact ⟨g,c,c',hμ,hμ'⟩
  have hT:∀ q,Handed c6 μ q→C.w0.heap.size≤q∨C.T0 q:=fun q ⟨κ,b,c,h1,h2⟩=>hs.own κ b q c (xM κ b h1) h2
  have hTs:∀ q,Handed c6 μ q→¬ S q:=fun q ⟨κ,b,c,h1,h2⟩=>by
   have:=hs.mem κ b (xM κ b h1)
   rw [h2] at this
   exact this.at.not
  have hw:∀ q,S q→w'.heap[q]? = w.heap[q]?:=fun q hq=>B.kept.block q (hs.bound q hq) (fun ht=>hTs q ht hq)
  let μ'':Mu:=fun k=>if k∈jX.map (·.2) then μ k else if k∈gR.map (·.1) then μ' k else μ k
  have ag:∀ k,(k∈gR.map (·.1)→k∈jX.map (·.2))→μ'' k=μ k:=fun k hk=>by
   simp only [μ'']
   by_cases h1:k∈jX.map (·.2)
   ·rw [if_pos h1]
   ·rw [if_neg h1,if_neg (fun h=>h1 (hk h))]
  have ZV:∀ k,k∈gR.map (·.1)→k ∉ jX.map (·.2)→μ'' k=μ' k:=fun k hk hn=>by simp only [μ'']; rw [if_neg hn,if_pos hk]
  have tr:∀ k g c,k∈gR.map (·.1)→μ'' k=some (some (g,c))→∃ c',μ' k=some (some (g,c')):=fun k g c hk h=>by
   by_cases h1:k∈jX.map (·.2)
   ·obtain ⟨-,-,g',c1,c2,e1,e2⟩:=afn k h1
    rw [ag k (fun _=>h1),e1] at h
    simp only [Option.some.injEq,Prod.mk.injEq] at h
    obtain ⟨rfl,rfl⟩:=h
    exact ⟨c2,e2⟩
   ·rw [ZV k hk h1] at h
    exact ⟨c,h⟩
  have old:∀ x v,Rel w S μ ν x v→(∀ k,k∈gR.map (·.1)→k ∉ jX.map (·.2)→k ∉ x.keys)→Rel w' S' μ'' ν x v:=fun x v hr hk =>
   (hr.mono B.sub hw (fun _ _ e=>e)).agree (fun k hkx=>ag k (fun gY=>Classical.byContradiction (fun hn=>hk k gY hn hkx)))
  refine ⟨S',μ'',?_⟩
  have K7:∀ κ b,((Tr.mk need o.dst res ro c6 gR gs).apply A).lb κ=some b→(look gR κ=some b∧κ∈gR.map (·.1))∨(κ ∉ gR.map (·.1)∧κ ∉ c6.map (·.1)∧A.lb κ=some b):=by
   intro κ b hb
   simp only [Tr.apply] at hb
   cases KS:look gR κ with
   | some b' =>
    rw [KS] at hb
    simp only [Option.some.injEq] at hb
    subst hb
    exact .inl ⟨rfl,sC KS⟩
   | none =>
    rw [KS] at hb
    simp only at hb
    have hnk:κ ∉ gR.map (·.1):=fun hk=>by
     obtain ⟨p,hp,e⟩:=List.mem_map.1 hk
     have:∀ (l:List (Nat × bP)),p∈l→look l κ≠none:=by
      intro l
      induction l with
      | nil=>intro h; cases h
      | cons q r ih =>
       intro h hn
       obtain ⟨q1,q2⟩:=q
       simp only [look] at hn
       cases hq:Nat.beq q1 κ with
       | true=>rw [hq] at hn; cases hn
       | false =>
        rw [hq] at hn
        rcases List.mem_cons.1 h with h' | h'
        ·subst h'
         simp only at e
         rw [e,Nat.beq_refl] at hq
         cases hq
        ·exact ih h' (by simpa using hn)
     exact this gR hp KS
    split at hb
    ·cases hb
    ·rename_i hnm
     exact .inr ⟨hnk,hnm,hb⟩
  have hgT:∀ κ b g c,κ ∉ c6.map (·.1)→A.lb κ=some b→μ κ=some (some (g,c))→¬ Handed c6 μ g∧g < w.heap.size∧¬ S g:=by
   intro κ b g c hnm hb hμ
   have hm:=hs.mem κ b hb
   rw [hμ] at hm
   refine ⟨fun ⟨κ2,b2,c2,h1,h2⟩=>?_,hm.at.lt,hm.at.not⟩
   have:=hs.inj κ κ2 b b2 g c c2 hb (xM _ _ h1) hμ h2
   rw [this] at hnm
   exact hnm (sC h1)
  refine ⟨?_,?_,fun t=>?_,fun κ b hb=>?_,fun κ1 κ2 b1 b2 g c c' h1 h2 h3 h4=>?_,fun κ b g c hb hμ=>?_,fun b hb=>B.sub b (hs.fU b hb),fun b hb=>?_,B.bound,?_⟩
  ·simp only [Act.put]; split <;> simp [hs.tmps]
  ·simp only [Act.put]; split <;> exact hs.defers
  ·simp only [Tr.apply]
   by_cases c:o.dst=some t
   ·simp only [c,if_true,Act.put]
    rw [iW _ _ _ (by rw [hs.tmps]; exact hd t c)]
    exact (B.res ν).agree (fun k hk=>ZV k (YP k hk).1 (YP k hk).2)
   ·simp only [c,if_false]
    have e:(a.put o.dst v).tmps.getD t undef=a.tmps.getD t undef:=by
     cases eT:o.dst with
     | none=>rfl
     | some d =>
      simp only [Act.put]
      exact dw _ _ _ _ (fun e=>c (by rw [eT,e]))
    rw [e]
    exact old _ _ (hs.fa t) (fun k hk hn=>(yA k hk hn).sl t)
  ·rcases K7 κ b hb with ⟨h1,h2⟩ | ⟨h1,h2,h3⟩
   ·have hm:=B.mem κ b h1
    have hk2:∀ k,k∈b.keys→μ'' k=μ' k:=fun k hk=>ZV k (I9 (κ,b) (kf h1) k hk).1 (I9 (κ,b) (kf h1) k hk).2
    by_cases hn:κ∈jX.map (·.2)
    ·obtain ⟨-,⟨cs,e0⟩,g',c1,c2,e1,e2⟩:=afn κ hn
     rw [h1] at e0
     simp only [Option.some.injEq] at e0
     subst e0
     rw [ag κ (fun _=>hn),e1]
     rw [e2] at hm
     have h3:eH w' S' μ' (.box cs) g' c1:=hm.at
     exact eH.ok (b:=.box cs) (h3.agree hk2)
    ·rw [ZV κ h2 hn]
     exact hm.agree hk2
   ·rw [ag κ (fun h=>absurd h h1)]
    have hm:=hs.mem κ b h3
    refine (hm.mono B.sub hw (fun _ _ e=>e) (fun g c e=>?_)).agree (fun k hk=>ag k (fun gY=>Classical.byContradiction (fun hn=>(yA k gY hn).bl κ b h3 hk)))
    obtain ⟨q1,q2,q3⟩:=hgT κ b g c h2 h3 e
    refine ⟨B.kept.block g q2 q1,fun yG=>?_⟩
    rcases B.new g yG with h | h | h
    ·exact q3 h
    ·omega
    ·exact q1 h
  ·rcases K7 κ1 b1 h1 with ⟨x1,x2⟩ | ⟨x1,x2,x3⟩
   ·obtain ⟨d1,h3⟩:=tr κ1 g c x2 h3
    rcases K7 κ2 b2 h2 with ⟨y1,y2⟩ | ⟨y1,y2,y3⟩
    ·obtain ⟨d2,h4⟩:=tr κ2 g c' y2 h4
     exact B.inj κ1 κ2 b1 b2 g d1 d2 x1 y1 h3 h4
    ·rw [ag κ2 (fun h=>absurd h y1)] at h4
     obtain ⟨q1,q2,q3⟩:=hgT κ2 b2 g c' y2 y3 h4
     rcases B.own κ1 b1 g d1 x1 h3 with h | h
     ·omega
     ·exact absurd h q1
   ·rw [ag κ1 (fun h=>absurd h x1)] at h3
    obtain ⟨q1,q2,q3⟩:=hgT κ1 b1 g c x2 x3 h3
    rcases K7 κ2 b2 h2 with ⟨y1,y2⟩ | ⟨y1,y2,y3⟩
    ·obtain ⟨d2,h4⟩:=tr κ2 g c' y2 h4
     rcases B.own κ2 b2 g d2 y1 h4 with h | h
     ·omega
     ·exact absurd h q1
    ·rw [ag κ2 (fun h=>absurd h y1)] at h4
     exact hs.inj κ1 κ2 b1 b2 g c c' x3 y3 h3 h4
  ·rcases K7 κ b hb with ⟨h1,h2⟩ | ⟨h1,h2,h3⟩
   ·obtain ⟨d1,hμ⟩:=tr κ g c h2 hμ
    rcases B.own κ b g d1 h1 hμ with h | h
    ·exact .inl (Nat.le_trans hs.kept.size h)
    ·exact hT g h
   ·rw [ag κ (fun h=>absurd h h1)] at hμ
    exact hs.own κ b g c h3 hμ
  ·rcases B.new b hb with h | h | h
   ·exact hs.fresh b h
   ·exact .inr (.inl (Nat.le_trans hs.kept.size h))
   ·rcases hT b h with h' | h'
    ·exact .inr (.inl h')
    ·exact .inr (.inr h')
  ·refine hs.kept.trans B.kept (fun b hb h=>?_)
   rcases hT b h with h' | h'
   ·omega
   ·exact h'
def FnS (P:Program) (f:FuncId) (args:List AV) (κ:Nat) (b b':bP):Prop :=
 ga P f=true∧∀ (w:World) (S:Nat→Prop) (μ:Mu) (vs:Array Value),(∀ b,S b→b < w.heap.size)→kN w S→(∀ ν,eo w S μ ν args vs.toList)→jq w S μ b (μ κ) →
  Calls P f vs w fun e w'=>(∃ v,e=.returned v)∧jq w' S μ b' (μ κ)∧Kept w w' (fun q=>∃ c,μ κ=some (some (q,c)))
theorem K8 {o:Oper} {cf:Operand} {xs:Array Operand} {ts:Array TypeId} {f:FuncId} {args cY:List AV} {κ:Nat} {b b':bP} {need:List (Nat × AV)} {ro:List (Nat × bP)} {gs:List (Nat × Bool)}
  (hs:dG C A a w S μ ν) (hd:∀ t,o.dst=some t→t < C.nt) (ho:o.op=.call { callee:=.value cf,args:=xs,argTypes:=ts }) (YM:Rel w S μ ν (.fn f cY) (a.eval cf)) (lq:eo w S μ ν args (xs.toList.map a.eval)) (hn:wU.pE (args++cY)=true)
  (YN:FnS C.P f (args++cY) κ b b') (hκ:A.lb κ=some b) :
  o.wp C.P a w (fun a' w'=>∃ S' μ',dG C ((Tr.mk need o.dst .any ro [(κ,b)] [(κ,b')] gs).apply A) a' w' S' μ' ν) (fun _ _ _=>False):=by
 generalize hcv:a.eval cf=cv at YM
 cases YM with
 | @fn _ _ CW hl hh =>
  unfold Oper.wp
  rw [zV ho hcv YN.1]
  have rl:eo w S μ ν (args++cY) (xs.map a.eval++CW).toList:=by
   rw [Array.toList_append,Array.toList_map]
   exact lq.append ⟨by simpa using hl,fun i hi=>by rw [← cZ]; exact hh i hi⟩
  refine (YN.2 w S μ (xs.map a.eval++CW) hs.bound hs.Bt (fun ν'=>rl.nu hn) (hs.mem κ b hκ)).mono ?_
  rintro e w' ⟨⟨v,rfl⟩,pk,hk⟩
  have hg:∀ q,(∃ c,μ κ=some (some (q,c)))→¬ S q:=fun q ⟨c,hc⟩=>by
   have:=hs.mem κ b hκ
   rw [hc] at this
   exact this.at.not
  have hw:∀ q,S q→w'.heap[q]? = w.heap[q]?:=fun q hq=>hk.block q (hs.bound q hq) (fun h=>hg q h hq)
  have h1:dG C (A.set κ (some b')) a w' S μ ν:=by
   refine ⟨hs.tmps,hs.defers,fun t=>(hs.fa t).mono (fun _ x=>x) hw (fun _ _ e=>e),fun κ' bk hbk=>?_,fun κ1 κ2 b1 b2 g c c' h1 h2 h3 h4=>?_,fun κ' bk g c h1 h2=>?_,hs.fU,hs.fresh,fun q hq=>Nat.lt_of_lt_of_le (hs.bound q hq) hk.size,?_⟩
   ·simp only [M.set] at hbk
    by_cases e:κ'=κ
    ·subst e
     simp only [if_true,Option.some.injEq] at hbk
     subst hbk
     exact pk
    ·simp only [e,if_false] at hbk
     have hm:=hs.mem κ' bk hbk
     refine hm.mono (fun _ x=>x) hw (fun _ _ e=>e) (fun g c hgc=>?_)
     rw [hgc] at hm
     exact ⟨hk.block g hm.at.lt (fun ⟨c',VG⟩=>e (hs.inj κ' κ bk b g c c' hbk hκ hgc VG)),hm.at.not⟩
   ·have get:∀ k bk,(A.set κ (some b')).lb k=some bk→∃ bk',A.lb k=some bk':=fun k bk h=>by
     simp only [M.set] at h
     by_cases e:k=κ
     ·subst e; exact ⟨b,hκ⟩
     ·simp only [e,if_false] at h; exact ⟨bk,h⟩
    obtain ⟨b1',q1⟩:=get _ _ h1
    obtain ⟨b2',q2⟩:=get _ _ h2
    exact hs.inj κ1 κ2 b1' b2' g c c' q1 q2 h3 h4
   ·simp only [M.set] at h1
    by_cases e:κ'=κ
    ·subst e; exact hs.own κ' b g c hκ h2
    ·simp only [e,if_false] at h1; exact hs.own κ' bk g c h1 h2
   ·exact hs.kept.trans hk (fun q hq ⟨c,hc⟩=>by
     rcases hs.own κ b q c hκ hc with h | h
     ·omega
     ·exact h)
  refine ⟨S,μ,?_⟩
  have e:(Tr.mk need o.dst .any ro [(κ,b)] [(κ,b')] gs).apply A=(A.set κ (some b')).yE o.dst .any:=by
   cases eT:o.dst with
   | none=>exact nF _
   | some d =>
    have:=nF (A:=A) (κ:=κ) (b:=b) (b':=b') (need:=need) (ro:=ro) (gs:=gs) .any
    unfold Tr.apply at this ⊢
    simp only [M.yE,M.put,M.set,M.mk.injEq,Option.some.injEq] at this ⊢
    refine ⟨?_,this.2⟩
    funext t
    by_cases c:t=d
    ·simp [c]
    ·have:¬ d=t:=fun e=>c e.symm
     simp [c,this]
  rw [e]
  exact h1.put hd (.any _)
end
def GR (n k:Nat) (z:List D):List AV:=(List.range n).map fun q=>.d (z.getD (q % k) default)
section
variable {C : Cx} {A : M} {a : Act} {w : World} {S : Nat → Prop} {μ : Mu} {ν : Nat → Bool}
def vI (T:List (Nat × TI)) (ρ:Operand→Option AV) (t len:Nat) (ps:List (Nat × Operand)):Option (Nat × Nat × List D) :=
 match look T t,BB ρ ps with
 | some { kind:=.slice e,.. },some vs=>(match look T e with
  | some i=>bif Nat.ble (len * i.size) 16777216&&Nat.ble 1 i.size then (match KT (fun q=>some (q * i.size,i.size)) (GR (len * i.size) i.size i.zero) vs with
   | some cs=>(match AQ cs with | some ds=>bif Nat.beq ds.length (len * i.size) then some (e,i.size,ds) else none | none=>none)
   | none=>none) else none
  | none=>none)
 | _,_=>none
theorem BF {P:Program} {T:List (Nat × TI)} (hT:pj P T) {ρ:Operand→Option AV} (hρ:∀ x y,ρ x=some y→Rel w S μ ν y (a.eval x)) {t len:Nat} {ps:Array (Nat × Operand)} {e k:Nat} {ds:List D} (h:vI T ρ t len ps.toList=some (e,k,ds)) :
  ∃ cells:Array Value,(Instr.buildSlice t len (ps.map fun (i,x)=>(i,a.eval x))).run P w=.ok (.slice (some ⟨w.heap.size,0,none⟩) len len) (w.alloc (.cells cells e))∧cells.size=len * k∧kg w S k len (Eb k len ds) cells.toList∧ds.length=len * k∧len≤maxLen:=by
 unfold vI at h
 split at h
 ·rename_i e' _ _ _ _ vs hl hv
  split at h
  ·rename_i i hi
   cases hb:(Nat.ble (len * i.size) 16777216&&Nat.ble 1 i.size) with
   | false=>rw [hb] at h; cases h
   | true =>
    rw [hb] at h
    simp only [Bool.and_eq_true] at hb
    have hle:=Nat.le_of_ble_eq_true hb.1
    have NZ:=Nat.le_of_ble_eq_true hb.2
    simp only [cond_true] at h
    split at h
    ·rename_i cs E8
     split at h
     ·rename_i ds' hp
      cases GH:Nat.beq ds'.length (len * i.size) with
      | false=>rw [GH] at h; cases h
      | true =>
       rw [GH] at h
       have hdl:=Nat.eq_of_beq_eq_true GH
       simp only [cond_true,Option.some.injEq,Prod.mk.injEq] at h
       obtain ⟨rfl,rfl,rfl⟩:=h
       have ecs:=vG hp
       subst ecs
       obtain ⟨ti,z,F⟩:=aG (hT t _ hl)
       have hu:=fA F.kind
       obtain ⟨tj,zj,G⟩:=aG (hT e' _ hi)
       obtain ⟨q1,q2⟩:=lj (w:=w) (S:=S) G.zok
       have hzs:zj.cells.size=i.size:=by rw [← G.Ea,← q1]; simp
       have hz:eo w S μ ν (GR (len * i.size) i.size i.zero) ((Array.range (len * i.size)).map (zj.cells[· % zj.cells.size]!)).toList:=by
        refine ⟨by simp [GR],fun q hq=>?_⟩
        have QP:q < len * i.size:=by simpa [GR] using hq
        have hm:q % i.size < i.size:=Nat.mod_lt _ NZ
        have e1:(GR (len * i.size) i.size i.zero).getD q default=.d (i.zero.getD (q % i.size) default):=by simp [GR,List.getD,QP]
        have e2:((Array.range (len * i.size)).map (zj.cells[· % zj.cells.size]!)).toList.getD q undef=zj.cells.toList.getD (q % i.size) undef:=by
         have h1:q % i.size < zj.cells.size:=by omega
         simp only [List.getD,Array.getElem?_toList,Array.getElem?_map,Array.getElem?_range,QP,if_true,Option.map_some,Option.getD_some,hzs]
         rw [getElem!_pos zj.cells _ h1,Array.getElem?_eq_getElem h1]
         rfl
        rw [e1,e2]
        exact .d (q2 _ (by rw [G.Ea]; exact hm))
       obtain ⟨v1,v2⟩:=zS hρ ps.toList vs hv
       obtain ⟨KU,hf,hr⟩:=CS (fun q=>some (q * i.size,i.size)) vs (ps.toList.map fun p=>(p.1,a.eval p.2)) _ _ ((Array.range (len * i.size)).map (zj.cells[· % zj.cells.size]!)) hz v1 v2 E8
       have AP:KU.size=len * i.size:=by have:=hr.1; simp at this; omega
       refine ⟨KU,?_,AP,⟨by simpa using AP,fun q hq=>⟨(BC hdl hq).1,fun j hj=>?_⟩⟩,hdl,?_⟩
       ·have hps:(ps.map fun (i,x)=>(i,a.eval x)).toList=ps.toList.map fun p=>(p.1,a.eval p.2):=by simp
        have hn:¬ len * i.size > 2 ^ 24:=by omega
        simp only [Instr.buildSlice,Sem.run_bind,run_underlying hu,Result.andThen_ok,sizeOf,typeInfo,run_program,G.info,Sem.run_pure,G.size,Sem.run_ite,hn,if_false,hps]
        by_cases h0:len * i.size=0
        ·rw [h0] at AP hf
         simp only [h0,if_true]
         have:∀ (g g':Nat→Value),(Array.range 0).map g=(Array.range 0).map g':=fun g g'=>by simp
         rw [this _ (zj.cells[· % zj.cells.size]!),hf]
         simp [newRow]
        ·simp only [h0,if_false,zeroValue,typeInfo,Sem.run_bind,run_program,Result.andThen_ok,G.info,Sem.run_pure,G.zero]
         rw [hf]
         simp [newRow]
       ·rw [(BC hdl hq).2 j hj]
        have gH:q * i.size+j < ds'.length:=by
         rw [hdl]
         calc q * i.size+j < q * i.size+i.size:=by omega
          _=(q+1) * i.size:=by rw [Nat.add_mul,Nat.one_mul]
          _≤len * i.size:=Nat.mul_le_mul_right _ hq
        have:=hr.2 (q * i.size+j) (by simpa using gH)
        rw [ln _ _ gH] at this
        exact jW.1 this
       ·have:len * 1≤len * i.size:=Nat.mul_le_mul_left len NZ
        simp only [maxLen]
        omega
     ·cases h
    ·cases h
  ·cases h
 ·cases h
theorem Ja {T:List (Nat × TI)} (hT:pj C.P T) {o:Oper} {dst t len:Nat} {ps:Array (Nat × Operand)} {e k:Nat} {ds:List D} {ρ:Operand→Option AV} {need:List (Nat × AV)} {ro:List (Nat × bP)} {gs:List (Nat × Bool)}
  (hs:dG C A a w S μ ν) (hd:o.dst=some dst) (hdt:dst < C.nt) (ho:o.op=.buildSlice t len ps) (hρ:∀ x y,ρ x=some y→Rel w S μ ν y (a.eval x)) (h:vI T ρ t len ps.toList=some (e,k,ds)) (hf:lh A dst) :
  o.wp C.P a w (fun a' w'=>∃ S' μ',dG C ((Tr.mk need (some dst) (.own dst len) ro [] [(dst,.row e k len (Eb k len ds))] gs).apply A) a' w' S' μ' ν) (fun _ _ _=>False):=by
 obtain ⟨cells,iH,kM,rq,_,hml⟩:=BF hT hρ h
 unfold Oper.wp execOp
 simp only [ho,Sem.run_bind,iH,Result.andThen_ok,Sem.run_pure]
 have uH:¬ S w.heap.size:=fun h=>by have:=hs.bound _ h; omega
 have hw:∀ q,S q→(w.alloc (.cells cells e)).heap[q]? = w.heap[q]?:=fun q hq=>heap_alloc_old w _ (hs.bound q hq)
 have h1:=hs.alloc hf (b:=.row e k len (Eb k len ds)) (cur:=cells) (e:=e) (cap:=len) (by simp [bP.keys]) (KY (heap_alloc_new w _) uH kM (Nat.le_refl _) hml (by rw [← kM,← Array.length_toList,List.take_length]) (rq.mono (fun _ x=>x) hw))
 have h2:=h1.put (dst:=some dst) (x:=.own dst len) (v:=.slice (some ⟨w.heap.size,0,none⟩) len len) (fun t ht=>by cases ht; exact hdt) (.own (by simp [dH]))
 rw [sD]
 exact ⟨S,_,by rw [hd]; exact h2⟩
theorem YQ {T:List (Nat × TI)} (hT:pj C.P T) {o:Oper} {dst t e:Nat} {l c:Operand} {it i:TI} {kl kc:IntKind} {n:Int} {need:List (Nat × AV)} {ro:List (Nat × bP)} {gs:List (Nat × Bool)}
  (hs:dG C A a w S μ ν) (hd:o.dst=some dst) (hdt:dst < C.nt) (ho:o.op=.makeSlice t l c) (ht:look T t=some it) (hk:it.kind=.slice e) (he:look T e=some i) (hl:a.eval l=.int kl n) (hc:a.eval c=.int kc n)
  (h0:0≤n) (hm:n.toNat≤maxLen) (hb:n.toNat * i.bytes≤140737488355328) (hf:lh A dst) :
  o.wp C.P a w (fun a' w'=>∃ S' μ',dG C ((Tr.mk need (some dst) (.own dst n.toNat) ro [] [(dst,.row e i.size n.toNat fun _=>i.zero)] gs).apply A) a' w' S' μ' ν) (fun _ _ _=>False):=by
 obtain ⟨tj,z,F⟩:=aG (hT _ _ ht)
 obtain ⟨ej,ez,G⟩:=aG (hT _ _ he)
 have wT:=F.kind
 rw [hk] at wT
 have hu:=fA wT
 have hml:n≤9223372036854775807:=by have:=hm; simp only [maxLen] at this; omega
 have hbb:(ej.bytes:Int) * n≤281474976710656:=by
  rw [G.bytes]
  have h1:((i.bytes * n.toNat:Nat):Int)≤281474976710656:=by rw [Nat.mul_comm]; omega
  rw [Int.natCast_mul,Int.toNat_of_nonneg h0] at h1
  exact h1
 have iH:=run_make (P:=C.P) w t e ej ez hu G.info G.zero kl kc n n h0 (Int.le_refl _) hbb hml
 rw [G.size] at iH
 unfold Oper.wp execOp
 simp only [ho,hl,hc,Sem.run_bind,iH,Result.andThen_ok,Sem.run_pure]
 have uH:¬ S w.heap.size:=fun h=>by have:=hs.bound _ h; omega
 have hw:∀ q,S q→(w.alloc (.cells (madeCells ez.cells (n.toNat * i.size)) e)).heap[q]? = w.heap[q]?:=fun q hq=>heap_alloc_old w _ (hs.bound q hq)
 obtain ⟨q1,q2⟩:=lj (w:=w) (S:=S) G.zok
 have hzl:ez.cells.size=i.size:=by have:=q1; simp only [Array.length_toList] at this; rw [this,G.Ea]
 have rq:kg w S i.size n.toNat (fun _=>i.zero) (madeCells ez.cells (n.toNat * i.size)).toList:=by
  refine ⟨by simp [size_madeCells],fun q hq=>⟨G.Ea,fun j hj=>?_⟩⟩
  have gH:q * i.size+j < n.toNat * i.size:=by
   calc q * i.size+j < q * i.size+i.size:=by omega
    _=(q+1) * i.size:=by rw [Nat.add_mul,Nat.one_mul]
    _≤n.toNat * i.size:=Nat.mul_le_mul_right _ hq
  have e1:(madeCells ez.cells (n.toNat * i.size)).toList.getD (q * i.size+j) undef=ez.cells.toList.getD j undef:=by
   have Ip:j < ez.cells.size:=by omega
   have YR:(q * i.size+j) % ez.cells.size=j:=by rw [hzl,Nat.mul_comm,Nat.mul_add_mod,Nat.mod_eq_of_lt hj]
   simp [madeCells,List.getD,gH,YR,Ip]
  rw [e1]
  exact q2 j (by rw [G.Ea]; exact hj)
 have h1:=hs.alloc hf (b:=.row e i.size n.toNat fun _=>i.zero) (cur:=madeCells ez.cells (n.toNat * i.size)) (e:=e) (cap:=n.toNat) (by simp [bP.keys]) (KY (heap_alloc_new w _) uH (size_madeCells _ _) (Nat.le_refl _) hm (List.take_of_length_le (by simp [size_madeCells])) (rq.mono (fun _ x=>x) hw))
 have h2:=h1.put (dst:=some dst) (x:=.own dst n.toNat) (v:=.slice (some ⟨w.heap.size,0,none⟩) n.toNat n.toNat) (fun t ht=>by cases ht; exact hdt) (.own (by simp [dH]))
 rw [sD]
 exact ⟨S,_,by rw [hd]; exact h2⟩
theorem K9 {T:List (Nat × TI)} (hT:pj C.P T) {o:Oper} {t len:Nat} {ps:Array (Nat × Operand)} {e k:Nat} {ds:List D} {ρ:Operand→Option AV} {τ:Tr}
  (hs:dG C A a w S μ ν) (hd:∀ t,o.dst=some t→t < C.nt) (ho:o.op=.buildSlice t len ps) (hρ:∀ x y,ρ x=some y→Rel w S μ ν y (a.eval x)) (h:vI T ρ t len ps.toList=some (e,k,ds))
  (h0:τ.v=.d (.sl len (Eb k len ds))) (h1:τ.dst=o.dst) (h2:τ.mem=[]) (h3:τ.gI=[]) :
  o.wp C.P a w (fun a' w'=>∃ S' μ',dG C (τ.apply A) a' w' S' μ' ν) (fun _ _ _=>False):=by
 obtain ⟨cells,iH,kM,rq,_,hml⟩:=BF hT hρ h
 unfold Oper.wp execOp
 simp only [ho,Sem.run_bind,iH,Result.andThen_ok,Sem.run_pure]
 let S':Nat→Prop:=fun q=>S q∨q=w.heap.size
 have h4:=hs.world (S':=S') (w':=w.alloc (.cells cells e)) (fun _ x=>.inl x) (fun q hq=>hq.elim .inl (fun e=>.inr ⟨by omega,by rw [e]; simp⟩)) (qC w _ _)
 have hrd:Rd (w.alloc (.cells cells e)) S' (.sl len (Eb k len ds)) (.slice (some ⟨w.heap.size,0,none⟩) len len):=by
  refine .sl len _ ⟨w.heap.size,0,none⟩ len k (fun i j=>cells.toList.getD (i * k+j) undef) (Nat.le_refl _) hml (.inr rfl) (fun i hi=>(rq.2 i hi).1) (fun i j hi hj=>⟨.inr rfl,?_⟩) (fun i j hi hj=>?_)
  ·have gH:i * k+j < cells.size:=by
    rw [kM]
    calc i * k+j < i * k+k:=by omega
     _=(i+1) * k:=by rw [Nat.add_mul,Nat.one_mul]
     _≤len * k:=Nat.mul_le_mul_right k hi
   rw [iJ _ _ _ cells e (0,0) (heap_alloc_new w _)]
   simp [List.getD,gH]
  ·exact ((rq.2 i hi).2 j hj).mono (fun _ x=>.inl x) (fun q hq=>heap_alloc_old w _ (hs.bound q hq))
 have h5:=h4.put (dst:=o.dst) (x:=.d (.sl len (Eb k len ds))) (v:=.slice (some ⟨w.heap.size,0,none⟩) len len) hd (.d hrd)
 refine ⟨S',μ,?_⟩
 have e:τ.apply A=A.yE o.dst (.d (.sl len (Eb k len ds))):=by
  unfold Tr.apply M.yE M.put
  rw [h0,h1,h2,h3]
  cases ho:o.dst with
  | none=>simp [look]
  | some d =>
   simp only [look,List.map_nil,List.not_mem_nil,if_false,Option.some.injEq]
   congr 1
   funext t
   by_cases c:d=t
   ·simp [c]
   ·have:¬ t=d:=fun e=>c e.symm
    simp [c,this]
 rw [e]
 exact h5
def QS (T:List (Nat × TI)) (ρ:Operand→Option AV):Op→Option (AV × Ob)
 | .convert src d x=>(match ρ x,look T src,look T d with
  | some (.d (.v (.string s))),some _,some { kind:=.slice e,.. }=>(match look T e with
   | some { kind:=.int .u8,.. }=>some (.d (.sl s.size fun i=>[.v (.int .u8 (s.data.toList.getD i 0).toNat)]),.pr (s.size≤maxLen))
   | _=>none)
  | _,_,_=>none)
 | _=>none
theorem VZ {T:List (Nat × TI)} (hT:pj C.P T) (hs:dG C A a w S μ ν) {o:Oper} {ρ:Operand→Option AV} (hρ:∀ x y,ρ x=some y→Rel w S μ ν y (a.eval x)) (hd:∀ t,o.dst=some t→t < C.nt) {v:AV} {ob:Ob} (h:QS T ρ o.op=some (v,ob)) (cD:ob.den) (need:List (Nat × AV)) (ro:List (Nat × bP)) (gs:List (Nat × Bool)) :
  o.wp C.P a w (fun a' w'=>∃ S' μ',dG C ((Tr.mk need o.dst v ro [] [] gs).apply A) a' w' S' μ' ν) (fun _ _ _=>False):=by
 unfold QS at h
 split at h
 ·rename_i src d x ho
  split at h
  ·rename_i s ti e _ _ _ _ hx mW eT
   split at h
   ·rename_i _ _ _ _ he
    simp only [Option.some.injEq,Prod.mk.injEq] at h
    obtain ⟨rfl,rfl⟩:=h
    have cD:s.size≤maxLen:=cD
    have hv:=dc rfl (hρ _ _ hx)
    obtain ⟨ds,hds⟩:∃ q,C.P.underlying src=some q:=by
     obtain ⟨tj,zj,G⟩:=aG (hT _ _ mW)
     have:=G.kind
     cases hu:C.P.underlying src with
     | some q=>exact ⟨q,rfl⟩
     | none=>cases hk:ti.kind <;> rw [hk] at this <;> simp [en,hu] at this
    obtain ⟨t1,z1,F1⟩:=aG (hT _ _ eT)
    obtain ⟨t2,z2,F2⟩:=aG (hT _ _ he)
    have iH:=Lib.run_convert_string_bytes (P:=C.P) w src d e s hds (fA F1.kind) (vH F2.kind)
    unfold Oper.wp execOp
    simp only [ho,hv,Sem.run_bind,iH,Result.andThen_ok,Sem.run_pure]
    let S':Nat→Prop:=fun q=>S q∨q=w.heap.size
    have Fe:Kept w (Lib.bytesWorld w e s) (fun _=>False):=⟨rfl,rfl,rfl,by rw [Lib.bytesWorld_size]; omega,fun b hb _=>Lib.bytesWorld_at_old w e s b hb⟩
    have h4:=hs.world (S':=S') (fun _ x=>.inl x) (fun q hq=>hq.elim .inl (fun e'=>.inr ⟨by omega,by rw [e',Lib.bytesWorld_size]; omega⟩)) Fe
    have hrd:Rd (Lib.bytesWorld w e s) S' (.sl s.size fun i=>[.v (.int .u8 (s.data.toList.getD i 0).toNat)]) (.slice (some ⟨w.heap.size,0,none⟩) s.size (grownCap w s.size 0 e)):=by
     refine .sl s.size _ ⟨w.heap.size,0,none⟩ _ 1 (fun i _=>.int .u8 (s.data.toList.getD i 0).toNat) (grownCap_ge w s.size 0 e) (grownCap_le_maxLen w s.size 0 e cD) (.inr rfl) (fun i hi=>rfl) (fun i j hi hj=>⟨.inr rfl,?_⟩) (fun i j hi hj=>?_)
     ·obtain rfl:j=0:=by omega
      simp only [Nat.mul_one,Nat.add_zero,Nat.zero_add]
      exact Lib.bytesWorld_cell w e s i hi
     ·obtain rfl:j=0:=by omega
      exact .v _ rfl
    have h5:=h4.put (dst:=o.dst) hd (.d hrd)
    refine ⟨S',μ,?_⟩
    have e:(Tr.mk need o.dst (.d (.sl s.size fun i=>[.v (.int .u8 (s.data.toList.getD i 0).toNat)])) ro [] [] gs).apply A=A.yE o.dst (.d (.sl s.size fun i=>[.v (.int .u8 (s.data.toList.getD i 0).toNat)])):=by
     unfold Tr.apply M.yE M.put
     cases ho:o.dst with
     | none=>simp [look]
     | some d =>
      simp only [look,List.map_nil,List.not_mem_nil,if_false,Option.some.injEq]
      congr 1
      funext t
      by_cases c:d=t
      ·simp [c]
      ·have:¬ t=d:=fun e=>c e.symm
       simp [c,this]
    rw [e]
    exact h5
   ·cases h
  ·cases h
 ·cases h
end
section
variable {C : Cx} {A : M} {a : Act} {w : World} {S : Nat → Prop} {μ : Mu} {ν : Nat → Bool}
theorem Fg {P:Program} {t k e:Nat} (h:en P t (.map k e)=true):P.underlying t=some (.map k e):=by
 simp only [en] at h
 split at h
 ·rename_i x; simp only [Bool.and_eq_true,beq_iff_eq] at h; obtain ⟨rfl,rfl⟩:=h; exact x
 ·cases h
theorem dG.QT (h:dG C A a w S μ ν) {κ g cap:Nat} {b b':bP} {w':World} (hκ:A.lb κ=some b) (hμ:μ κ=some (some (g,cap))) (hk:Kept w w' (fun q=>q=g)) (hb:eH w' S μ b' g cap):dG C (A.set κ (some b')) a w' S μ ν:=by
 have YK:=h.mem κ b hκ
 rw [hμ] at YK
 have uH:=YK.at.not
 have hw:∀ q,S q→w'.heap[q]? = w.heap[q]?:=fun q hq=>hk.block q (h.bound q hq) (fun e=>uH (e ▸ hq))
 refine ⟨h.tmps,h.defers,fun t=>(h.fa t).mono (fun _ x=>x) hw (fun _ _ x=>x),fun κ' b'' GN=>?_,fun κ1 κ2 b1 b2 g' c c' h1 h2 h3 h4=>?_,fun κ' b'' g' c h1 h2=>?_,h.fU,h.fresh,fun q hq=>Nat.lt_of_lt_of_le (h.bound q hq) hk.size,?_⟩
 ·simp only [M.set] at GN
  by_cases c:κ'=κ
  ·simp only [c,if_true,Option.some.injEq] at GN
   subst GN
   rw [c,hμ]
   exact hb.ok
  ·simp only [c,if_false] at GN
   have hm:=h.mem κ' b'' GN
   refine hm.mono (fun _ x=>x) hw (fun _ _ x=>x) (fun g' cc e=>?_)
   have hmm:=hm
   rw [e] at hmm
   exact ⟨hk.block g' hmm.at.lt (fun eg=>c (h.inj κ' κ b'' b g' cc cap GN hκ e (by rw [eg]; exact hμ))),hmm.at.not⟩
 ·have q1:∃ x,A.lb κ1=some x:=by
   simp only [M.set] at h1
   by_cases c:κ1=κ
   ·rw [c]; exact ⟨b,hκ⟩
   ·simp only [c,if_false] at h1; exact ⟨_,h1⟩
  have q2:∃ x,A.lb κ2=some x:=by
   simp only [M.set] at h2
   by_cases c:κ2=κ
   ·rw [c]; exact ⟨b,hκ⟩
   ·simp only [c,if_false] at h2; exact ⟨_,h2⟩
  obtain ⟨x1,q1⟩:=q1
  obtain ⟨x2,q2⟩:=q2
  exact h.inj κ1 κ2 x1 x2 g' c c' q1 q2 h3 h4
 ·have q1:∃ x,A.lb κ'=some x:=by
   simp only [M.set] at h1
   by_cases c:κ'=κ
   ·rw [c]; exact ⟨b,hκ⟩
   ·simp only [c,if_false] at h1; exact ⟨_,h1⟩
  obtain ⟨x1,q1⟩:=q1
  exact h.own κ' x1 g' c q1 h2
 ·refine h.kept.trans hk (fun q hq e=>?_)
  subst e
  rcases h.own κ b q cap hκ hμ with h1 | h1
  ·omega
  ·exact h1
def World.Ec (w:World) (r:Nat) (o:Obj):World:={ w with heap:=w.heap.setIfInBounds r o }
def QU:Obj→Bool
 | .cells _ _ _=>false
 | _=>true
theorem vJ {P:Program} {r:Nat} {o:Obj} (h:w.heap[r]? = some o) (hn:QU o=true:=by rfl):(getObj r).run P w=.ok o w:=by
 cases o <;> first | (simp [QU] at hn; done) | simp [getObj,Sem.run,h]
theorem Ti {P:Program} {r:Nat} {x:Obj} (o:Obj) (h:w.heap[r]? = some x) (hn:QU x=true:=by rfl):(setObj r o).run P w=.ok () (World.Ec w r o):=by
 cases x <;> first | (simp [QU] at hn; done) | simp [setObj,Sem.run,h,World.Ec]
theorem vq (r:Nat) (o:Obj):Kept w (World.Ec w r o) (fun q=>q=r):=⟨rfl,rfl,rfl,by simp [World.Ec],fun q _ hq=>by
 have:¬ r=q:=fun e=>hq e.symm
 simp [World.Ec,Array.getElem?_setIfInBounds,this]⟩
theorem Ku {r:Nat} {x:Obj} (o:Obj) (h:w.heap[r]? = some x):(World.Ec w r o).heap[r]? = some o:=by
 have hr:=(Array.getElem?_eq_some_iff.1 h).1
 simp [World.Ec,hr]
def La:Value→Value→Bool
 | .int k a,.int k' b=>decide (k=k')&&!(a == b)
 | _,_=>false
theorem Lb {kk:IntKind} {kv:Value}:∀ (es:List MapEntry) (i:Nat),(∀ e,e∈es→La kv e.key=true)→(∃ k n,kv=.int k n)→Instr.findNow (.int kk) kv es i=some none
 | [],_,_,_=>rfl
 | e :: es,i,h,hv=>by
  have h1:=h e (by simp)
  obtain ⟨k,n,rfl⟩:=hv
  have ih:=Lb (kk:=kk) es (i+1) (fun x hx=>h x (by simp [hx])) ⟨k,n,rfl⟩
  cases hk:e.key with
  | int k' m =>
   rw [hk] at h1
   simp only [La,Bool.and_eq_true,decide_eq_true_eq,Bool.not_eq_true'] at h1
   obtain ⟨rfl,h2⟩:=h1
   simp only [Instr.findNow,Instr.sameNow,hk,if_true,h2]
   exact ih
  | _=>rw [hk] at h1; simp [La] at h1
structure R where
 v:AV
 ro:List (Nat × bP)
 mem:List (Nat × bP)
 gI:List (Nat × bP)
 ob:Ob
theorem sF {P:Program} {b:Bool} {kt:TypeId} {ik kk:IntKind} {n:Int} (XD:P.underlying kt=some (.int ik)) (q:Nat):(Instr.checkKey b (q+1) kt (.int kk n)).run P w=.ok () w:=by
 rw [Instr.checkKey]
 simp [run_underlying XD]
theorem Lc {P:Program} {t kt et:TypeId} {ik kk:IntKind} {n0:Int} {g clock:Nat} {cur:Array MapEntry} {x:Value} (hu:P.underlying t=some (.map kt et)) (XD:P.underlying kt=some (.int ik)) (hg:w.heap[g]? = some (.map cur clock)) (hf:Instr.findNow (.int ik) (.int kk n0) cur.toList 0=some none) :
  (Instr.mapUpdate t (.map (some g)) (.int kk n0) x).run P w=.ok () (World.Ec w g (.map (cur.push { key:=.int kk n0,val:=x,born:=clock }) (clock+1))):=by
 unfold Instr.mapUpdate
 simp only [Sem.run_bind,run_underlying hu,Result.andThen_ok,vJ hg,sF XD 9999,Instr.findKey,run_underlying XD,hf,Sem.run_pure,Ti _ hg]
def Ld (T:List (Nat × TI)) (lb:List (Nat × bP)) (ρ:Operand→Option AV) (dst:Option Nat) (quiet:Bool):Op→Option R
 | .makeMap _ none=>(match quiet,dst with
  | false,some d=>some ⟨.vp d,[],[],[(d,.mp 0 fun _=>(.bool false,default))],.tt⟩
  | _,_=>none)
 | .insert t m k x=>(match quiet,dst,ρ m,ρ k,ρ x,look T t with
  | false,none,some (.vp κ),some (.d (.v (.int kk a))),some (.d xd),some { kind:=.map kt _,.. }=>(match look lb κ,look T kt with
   | some (.mp n f),some { kind:=.int _,.. }=>some ⟨.any,[],[(κ,.mp n f)],[(κ,.mp (n+1) fun q=>if q < n then f q else (.int kk a,xd))],.be ((List.range n).all fun i=>La (.int kk a) (f i).1) true⟩
   | _,_=>none)
  | _,_,_,_,_,_=>none)
 | .range t m=>(match quiet,dst,ρ m,look T t with
  | false,some d,some (.vp κ),some { kind:=.map _ _,.. }=>(match look lb κ with
   | some (.mp n f)=>bif Nat.beq d κ then none else some ⟨.ptr d 0,[(κ,.mp n f)],[],[(d,.it κ n [])],.tt⟩
   | _=>none)
  | _,_,_,_=>none)
 | .entry it=>(match ρ it with
  | some (.ptr κi 0)=>(match look lb κi with
   | some (.it κ n (i :: s))=>(match look lb κ with
    | some (.mp n' f)=>some ⟨.fD [.d (.v (f i).1),.d (f i).2],[(κi,.it κ n (i :: s)),(κ,.mp n' f)],[],[],(Ob.ne n n').and (.pr (i < n))⟩
    | _=>none)
   | _=>none)
  | _=>none)
 | .slice t x none (some h) none=>(match quiet,dst,ρ x,ρ h,look T t with
  | false,some d,some (.own κ n),some (.d (.v (.int _ hh))),some { kind:=.slice e,.. }=>(match look lb κ,look T e with
   | some (.row e' k n' f),some i=>bif Nat.beq d κ||!Nat.beq e e'||!Nat.beq k i.size then none else some ⟨.own d hh.toNat,[],[(κ,.row e' k n' f)],[(d,.row e' k hh.toNat f)],(Ob.ne n n').and (.pr (0≤hh∧hh≤n))⟩
   | _,_=>none)
  | false,some _,some (.d (.v (.slice none 0 0))),some (.d (.v (.int _ hh))),some { kind:=.slice e,.. }=>(match look T e with
   | some _=>some ⟨.d (.v (.slice none 0 0)),[],[],[],.pr (0≤hh∧hh≤0)⟩
   | none=>none)
  | _,_,_,_,_=>none)
 | .call { callee:=.builtin .cap,args:=xs,argTypes:=ts }=>(match ud ρ xs.toList,ts.toList with
  | some [.d (.v (.slice none 0 0))],[t]=>(match look T t with
   | some { kind:=.slice _,.. }=>some ⟨.d (.v (.int .i64 0)),[],[],[],.tt⟩
   | _=>none)
  | _,_=>none)
 | .call { callee:=.builtin .append,args:=xs,argTypes:=ts }=>(match quiet,dst,ud ρ xs.toList,ts.toList with
  | false,some d,some [.d (.v (.slice none 0 0)),.d (.v (.int .i64 n))],[t,t']=>(match look T t,look T t' with
   | some { kind:=.slice e,.. },some { kind:=.int .i64,.. }=>(match look T e with
    | some i=>some ⟨.own d n.toNat,[],[],[(d,.row e i.size n.toNat fun _=>i.zero)],.pr (0≤n∧n.toNat≤maxLen∧n.toNat * i.bytes≤140737488355328)⟩
    | none=>none)
   | _,_=>none)
  | _,_,_,_=>none)
 | _=>none
theorem Tj {o:Oper} {d:Nat} {v:AV} {x:Value} {b:bP} {w1:World} {need:List (Nat × AV)} {ro:List (Nat × bP)} {gs:List (Nat × Bool)} (hs:dG C A a w S μ ν) (eT:o.dst=some d) (hdt:d < C.nt) (hf:lh A d) (hk:d ∉ b.keys)
  (iH:(execOp a.eval o).run C.P w=.ok (.value x) w1) (hk1:Kept w w1 (fun q=>q=w.heap.size)) (hb:∀ c,eH w1 S μ b w.heap.size c) (hv:∀ μ',μ' d=some (some (w.heap.size,0))→Rel w1 S μ' ν v x) :
  o.wp C.P a w (fun a' w'=>∃ S' μ',dG C ((Tr.mk need (some d) v ro [] [(d,b)] gs).apply A) a' w' S' μ' ν) (fun _ _ _=>False):=by
 unfold Oper.wp
 rw [iH]
 have uH:¬ S w.heap.size:=fun h=>by have:=hs.bound _ h; omega
 have h1:=hs.Xz hf (blk:=b) (b:=w.heap.size) (cap:=0) hk hk1 uH (fun κ' b' g' c q1 q2 e'=>by
  have:=hs.mem κ' b' q1
  rw [q2] at this
  have:=this.at.lt
  omega) (.inl hs.kept.size) (hb 0)
 have h2:=h1.put (dst:=some d) (x:=v) (v:=x) (fun t ht=>by cases ht; exact hdt) (hv _ (by simp [dH]))
 rw [sD]
 exact ⟨S,_,by rw [eT]; exact h2⟩
theorem QV {T:List (Nat × TI)} (hT:pj C.P T) (hs:dG C A a w S μ ν) {lb:List (Nat × bP)} {o:Oper} {ρ:Operand→Option AV} (hρ:∀ x y,ρ x=some y→Rel w S μ ν y (a.eval x)) (hd:∀ t,o.dst=some t→t < C.nt) {quiet:Bool} {r:R}
  (h:Ld T lb ρ o.dst quiet o.op=some r) (oq:∀ p,p∈r.ro→A.lb p.1=some p.2) (lr:∀ p,p∈r.mem→A.lb p.1=some p.2) (cD:r.ob.den) (yA:∀ κ,κ∈(r.gI.map (·.1)).filter (fun k=>!(r.mem.map (·.1)).contains k)→lh A κ) (need:List (Nat × AV)) (gs:List (Nat × Bool)) :
  o.wp C.P a w (fun a' w'=>∃ S' μ',dG C ((Tr.mk need o.dst r.v r.ro r.mem r.gI gs).apply A) a' w' S' μ' ν) (fun _ _ _=>False):=by
 unfold Ld at h
 split at h
 all_goals rename_i ho
 ·-- makeMap
  split at h
  ·rename_i d eT
   simp only [Option.some.injEq] at h
   subst h
   rw [eT]
   have uH:¬ S w.heap.size:=fun h=>by have:=hs.bound _ h; omega
   refine Tj hs eT (hd d eT) (yA d (by simp)) (by simp [bP.keys]) (x:=.map (some w.heap.size)) (w1:=w.alloc (.map #[] 0)) ?_ (qC w _ _) (fun c=>⟨#[],heap_alloc_new w _,uH,rfl,fun i hi=>absurd hi (by omega)⟩) (fun μ' hμ=>.vp hμ)
   simp [execOp,ho,Instr.makeMap]
  ·cases h
 ·-- insert
  rename_i t m k x
  split at h
  ·rename_i κ kk n0 xd kt _ _ _ _ _ eT hm hk hx ht
   split at h
   ·rename_i n f ik _ _ _ _ hl hkt
    simp only [Option.some.injEq] at h
    subst h
    rw [eT]
    have hκ:=lr (κ,.mp n f) (by simp)
    have N0:=hs.mem κ _ hκ
    have hv:=hρ _ _ hm
    generalize hmv:a.eval m=mv at hv
    cases hv with
    | @vp _ g cap hμ =>
     rw [hμ] at N0
     obtain ⟨cur,hg,uH,kM,cC⟩:=N0.at
     obtain ⟨ti,z,F⟩:=aG (hT _ _ ht)
     obtain ⟨tj,zj,G⟩:=aG (hT _ _ hkt)
     have hu:=Fg F.kind
     have XD:=vH G.kind
     have hkv:=fk (hρ _ _ hk)
     have cD:(List.range n).all (fun i=>La (.int kk n0) (f i).1)=true:=cD
     simp only [List.all_eq_true,List.mem_range] at cD
     have rr:Instr.findNow (.int ik) (.int kk n0) cur.toList 0=some none:=Lb _ 0 (fun e he=>by
      obtain ⟨q,hq,rfl⟩:=List.getElem_of_mem he
      have hqn:q < n:=by simpa [kM] using hq
      obtain ⟨e,h1,h2,_⟩:=cC q hqn
      have:cur.toList[q]=e:=by
       have:=Array.getElem?_eq_some_iff.1 h1
       simpa using this.2
      rw [this,h2]
      exact cD q hqn) ⟨kk,n0,rfl⟩
     have iH:(execOp a.eval o).run C.P w=.ok .skip (World.Ec w g (.map (cur.push { key:=.int kk n0,val:=a.eval x,born:=n }) (n+1))):=by
      have h1:=Lc (x:=a.eval x) hu XD hg rr
      unfold execOp
      rw [ho]
      simp only [hmv,hkv,Sem.run_bind,h1,Result.andThen_ok,Sem.run_pure]
     unfold Oper.wp
     rw [iH]
     refine ⟨S,μ,?_⟩
     rw [nF,eT]
     refine hs.QT hκ hμ (vq g _) ⟨_,Ku _ hg,uH,by simp [kM],fun i hi=>?_⟩
     have hw:∀ q,S q→(World.Ec w g (.map (cur.push { key:=.int kk n0,val:=a.eval x,born:=n }) (n+1))).heap[q]? = w.heap[q]?:=fun q hq=>(vq g _).block q (hs.bound q hq) (fun e=>uH (e ▸ hq))
     by_cases c:i < n
     ·obtain ⟨e,h1,h2,h3,h4,h5⟩:=cC i c
      refine ⟨e,?_,by simp only [c,if_true]; exact h2,h3,h4,by simp only [c,if_true]; exact h5.mono (fun _ x=>x) hw⟩
      rw [Array.getElem?_push,if_neg (by omega)]
      exact h1
     ·obtain rfl:i=n:=by omega
      refine ⟨_,by rw [Array.getElem?_push,if_pos kM.symm],by simp only [c,if_false],rfl,rfl,?_⟩
      simp only [c,if_false]
      exact (jW.1 (hρ _ _ hx)).mono (fun _ x=>x) hw
   ·cases h
  ·cases h
 ·-- range
  rename_i t m
  split at h
  ·rename_i d κ _ _ _ _ _ _ eT hm ht
   split at h
   ·rename_i n f hl
    rw [Bool.cond_eq_ite] at h
    split at h
    ·cases h
    ·rename_i vD
     simp only [Option.some.injEq] at h
     subst h
     rw [eT]
     have hκ:=oq (κ,.mp n f) (by simp)
     have N0:=hs.mem κ _ hκ
     have hv:=hρ _ _ hm
     generalize hmv:a.eval m=mv at hv
     cases hv with
     | @vp _ g cap hμ =>
      rw [hμ] at N0
      obtain ⟨cur,hg,aiG,kM,cC⟩:=N0.at
      obtain ⟨ti,z,F⟩:=aG (hT _ _ ht)
      have hu:=Fg F.kind
      have uH:¬ S w.heap.size:=fun h=>by have:=hs.bound _ h; omega
      have hdk:d≠κ:=fun e=>by rw [e,Nat.beq_refl] at vD; exact vD rfl
      refine Tj hs eT (hd d eT) (yA d (by simp)) (by simp [bP.keys,hdk]) (x:=.pointer (some ⟨w.heap.size,0,none⟩)) (w1:=w.alloc (.mapIter (some g) n #[] n)) ?_ (qC w _ _) (fun c=>⟨g,cap,hμ,heap_alloc_new w _,uH⟩) (fun μ' hμ'=>.ptr hμ')
      simp [execOp,ho,hmv,Instr.range,run_underlying hu,vJ hg]
   ·cases h
  ·cases h
 ·-- entry
  rename_i it
  split at h
  ·rename_i κi hit
   split at h
   ·rename_i κ n i s NR
    split at h
    ·rename_i n' f hl
     simp only [Option.some.injEq] at h
     subst h
     have cD:((Ob.ne n n').and (.pr (i < n))).den:=cD
     obtain ⟨o1,o2⟩:=Ob.da cD
     have o1:n=n':=o1
     subst o1
     have o2:i < n:=o2
     have hκi:=oq (κi,.it κ n (i :: s)) (by simp)
     have hκ:=oq (κ,.mp n f) (by simp)
     have hv:=hρ _ _ hit
     generalize ZW:a.eval it=iv at hv
     cases hv with
     | @ptr _ _ gi ci hμi =>
      have hmi:=hs.mem κi _ hκi
      rw [hμi] at hmi
      obtain ⟨mg,c,hμ,hgi,afo⟩:=hmi.at
      have N0:=hs.mem κ _ hκ
      rw [hμ] at N0
      obtain ⟨cur,hg,uH,kM,cC⟩:=N0.at
      obtain ⟨e,h1,h2,h3,h4,h5⟩:=cC i o2
      have rr:cur.find? (fun x=>x.born == i)=some e:=by
       rw [Array.find?_eq_some_iff_getElem]
       have hi:i < cur.size:=by omega
       refine ⟨by simp [h4],i,hi,(Array.getElem?_eq_some_iff.1 h1).2,fun j hj=>?_⟩
       obtain ⟨e',q1,_,_,q4,_⟩:=cC j (by omega)
       have:cur[j]=e':=(Array.getElem?_eq_some_iff.1 q1).2
       rw [this,q4]
       simp
       omega
      refine nC (τ:=Tr.mk need o.dst (.fD [.d (.v (f i).1),.d (f i).2]) [(κi,.it κ n (i :: s)),(κ,.mp n f)] [] [] gs) hs hd (x:=.tuple #[e.key,e.val]) ?_ (.fD rfl (fun q hq=>?_)) rfl rfl rfl
      ·simp [execOp,ho,ZW,Instr.entry,vJ hgi,vJ hg,rr]
      ·match q with
       | 0=>simpa [h2] using iI (w:=w) (S:=S) (μ:=μ) (ν:=ν) h3
       | 1=>simpa using Rel.d (μ:=μ) (ν:=ν) h5
       | q+2=>simp at hq; omega
    ·cases h
   ·cases h
  ·cases h
 ·-- slice
  rename_i t x hh0
  split at h
  ·rename_i d κ n kk hh e _ _ _ _ eT hx hhi ht
   split at h
   ·rename_i e' k n' f i hl hie
    rw [Bool.cond_eq_ite] at h
    split at h
    ·cases h
    ·rename_i vD
     simp only [Bool.or_eq_true,Bool.not_eq_true',not_or,Bool.not_eq_false] at vD
     simp only [Option.some.injEq] at h
     subst h
     rw [eT]
     have cD:((Ob.ne n n').and (.pr (0≤hh∧hh≤n))).den:=cD
     obtain ⟨o1,o2,o3⟩:=Ob.da cD
     have o1:n=n':=o1
     subst o1
     have hdk:d≠κ:=fun e=>vD.1.1 (by rw [e,Nat.beq_refl])
     have hκ:=lr (κ,.row e' k n f) (by simp)
     have N0:=hs.mem κ _ hκ
     obtain ⟨ti,z,F⟩:=aG (hT _ _ ht)
     have hu:=fA F.kind
     obtain ⟨te,ze,G⟩:=aG (hT _ _ hie)
     have I7:(sizeOf e).run C.P w=.ok i.size w:=by simp [sizeOf,typeInfo,G.info,G.size]
     have hhv:=fk (hρ _ _ hhi)
     have hf:lh A d:=yA d (by simp [hdk])
     have hv:=hρ _ _ hx
     generalize hxv:a.eval x=xv at hv
     have XE:=hs.drop κ
     have hfd:=hf.drop κ
     have q1:∀ (k:IntKind) (i:Int) (y:Nat) (c:BoundsCode),0≤i→i≤y→(Instr.sliceBound (.int k i) y c).run C.P w=.ok i.toNat w:=fun k i y c h0 h1=>run_sliceBound w k i y c h0 h1
     cases hv with
     | @dt _ ad hμ =>
      have ag9:hh=0:=by omega
      subst ag9
      unfold Oper.wp
      have iH:(execOp a.eval o).run C.P w=.ok (.value (.slice ad 0 0)) w:=by
       simp (disch:=omega) [execOp,ho,hxv,hhv,Instr.sliceAt,run_underlying hu,Instr.slice,Instr.sliceBounds,q1,I7]
      rw [iH]
      have h1:=XE.KZ hfd e' k f
      have h2:=h1.put (dst:=some d) (x:=.own d 0) (v:=.slice ad 0 0) (fun t ht=>by cases ht; exact hd d eT) (.dt (by simp [dH]))
      rw [zT hdk]
      exact ⟨S,_,by rw [eT]; exact h2⟩
     | @own _ _ g cap hμ =>
      rw [hμ] at N0
      have uH:=N0.at.not
      obtain ⟨cur,hg,_,h3,h4,h5,h6⟩:=N0.at
      unfold Oper.wp
      have YS:hh.toNat≤cap:=by omega
      have iH:(execOp a.eval o).run C.P w=.ok (.value (.slice (some ⟨g,0,none⟩) hh.toNat cap)) w:=by
       simp (disch:=omega) [execOp,ho,hxv,hhv,Instr.sliceAt,run_underlying hu,Instr.slice,Instr.sliceBounds,q1,I7,jr]
      rw [iH]
      have h1:=XE.Xz hfd (blk:=.row e' k hh.toNat f) (b:=g) (cap:=cap) (w':=w) (by simp [bP.keys]) (Kept.refl _ _) uH (fun κ' b' g' c q1 q2 e'=>by
       simp only [M.set] at q1
       by_cases cc:κ'=κ
       ·simp [cc] at q1
       ·simp only [cc,if_false] at q1
        subst e'
        exact cc (hs.inj κ' κ b' _ g' c cap q1 hκ q2 hμ)) (hs.own κ _ g cap hκ hμ) ⟨cur,hg,uH,h3,YS,h5,fun q hq=>h6 q (by omega)⟩
      have h2:=h1.put (dst:=some d) (x:=.own d hh.toNat) (v:=.slice (some ⟨g,0,none⟩) hh.toNat cap) (fun t ht=>by cases ht; exact hd d eT) (.own (by simp [dH]))
      rw [zT hdk]
      exact ⟨S,_,by rw [eT]; exact h2⟩
   ·cases h
  ·rename_i d kk hh e _ _ _ _ eT hx hhi ht
   split at h
   ·rename_i i hie
    simp only [Option.some.injEq] at h
    subst h
    have cD:0≤hh∧hh≤0:=cD
    obtain rfl:hh=0:=by omega
    obtain ⟨ti,z,F⟩:=aG (hT _ _ ht)
    have hu:=fA F.kind
    obtain ⟨te,ze,G⟩:=aG (hT _ _ hie)
    have I7:(sizeOf e).run C.P w=.ok i.size w:=by simp [sizeOf,typeInfo,G.info,G.size]
    have hhv:=fk (hρ _ _ hhi)
    have hxv:=dc rfl (hρ _ _ hx)
    have q1:∀ (k:IntKind) (i:Int) (y:Nat) (c:BoundsCode),0≤i→i≤y→(Instr.sliceBound (.int k i) y c).run C.P w=.ok i.toNat w:=fun k i y c h0 h1=>run_sliceBound w k i y c h0 h1
    refine nC (τ:=Tr.mk need o.dst (.d (.v (.slice none 0 0))) [] [] [] gs) hs hd (x:=.slice none 0 0) ?_ (iI rfl) rfl rfl rfl
    simp (disch:=omega) [execOp,ho,hxv,hhv,Instr.sliceAt,run_underlying hu,Instr.slice,Instr.sliceBounds,q1,I7]
   ·cases h
  ·cases h
 ·-- cap
  rename_i xs ts
  split at h
  ·rename_i t hxs hts
   split at h
   ·rename_i _ _ _ _ _ ht
    simp only [Option.some.injEq] at h
    subst h
    obtain ⟨ti,z,F⟩:=aG (hT _ _ ht)
    have hu:=fA F.kind
    have lq:=nE hρ xs.toList _ hxs
    have hx0:xs.map a.eval = #[.slice none 0 0]:=by
     have hl:(xs.map a.eval).toList.length=1:=by simpa using lq.1
     have h0:=lq.2 0 (by simp)
     have h0:=dc rfl h0
     apply Array.ext'
     rw [Array.toList_map] at hl ⊢
     match hq:xs.toList.map a.eval,hl with
     | [y],_=>rw [hq] at h0; simpa using h0
    have aam:ts = #[t]:=by cases ts; simpa using hts
    refine nC (τ:=Tr.mk need o.dst (.d (.v (.int .i64 0))) [] [] [] gs) hs hd (x:=.int .i64 0) ?_ (iI rfl) rfl rfl rfl
    simp [execOp,ho,resolve,invoke,builtin,hx0,aam,Builtin.cap_,run_underlying hu,goInt]
   ·cases h
  ·cases h
 ·-- append of aio
  rename_i xs ts
  split at h
  ·rename_i d n t t' eT hxs hts
   split at h
   ·rename_i e _ _ _ _ _ _ _ _ ht ht'
    split at h
    ·rename_i i hie
     simp only [Option.some.injEq] at h
     subst h
     have cD:0≤n∧n.toNat≤maxLen∧n.toNat * i.bytes≤140737488355328:=cD
     obtain ⟨o1,o2,o3⟩:=cD
     rw [eT]
     obtain ⟨ti,z,F⟩:=aG (hT _ _ ht)
     have hu:=fA F.kind
     obtain ⟨ti',z',F'⟩:=aG (hT _ _ ht')
     have hu':=vH F'.kind
     obtain ⟨te,ze,G⟩:=aG (hT _ _ hie)
     have lq:=nE hρ xs.toList _ hxs
     have hx0:xs.map a.eval = #[.slice none 0 0,.int .i64 n]:=by
      have hl:(xs.map a.eval).toList.length=2:=by simpa using lq.1
      have h0:=dc rfl (lq.2 0 (by simp))
      have h1:=dc rfl (lq.2 1 (by simp))
      apply Array.ext'
      rw [Array.toList_map] at hl ⊢
      match hq:xs.toList.map a.eval,hl with
      | [y,y'],_=>rw [hq] at h0 h1; simp only [List.getD_cons_zero,List.getD_cons_succ] at h0 h1; rw [h0,h1]
     have aam:ts = #[t,t']:=by cases ts; simpa using hts
     have hml:n≤9223372036854775807:=by have:=o2; simp only [maxLen] at this; omega
     have hwr:IntKind.i64.wrap n=n:=IntWalk.i64_in n ⟨by omega,hml⟩
     obtain ⟨q1,q2⟩:=lj (w:=w) (S:=S) G.zok
     have hzl:ze.cells.size=i.size:=by have:=q1; simp only [Array.length_toList] at this; rw [this,G.Ea]
     have hf:lh A d:=yA d (by simp)
     by_cases h0:n=0
     ·subst h0
      have iH:(execOp a.eval o).run C.P w=.ok (.value (.slice none 0 0)) w:=by
       simp [execOp,ho,resolve,invoke,builtin,hx0,aam,Builtin.append_,run_underlying hu,run_underlying hu',sizeOf,typeInfo,G.info,asInt,asIntOf,hwr]
      unfold Oper.wp
      rw [iH]
      have h1:=hs.KZ hf e i.size (fun _=>i.zero)
      have h2:=h1.put (dst:=some d) (x:=.own d 0) (v:=.slice none 0 0) (fun t ht=>by cases ht; exact hd d eT) (.dt (by simp [dH]))
      rw [sD]
      exact ⟨S,_,by rw [eT]; exact h2⟩
     ·have hn1:0 < n.toNat:=by omega
      have SH:=grownCap_ge w n.toNat 0 e
      have SI:grownCap w n.toNat 0 e≤maxLen:=grownCap_le_maxLen w n.toNat 0 e o2
      have h48:¬ (281474976710656 < Builtin.nextslicecap n.toNat 0 * te.bytes):=by rw [nextslicecap_zero hn1,G.bytes]; omega
      have afp:¬ (281474976710656 < n * (te.bytes:Int)):=by
       rw [G.bytes]
       have h1:((n.toNat * i.bytes:Nat):Int)≤140737488355328:=by omega
       rw [Int.natCast_mul,Int.toNat_of_nonneg o1] at h1
       omega
      have iH:∃ cells:Array Value,(execOp a.eval o).run C.P w=.ok (.value (.slice (some ⟨w.heap.size,0,none⟩) n.toNat (grownCap w n.toNat 0 e))) (w.drew.alloc (.cells cells e))∧cells=Builtin.zeroCells ze.cells n.toNat++Builtin.zeroCells ze.cells (grownCap w n.toNat 0 e - n.toNat):=by
       refine ⟨_,?_,rfl⟩
       have hn0:¬ n.toNat=0:=by omega
       have acb:¬ n < 0:=by omega
       have hle:¬ n≤0:=by omega
       have h63:¬ (9223372036854775807 < n):=by omega
       have hmx:max n 0=n:=by omega
       by_cases kM:i.size=0
       ·have hz0:ze.cells.size=0:=by omega
        have hze:Builtin.zeroCells ze.cells n.toNat = #[]:=by simp [Builtin.zeroCells,hz0]
        rw [hze]
        simp [execOp,ho,resolve,invoke,builtin,hx0,aam,Builtin.append_,run_underlying hu,run_underlying hu',sizeOf,typeInfo,G.info,asInt,asIntOf,hwr,acb,hle,h48,afp,h63,hmx,Question.forced,Builtin.firstCells,newRow,grownCap,zeroValue,G.zero,G.size,kM]
       ·simp [execOp,ho,resolve,invoke,builtin,hx0,aam,Builtin.append_,run_underlying hu,run_underlying hu',sizeOf,typeInfo,G.info,asInt,asIntOf,hwr,acb,hle,h48,afp,h63,hmx,Question.forced,Builtin.firstCells,newRow,grownCap,zeroValue,G.zero,G.size]
        intro hc
        rcases Nat.mul_eq_zero.1 hc with hc | hc
        ·exact absurd hc hn0
        ·exact absurd hc kM
      obtain ⟨cells,iH,QW⟩:=iH
      have YS:cells.size=grownCap w n.toNat 0 e * i.size:=by
       rw [QW]
       simp only [Array.size_append,size_zeroCells,hzl,← Nat.add_mul]
       congr 1
       omega
      unfold Oper.wp
      rw [iH]
      have uH:¬ S w.heap.size:=fun h=>by have:=hs.bound _ h; omega
      have hw:∀ q,S q→(w.drew.alloc (.cells cells e)).heap[q]? = w.heap[q]?:=fun q hq=>heap_alloc_old w.drew _ (hs.bound q hq)
      have h1:=hs.Xz hf (blk:=.row e i.size n.toNat fun _=>i.zero) (b:=w.heap.size) (cap:=grownCap w n.toNat 0 e) (w':=w.drew.alloc (.cells cells e)) (by simp [bP.keys]) ⟨rfl,rfl,rfl,by simp,fun k hk _=>heap_alloc_old w.drew _ hk⟩ uH (fun κ' b' g' c q1 q2 e'=>by
       have:=hs.mem κ' b' q1
       rw [q2] at this
       have:=this.at.lt
       omega) (.inl hs.kept.size) ⟨cells,heap_alloc_new w.drew _,uH,YS,SH,SI,fun q hq=>⟨G.Ea,fun j hj=>?_⟩⟩
      ·have h2:=h1.put (dst:=some d) (x:=.own d n.toNat) (v:=.slice (some ⟨w.heap.size,0,none⟩) n.toNat (grownCap w n.toNat 0 e)) (fun t ht=>by cases ht; exact hd d eT) (.own (by simp [dH]))
       rw [sD]
       exact ⟨S,_,by rw [eT]; exact h2⟩
      ·have gH:q * i.size+j < n.toNat * i.size:=by
        calc q * i.size+j < q * i.size+i.size:=by omega
         _=(q+1) * i.size:=by rw [Nat.add_mul,Nat.one_mul]
         _≤n.toNat * i.size:=Nat.mul_le_mul_right _ hq
       have Ip:j < ze.cells.size:=by omega
       have YR:(q * i.size+j) % ze.cells.size=j:=by rw [hzl,Nat.mul_comm,Nat.mul_add_mod,Nat.mod_eq_of_lt hj]
       refine ⟨ze.cells[j],?_,?_⟩
       ·rw [QW,Array.getElem?_append_left (by rw [size_zeroCells,hzl]; exact gH)]
        have NU:q * i.size+j < n.toNat * ze.cells.size:=by rw [hzl]; exact gH
        simp only [Builtin.zeroCells,Array.getElem?_map,Array.getElem?_range,NU,if_true,Option.map_some,YR]
        rw [getElem!_pos ze.cells j Ip]
       ·have:=(q2 j (by rw [G.Ea]; exact hj)).mono (S':=S) (w':=w.drew.alloc (.cells cells e)) (fun _ x=>x) hw
        rw [show ze.cells.toList.getD j undef=ze.cells[j] from by simp [List.getD,Ip]] at this
        exact this
    ·cases h
   ·cases h
  ·cases h
 ·cases h
theorem YT {T:List (Nat × TI)} {lb:List (Nat × bP)} {ρ:Operand→Option AV} {dst:Option Nat} {quiet:Bool} {op:Op} {r:R} (h:Ld T lb ρ dst quiet op=some r) :
  (∀ p,p∈r.ro→look lb p.1=some p.2)∧(∀ p,p∈r.mem→look lb p.1=some p.2)∧(quiet=true→r.mem=[]∧r.gI=[]):=by
 unfold Ld at h
 have nil:∀ {p:Nat × bP},p∈([]:List (Nat × bP))→look lb p.1=some p.2:=fun h=>by cases h
 have one:∀ {κ:Nat} {b:bP},look lb κ=some b→∀ p,p∈[(κ,b)]→look lb p.1=some p.2:=fun h p hp=>by simp only [List.mem_singleton] at hp; subst hp; exact h
 split at h
 ·split at h
  ·simp only [Option.some.injEq] at h; subst h; exact ⟨fun _=>nil,fun _=>nil,fun hq=>by cases hq⟩
  ·cases h
 ·split at h
  ·split at h
   ·rename_i hl _; simp only [Option.some.injEq] at h; subst h; exact ⟨fun _=>nil,one hl,fun hq=>by cases hq⟩
   ·cases h
  ·cases h
 ·split at h
  ·split at h
   ·rename_i hl
    rw [Bool.cond_eq_ite] at h
    split at h
    ·cases h
    ·simp only [Option.some.injEq] at h; subst h; exact ⟨one hl,fun _=>nil,fun hq=>by cases hq⟩
   ·cases h
  ·cases h
 ·split at h
  ·split at h
   ·rename_i NR
    split at h
    ·rename_i hl
     simp only [Option.some.injEq] at h; subst h
     exact ⟨fun p hp=>by
      simp only [List.mem_cons,List.not_mem_nil,or_false] at hp
      rcases hp with rfl | rfl
      ·exact NR
      ·exact hl,fun _=>nil,fun _=>⟨rfl,rfl⟩⟩
    ·cases h
   ·cases h
  ·cases h
 ·split at h
  ·split at h
   ·rename_i hl _
    rw [Bool.cond_eq_ite] at h
    split at h
    ·cases h
    ·simp only [Option.some.injEq] at h; subst h; exact ⟨fun _=>nil,one hl,fun hq=>by cases hq⟩
   ·cases h
  ·split at h
   ·simp only [Option.some.injEq] at h; subst h; exact ⟨fun _=>nil,fun _=>nil,fun hq=>by cases hq⟩
   ·cases h
  ·cases h
 ·split at h
  ·split at h
   ·simp only [Option.some.injEq] at h; subst h; exact ⟨fun _=>nil,fun _=>nil,fun _=>⟨rfl,rfl⟩⟩
   ·cases h
  ·cases h
 ·split at h
  ·split at h
   ·split at h
    ·simp only [Option.some.injEq] at h; subst h; exact ⟨fun _=>nil,fun _=>nil,fun hq=>by cases hq⟩
    ·cases h
   ·cases h
  ·cases h
 ·cases h
end
def Ed:Value→Value→Bool
 | .int k a,.int k' b=>decide (k=k')&&(a == b)
 | _,_=>false
def pn (k:Value):Nat→(Nat→Value × D)→Option Nat
 | 0,_=>none
 | n+1,f=>bif Ed k (f 0).1 then some 0 else (pn k n fun i=>f (i+1)).map (· + 1)
def AR (k:Value) (n:Nat) (f:Nat→Value × D):Bool:=(pn k n f).isSome
def vK (k:Value) (n:Nat) (f:Nat→Value × D) (z:D):D:=match pn k n f with | some p=>(f p).2 | none=>z
def mpN (k:Value) (n:Nat) (f:Nat→Value × D):Nat:=match pn k n f with | some _=>n | none=>n+1
def mpF (k:Value) (x:D) (n:Nat) (f:Nat→Value × D):Nat→Value × D:=match pn k n f with
 | some p=>fun q=>if q=p then ((f q).1,x) else f q
 | none=>fun q=>if q < n then f q else (k,x)
def XF (P:Program) (t:Nat):Option D:=match P.info? t with
 | some j=>(match j.zero with | some (.int k n)=>some (.v (.int k n)) | some (.bool b)=>some (.v (.bool b)) | _=>none)
 | none=>none
def Tk (P:Program) (T:List (Nat × TI)) (lb:List (Nat × bP)) (ρ:Operand→Option AV) (dst:Option Nat) (quiet:Bool):Op→Option R
 | .mapUpdate t m k x=>(match quiet,dst,ρ m,ρ k,ρ x,look T t with
  | false,none,some (.vp κ),some (.d (.v (.int kk a))),some (.d xd),some { kind:=.map kt _,.. }=>(match look lb κ,look T kt with
   | some (.mp n f),some { kind:=.int _,.. }=>some ⟨.any,[],[(κ,.mp n f)],[(κ,.mp (mpN (.int kk a) n f) (mpF (.int kk a) xd n f))],.pr (∀ i,i < n→∃ b,(f i).1=.int kk b)⟩
   | _,_=>none)
  | _,_,_,_,_,_=>none)
 | .lookup t m k ok=>(match ρ m,ρ k,look T t with
  | some (.vp κ),some (.d (.v (.int kk a))),some { kind:=.map kt et,.. }=>(match look lb κ,look T kt,XF P et with
   | some (.mp n f),some { kind:=.int _,.. },some z=>some ⟨bif ok then .fD [.d (vK (.int kk a) n f z),.d (.v (.bool (AR (.int kk a) n f)))] else .d (vK (.int kk a) n f z),[(κ,.mp n f)],[],[],.pr (∀ i,i < n→∃ b,(f i).1=.int kk b)⟩
   | _,_,_=>none)
  | some (.CP n f),some (.d (.v (.int kk a))),some { kind:=.map kt et,.. }=>(match look T kt,XF P et with
   | some { kind:=.int _,.. },some z=>some ⟨bif ok then .fD [.d (vK (.int kk a) n f z),.d (.v (.bool (AR (.int kk a) n f)))] else .d (vK (.int kk a) n f z),[],[],[],.pr (∀ i,i < n→∃ b,(f i).1=.int kk b)⟩
   | _,_=>none)
  | _,_,_=>none)
 | _=>none
theorem Ee {k:Value}:∀ {n:Nat} {f:Nat→Value × D},(∀ p,pn k n f=some p→p < n∧Ed k (f p).1=true)∧(pn k n f=none→∀ i,i < n→Ed k (f i).1=false)
 | 0,f=>⟨fun p h=>(by cases h),fun _ i hi=>absurd hi (by omega)⟩
 | n+1,f=>by
  have ih:=Ee (k:=k) (n:=n) (f:=fun i=>f (i+1))
  simp only [pn]
  cases hk:Ed k (f 0).1 with
  | true=>exact ⟨fun p h=>by simp only [cond_true,Option.some.injEq] at h; subst h; exact ⟨by omega,hk⟩,fun h=>(by cases h)⟩
  | false =>
   simp only [cond_false]
   refine ⟨fun p h=>?_,fun h i hi=>?_⟩
   ·cases hq:pn k n (fun i=>f (i+1)) with
    | none=>rw [hq] at h; cases h
    | some q =>
     rw [hq] at h
     simp only [Option.map_some,Option.some.injEq] at h
     subst h
     obtain ⟨h1,h2⟩:=ih.1 q hq
     exact ⟨by omega,h2⟩
   ·have hq:pn k n (fun i=>f (i+1))=none:=by
     cases hq:pn k n (fun i=>f (i+1)) with
     | none=>rfl
     | some q=>rw [hq] at h; cases h
    cases i with
    | zero=>exact hk
    | succ i=>exact ih.2 hq i (by omega)
theorem BG {ik kk:IntKind} {a:Int}:∀ (es:List MapEntry) (f:Nat→Value × D) (j:Nat),(∀ (i:Nat) (h:i < es.length),(es[i]'h).key=(f i).1∧∃ b,(f i).1=.int kk b) →
  Instr.findNow (.int ik) (.int kk a) es j=some (match pn (.int kk a) es.length f with | some p=>(es[p]?).map (fun e=>(p+j,e.val)) | none=>none)
 | [],_,_,_=>rfl
 | e :: es,f,j,h=>by
  obtain ⟨h1,b,h2⟩:=h 0 (by simp)
  have h1:e.key=(f 0).1:=h1
  have ih:=BG (ik:=ik) (kk:=kk) (a:=a) es (fun i=>f (i+1)) (j+1) (fun i hi=>h (i+1) (by simpa using hi))
  simp only [Instr.findNow,Instr.sameNow,h1,h2,if_true,List.length_cons,pn,Ed,decide_true,Bool.true_and]
  cases hab:(a == b) with
  | true=>simp
  | false =>
   simp only [ih,cond_false]
   cases hq:pn (.int kk a) es.length (fun i=>f (i+1)) with
   | none=>simp
   | some q =>
    simp only [Option.map_some,List.getElem?_cons_succ]
    congr 2
    funext e
    simp; omega
section
variable {C : Cx} {A : M} {a : Act} {w : World} {S : Nat → Prop} {μ : Mu} {ν : Nat → Bool}
theorem aan {P:Program} {k:IntKind} {n:Int}:(Instr.keyThatStays (.int k n) (.int k n)).run P w=.ok (.int k n) w:=by
 simp [Instr.keyThatStays,Instr.sameBits]
theorem Le {ok:Bool} {x:D} {b:Bool} {v:Value} (hv:Rel w S μ ν (.d x) v):Rel w S μ ν (bif ok then .fD [.d x,.d (.v (.bool b))] else .d x) (bif ok then .tuple #[v,.bool b] else v):=by
 cases ok with
 | false=>exact hv
 | true =>
  refine .fD rfl (fun q hq=>?_)
  match q with
  | 0=>simpa using hv
  | 1=>simpa using iI (w:=w) (S:=S) (μ:=μ) (ν:=ν) (x:=.bool b) rfl
  | q+2=>simp at hq; omega
theorem Lf {T:List (Nat × TI)} (hT:pj C.P T) {t kt et:Nat} {ik kk:IntKind} {n0:Int} {kv:Value} {z:D} {n g:Nat} {f:Nat→Value × D} {cur:Array MapEntry} {ok:Bool} {s1 b1 s2 b2:Nat} {z1 z2:List D} {q1 q2:Bool}
  (hkv:kv=.int kk n0) (ht:look T t=some { kind:=.map kt et,size:=s1,bytes:=b1,zero:=z1,eq:=q1 }) (hkt:look T kt=some { kind:=.int ik,size:=s2,bytes:=b2,zero:=z2,eq:=q2 }) (hz:XF C.P et=some z) (cD:(Ob.pr (∀ i,i < n→∃ b,(f i).1=.int kk b)).den)
  (hg:w.heap[g]? = some (.map cur n)) (kM:cur.size=n) (cC:∀ i,i < n→∃ e,cur[i]? = some e∧e.key=(f i).1∧scalar e.key=true∧e.born=i∧Rd w S (f i).2 e.val) :
  ∃ v,(Instr.lookup t (.map (some g)) kv ok).run C.P w=.ok (bif ok then .tuple #[v,.bool (AR (.int kk n0) n f)] else v) w∧Rel w S μ ν (.d (vK (.int kk n0) n f z)) v:=by
 subst hkv
 obtain ⟨ti,z0,F⟩:=aG (hT _ _ ht)
 obtain ⟨tj,zj,G⟩:=aG (hT _ _ hkt)
 have hu:=Fg F.kind
 have XD:=vH G.kind
 have cD:∀ i,i < n→∃ b,(f i).1=.int kk b:=cD
 have adU:∀ (i:Nat) (h:i < cur.toList.length),(cur.toList[i]'h).key=(f i).1∧∃ b,(f i).1=.int kk b:=fun i hi=>by
  have VC:i < n:=by simpa [kM] using hi
  obtain ⟨e,h1,h2,_⟩:=cC i VC
  have:cur.toList[i]=e:=by simpa using (Array.getElem?_eq_some_iff.1 h1).2
  rw [this]
  exact ⟨h2,cD i VC⟩
 have rr:=BG (ik:=ik) (a:=n0) cur.toList f 0 adU
 have AP:cur.toList.length=n:=by simpa using kM
 rw [AP] at rr
 have hck:=fun q=>sF (w:=w) (P:=C.P) (b:=cur.isEmpty) (kk:=kk) (n:=n0) XD q
 obtain ⟨zv,hzv,hzr⟩:∃ zv,(zeroValue et).run C.P w=.ok zv w∧Rel w S μ ν (.d z) zv:=by
  unfold XF at hz
  split at hz
  ·rename_i j hj
   split at hz
   ·rename_i k' n' hjz
    simp only [Option.some.injEq] at hz
    subst hz
    exact ⟨.int k' n',by simp only [zeroValue,typeInfo,Sem.run_bind,run_program,Result.andThen_ok,hj,Sem.run_pure,hjz],iI rfl⟩
   ·rename_i b hjz
    simp only [Option.some.injEq] at hz
    subst hz
    exact ⟨.bool b,by simp only [zeroValue,typeInfo,Sem.run_bind,run_program,Result.andThen_ok,hj,Sem.run_pure,hjz],iI rfl⟩
   ·cases hz
  ·cases hz
 cases Jc:pn (.int kk n0) n f with
 | some p =>
  obtain ⟨hp,hpk⟩:=Ee.1 p Jc
  obtain ⟨e,h1,h2,h3,h4,h5⟩:=cC p hp
  have h1l:cur.toList[p]? = some e:=by simpa using h1
  rw [Jc] at rr
  simp only [h1l,Option.map_some,Nat.add_zero] at rr
  refine ⟨e.val,?_,by simp only [vK,Jc]; exact .d h5⟩
  unfold Instr.lookup
  simp only [Sem.run_bind,run_underlying hu,Result.andThen_ok,vJ hg,Sem.run_pure,hck 9999,Instr.findKey,run_underlying XD,rr,AR,Jc,Option.isSome_some]
  cases ok <;> rfl
 | none =>
  rw [Jc] at rr
  simp only at rr
  refine ⟨zv,?_,by simp only [vK,Jc]; exact hzr⟩
  unfold Instr.lookup
  simp only [Sem.run_bind,run_underlying hu,Result.andThen_ok,vJ hg,Sem.run_pure,hck 9999,Instr.findKey,run_underlying XD,rr,hzv,AR,Jc,Option.isSome_none]
  cases ok <;> rfl
theorem Tl {T:List (Nat × TI)} (hT:pj C.P T) (hs:dG C A a w S μ ν) {lb:List (Nat × bP)} {o:Oper} {ρ:Operand→Option AV} (hρ:∀ x y,ρ x=some y→Rel w S μ ν y (a.eval x)) (hd:∀ t,o.dst=some t→t < C.nt) {quiet:Bool} {r:R}
  (h:Tk C.P T lb ρ o.dst quiet o.op=some r) (oq:∀ p,p∈r.ro→A.lb p.1=some p.2) (lr:∀ p,p∈r.mem→A.lb p.1=some p.2) (cD:r.ob.den) (need:List (Nat × AV)) (gs:List (Nat × Bool)) :
  o.wp C.P a w (fun a' w'=>∃ S' μ',dG C ((Tr.mk need o.dst r.v r.ro r.mem r.gI gs).apply A) a' w' S' μ' ν) (fun _ _ _=>False):=by
 unfold Tk at h
 split at h
 all_goals rename_i ho
 ·-- an entry is laid
  rename_i t m k x
  split at h
  ·rename_i κ kk n0 xd kt _ _ _ _ _ eT hm hk hx ht
   split at h
   ·rename_i n f ik _ _ _ _ hl hkt
    simp only [Option.some.injEq] at h
    subst h
    rw [eT]
    have hκ:=lr (κ,.mp n f) (by simp)
    have N0:=hs.mem κ _ hκ
    have hv:=hρ _ _ hm
    generalize hmv:a.eval m=mv at hv
    cases hv with
    | @vp _ g cap hμ =>
     rw [hμ] at N0
     obtain ⟨cur,hg,uH,kM,cC⟩:=N0.at
     obtain ⟨ti,z,F⟩:=aG (hT _ _ ht)
     obtain ⟨tj,zj,G⟩:=aG (hT _ _ hkt)
     have hu:=Fg F.kind
     have XD:=vH G.kind
     have hkv:=fk (hρ _ _ hk)
     have cD:∀ i,i < n→∃ b,(f i).1=.int kk b:=cD
     have adU:∀ (i:Nat) (h:i < cur.toList.length),(cur.toList[i]'h).key=(f i).1∧∃ b,(f i).1=.int kk b:=fun i hi=>by
      have VC:i < n:=by simpa [kM] using hi
      obtain ⟨e,h1,h2,_⟩:=cC i VC
      have:cur.toList[i]=e:=by simpa using (Array.getElem?_eq_some_iff.1 h1).2
      rw [this]
      exact ⟨h2,cD i VC⟩
     have rr:=BG (ik:=ik) (a:=n0) cur.toList f 0 adU
     have AP:cur.toList.length=n:=by simpa using kM
     rw [AP] at rr
     have hw:∀ o':Obj,∀ q,S q→(World.Ec w g o').heap[q]? = w.heap[q]?:=fun o' q hq=>(vq g _).block q (hs.bound q hq) (fun e=>uH (e ▸ hq))
     have hck:=fun q=>sF (w:=w) (P:=C.P) (b:=false) (kk:=kk) (n:=n0) XD q
     cases Jc:pn (.int kk n0) n f with
     | some p =>
      obtain ⟨hp,hpk⟩:=Ee.1 p Jc
      obtain ⟨e,h1,h2,h3,h4,h5⟩:=cC p hp
      have afq:e.key=.int kk n0:=by
       obtain ⟨b,hb⟩:=cD p hp
       rw [hb] at hpk h2
       simp only [Ed,decide_true,Bool.true_and,beq_iff_eq] at hpk
       rw [h2,hpk]
      have h1l:cur.toList[p]? = some e:=by simpa using h1
      rw [Jc] at rr
      simp only [h1l,Option.map_some,Nat.add_zero] at rr
      have iH:(execOp a.eval o).run C.P w=.ok .skip (World.Ec w g (.map (cur.modify p fun e=>{ e with key:=.int kk n0,val:=a.eval x }) n)):=by
       unfold execOp
       rw [ho]
       simp only [hmv,hkv,Sem.run_bind]
       unfold Instr.mapUpdate
       simp only [Sem.run_bind,run_underlying hu,Result.andThen_ok,vJ hg,hck 9999,Instr.findKey,run_underlying XD,rr,Sem.run_pure,h1,Option.map_some,Option.getD_some,afq,aan,Ti _ hg]
      unfold Oper.wp
      rw [iH]
      refine ⟨S,μ,?_⟩
      rw [nF,eT]
      have eN:mpN (.int kk n0) n f=n:=by simp [mpN,Jc]
      rw [eN]
      refine hs.QT hκ hμ (vq g _) ⟨_,Ku _ hg,uH,by simp [kM],fun i hi=>?_⟩
      obtain ⟨e',q1,q2,q3,q4,q5⟩:=cC i hi
      have gP:i < cur.size:=by omega
      by_cases c:i=p
      ·subst c
       rw [h1] at q1
       cases q1
       refine ⟨{ e with key:=.int kk n0,val:=a.eval x },?_,?_,rfl,q4,?_⟩
       ·simp [Array.getElem?_modify,h1]
       ·simp only [mpF,Jc,if_true]
        rw [← q2,afq]
       ·simp only [mpF,Jc,if_true]
        exact (jW.1 (hρ _ _ hx)).mono (fun _ x=>x) (hw _)
      ·refine ⟨e',?_,?_,q3,q4,?_⟩
       ·have c':¬ p=i:=fun e=>c e.symm
        simp [Array.getElem?_modify,c',q1]
       ·simp only [mpF,Jc,c,if_false]; exact q2
       ·simp only [mpF,Jc,c,if_false]; exact q5.mono (fun _ x=>x) (hw _)
     | none =>
      rw [Jc] at rr
      simp only at rr
      have iH:(execOp a.eval o).run C.P w=.ok .skip (World.Ec w g (.map (cur.push { key:=.int kk n0,val:=a.eval x,born:=n }) (n+1))):=by
       have h1:=Lc (x:=a.eval x) hu XD hg rr
       unfold execOp
       rw [ho]
       simp only [hmv,hkv,Sem.run_bind,h1,Result.andThen_ok,Sem.run_pure]
      unfold Oper.wp
      rw [iH]
      refine ⟨S,μ,?_⟩
      rw [nF,eT]
      have eN:mpN (.int kk n0) n f=n+1:=by simp [mpN,Jc]
      rw [eN]
      refine hs.QT hκ hμ (vq g _) ⟨_,Ku _ hg,uH,by simp [kM],fun i hi=>?_⟩
      by_cases c:i < n
      ·obtain ⟨e,h1,h2,h3,h4,h5⟩:=cC i c
       refine ⟨e,?_,by simp only [mpF,Jc,c,if_true]; exact h2,h3,h4,by simp only [mpF,Jc,c,if_true]; exact h5.mono (fun _ x=>x) (hw _)⟩
       rw [Array.getElem?_push,if_neg (by omega)]
       exact h1
      ·obtain rfl:i=n:=by omega
       refine ⟨_,by rw [Array.getElem?_push,if_pos kM.symm],by simp only [mpF,Jc,c,if_false],rfl,rfl,?_⟩
       simp only [mpF,Jc,c,if_false]
       exact (jW.1 (hρ _ _ hx)).mono (fun _ x=>x) (hw _)
   ·cases h
  ·cases h
 ·-- an entry is looked up
  rename_i t m k ok
  split at h
  ·rename_i κ kk n0 kt et _ _ _ _ hm hk ht
   split at h
   ·rename_i n f ik _ _ _ _ z hl hkt hz
    simp only [Option.some.injEq] at h
    subst h
    have hκ:=oq (κ,.mp n f) (by simp)
    have N0:=hs.mem κ _ hκ
    have hv:=hρ _ _ hm
    generalize hmv:a.eval m=mv at hv
    cases hv with
    | @vp _ g cap hμ =>
     rw [hμ] at N0
     obtain ⟨cur,hg,uH,kM,cC⟩:=N0.at
     obtain ⟨v,hrv,hv⟩:=Lf (ok:=ok) hT (fk (hρ _ _ hk)) ht hkt hz cD hg kM cC
     refine nC (τ:=Tr.mk need o.dst (bif ok then .fD [.d (vK (.int kk n0) n f z),.d (.v (.bool (AR (.int kk n0) n f)))] else .d (vK (.int kk n0) n f z)) [(κ,.mp n f)] [] [] gs) hs hd (x:=bif ok then .tuple #[v,.bool (AR (.int kk n0) n f)] else v) ?_ (Le hv) rfl rfl rfl
     simp only [execOp,ho,hmv,Sem.run_bind,hrv,Result.andThen_ok,Sem.run_pure]
   ·cases h
  ·rename_i n f kk n0 kt et _ _ _ _ hm hk ht
   split at h
   ·rename_i ik _ _ _ _ z hkt hz
    simp only [Option.some.injEq] at h
    subst h
    have hv:=hρ _ _ hm
    generalize hmv:a.eval m=mv at hv
    cases hv with
    | @CP _ _ g hp =>
     obtain ⟨uH,cur,hg,kM,cC⟩:=hp
     obtain ⟨v,hrv,hv⟩:=Lf (ok:=ok) hT (fk (hρ _ _ hk)) ht hkt hz cD hg kM cC
     refine nC (τ:=Tr.mk need o.dst (bif ok then .fD [.d (vK (.int kk n0) n f z),.d (.v (.bool (AR (.int kk n0) n f)))] else .d (vK (.int kk n0) n f z)) [] [] [] gs) hs hd (x:=bif ok then .tuple #[v,.bool (AR (.int kk n0) n f)] else v) ?_ (Le hv) rfl rfl rfl
     simp only [execOp,ho,hmv,Sem.run_bind,hrv,Result.andThen_ok,Sem.run_pure]
   ·cases h
  ·cases h
 ·cases h
theorem Lg {P:Program} {T:List (Nat × TI)} {lb:List (Nat × bP)} {ρ:Operand→Option AV} {dst:Option Nat} {quiet:Bool} {op:Op} {r:R} (h:Tk P T lb ρ dst quiet op=some r) :
  (∀ p,p∈r.ro→look lb p.1=some p.2)∧(∀ p,p∈r.mem→look lb p.1=some p.2)∧(quiet=true→r.mem=[]∧r.gI=[])∧∀ k,k∈r.gI.map (·.1)→k∈r.mem.map (·.1):=by
 unfold Tk at h
 have nil:∀ {p:Nat × bP},p∈([]:List (Nat × bP))→look lb p.1=some p.2:=fun h=>by cases h
 have one:∀ {κ:Nat} {b:bP},look lb κ=some b→∀ p,p∈[(κ,b)]→look lb p.1=some p.2:=fun h p hp=>by simp only [List.mem_singleton] at hp; subst hp; exact h
 split at h
 ·split at h
  ·split at h
   ·rename_i hl _; simp only [Option.some.injEq] at h; subst h; exact ⟨fun _=>nil,one hl,fun hq=>(by cases hq),fun k hk=>by simpa using hk⟩
   ·cases h
  ·cases h
 ·split at h
  ·split at h
   ·rename_i hl _ _; simp only [Option.some.injEq] at h; subst h; exact ⟨one hl,fun _=>nil,fun _=>⟨rfl,rfl⟩,fun k hk=>(by cases hk)⟩
   ·cases h
  ·split at h
   ·simp only [Option.some.injEq] at h; subst h; exact ⟨fun _=>nil,fun _=>nil,fun _=>⟨rfl,rfl⟩,fun k hk=>(by cases hk)⟩
   ·cases h
  ·cases h
 ·cases h
end
structure tF where
 n:Nat
 n':Nat
 f:Nat→List D
 f':Nat→List D
 eq:n=n'∧∀ i,i < n→yD (f i) (f' i)
structure PN where
 x:AV
 y:AV
 le:∀ w S μ ν v,Rel w S μ ν x v→Rel w S μ ν y v
structure DU where
 n:Nat
 n':Nat
 f:Nat→Value × D
 f':Nat→Value × D
 eq:n=n'∧∀ i,i < n→f i=f' i
inductive CX where
 | flat (res:AV)
 | gen (hand:List Nat) (res:AV) (back:List (Nat × bP))
 | eG (c:tF)
 | aZ (c:DU)
 | cast (d:Nat) (c:PN)
 | pur (d:Nat)
 | same (κ:Nat) (b':bP)
 | bx (hand:List Nat) (jX:List (Nat × Nat)) (res:AV) (back:List (Nat × bP))
def looks (lb:List (Nat × bP)):List Nat→Option (List (Nat × bP))
 | []=>some []
 | k :: r=>(match look lb k,looks lb r with | some b,some l=>some ((k,b) :: l) | _,_=>none)
def Kv (res:AV) (back:List (Nat × bP)):Bool :=
 res.keys.all (fun k=>(back.map (·.1)).contains k)&&back.all (fun p=>p.2.keys.all fun k=>(back.map (·.1)).contains k)
def QX (T:List (Nat × TI)) (lb:List (Nat × bP)) (t:Nat) (ad v:AV):Option R :=
 match look T t,v.cells with
 | some i,some xs=>(match ad with
  | .ptr κ off=>(match look lb κ with
   | some (.box cs)=>bif Nat.beq xs.length i.size&&Nat.ble (off+i.size) cs.length&&wU.pE xs&&xs.all QO then some ⟨.any,[],[(κ,.box cs)],[(κ,.box (cs.take off++xs++cs.drop (off+i.size)))],.tt⟩ else none
   | _=>none)
  | .zL κ k p off=>(match look lb κ,AQ xs with
   | some (.row e k' n f),some ds=>bif Nat.beq k k'&&Nat.beq ds.length i.size&&Nat.ble (off+i.size) k&&ds.all A8 then
     some ⟨.any,[],[(κ,.row e k n f)],[(κ,.row e k n fun q=>if q=p then (f p).take off++ds++(f p).drop (off+i.size) else f q)],.pr (p < n)⟩ else none
   | _,_=>none)
  | _=>none)
 | _,_=>none
def aao (lb:List (Nat × bP)) (k:Nat):AV→Option (Nat × (Nat→List D) × List (Nat × bP) × Ob)
 | .d (.sl m g)=>some (m,g,[],.pr ((∀ i,i < m→(g i).length=k)∧∀ i,i < m→(g i).all A8=true))
 | .d (.v (.slice none 0 0))=>some (0,fun _=>[],[],.tt)
 | .Bo m g=>some (m,g,[],.pr ((∀ i,i < m→(g i).length=k)∧∀ i,i < m→(g i).all A8=true))
 | .own κ m=>(match look lb κ with | some (.row e k' m' g)=>bif Nat.beq k k' then some (m,g,[(κ,.row e k' m' g)],(Ob.ne m m').and (.pr (∀ i,i < m→(g i).all A8=true))) else none | _=>none)
 | _=>none
def Lh (T:List (Nat × TI)) (lb:List (Nat × bP)) (dst t:Nat) (dv sv:AV):Option R :=
 match look T t with
 | some { kind:=.slice e,.. }=>(match look T e with
  | some i=>(match aao lb i.size sv with
   | some (m,g,ro,ob)=>(match dv with
    | .d (.v (.slice none 0 0))=>some ⟨.own dst (0+m),ro,[],[(dst,.row e i.size (0+m) fun q=>if q < 0 then [] else g (q - 0))],ob.and (.pr (0+m≤maxLen∧(0+m) * i.bytes≤140737488355328))⟩
    | .own κ n=>(match look lb κ with
     | some (.row e' k n' f)=>bif Nat.beq e e'&&Nat.beq k i.size&&!Nat.beq dst κ then some ⟨.own dst (n+m),ro,[(κ,.row e' k n' f)],[(dst,.row e i.size (n+m) fun q=>if q < n then f q else g (q - n))],ob.and ((Ob.ne n n').and (.pr (n+m≤maxLen∧(n+m) * i.bytes≤140737488355328)))⟩ else none
     | _=>none)
    | _=>none)
   | none=>none)
  | none=>none)
 | _=>none
def Kw (lb:List (Nat × bP)) (κ:Nat):Bool:=match look lb κ with | some (.box _)=>true | _=>false
def aap (κ:Nat):AV→Bool
 | .ptr k 0=>Nat.beq k κ
 | _=>false
def acd (args:List AV) (hand:List Nat) (c6:List (Nat × bP)) (jX:List (Nat × Nat)) (res:AV) (back:List (Nat × bP)):Bool :=
 jX.all (fun p=>Nat.ble (p.1+1) args.length&&aap p.2 (args.getD p.1 default)&&Kw c6 p.2&&Kw back p.2) &&
 back.all (fun q=>(jX.map (·.2)).contains q.1||!hand.contains q.1) &&
 res.keys.all (fun k=>(back.map (·.1)).contains k&&!(jX.map (·.2)).contains k) &&
 back.all (fun q=>q.2.keys.all fun k=>(back.map (·.1)).contains k&&!(jX.map (·.2)).contains k)
def V0 (P:Program) (lb:List (Nat × bP)) (quiet:Bool) (cf:AV) (args:List AV):List CX→Option (R × List CX)
 | .flat res :: kW=>(match cf with
  | .fn f cY=>(match yJ lb (args++cY) with
   | some (Iw,ro,ob)=>bif gJ res then some (⟨res,ro,[],[],ob.and (.pr (gQ P f Iw [] res []))⟩,kW) else none
   | none=>none)
  | _=>none)
 | .gen hand res back :: kW=>(match cf with
  | .fn f cY=>(match looks lb hand with
   | some c6=>bif wU.pE (args++cY)&&Kv res back&&wU res&&(!quiet||(hand.isEmpty&&back.isEmpty))&&back.all (fun p=>!hand.contains p.1) then some (⟨res,[],c6,back,.pr (gQ P f (args++cY) c6 res back)⟩,kW) else none
   | none=>none)
  | _=>none)
 | .same κ b' :: kW=>(match cf with
  | .fn f cY=>(match look lb κ with
   | some b=>bif wU.pE (args++cY)&&!quiet then some (⟨.any,[],[(κ,b)],[(κ,b')],.pr (FnS P f (args++cY) κ b b')⟩,kW) else none
   | none=>none)
  | _=>none)
 | .bx hand jX res back :: kW=>(match cf with
  | .fn f cY=>(match looks lb hand with
   | some c6=>bif wU.pE (args++cY)&&acd (args++cY) hand c6 jX res back&&wU res&&!quiet then some (⟨res,[],c6,back,.pr (FnB P f (args++cY) c6 res back jX)⟩,kW) else none
   | none=>none)
  | _=>none)
 | _=>none
def adj (quiet:Bool) (dst:Option Nat) (kW:List CX):Option (List CX) :=
 match quiet with
 | true=>some kW
 | false=>(match dst,kW with
  | some t,.pur d :: r=>bif Nat.beq t d then some r else none
  | _,_=>none)
def Tm (P:Program) (T:List (Nat × TI)) (lb:List (Nat × bP)) (ρ:Operand→Option AV) (dst:Option Nat) (quiet:Bool) (kW:List CX) (op:Op):Option (R × List CX) :=
 match op with
 | .alloc t=>(match quiet,dst,look T t with | false,some d,some i=>some (⟨.ptr d 0,[],[],[(d,.box (i.zero.map .d))],.tt⟩,kW) | _,_,_=>none)
 | .box _ x=>(match quiet,dst,ρ x with
  | false,some d,some v=>(match v.cells with
   | some cs=>(match adj false (some d) kW,AQ cs with
    | some uU,some ds=>some (⟨.ref ds,[],[],[],.tt⟩,uU)
    | _,_=>bif wU.pE cs&&!(AV.so cs).contains d then some (⟨.ptr d 0,[],[],[(d,.box cs)],.tt⟩,kW) else none)
   | none=>none)
  | _,_,_=>none)
 | .buildSlice t len ps=>(match vI T ρ t len ps.toList with
  | some (e,k,ds)=>(match adj quiet dst kW with
   | some kW=>some (⟨.d (.sl len (Eb k len ds)),[],[],[],.tt⟩,kW)
   | none=>(match quiet,dst with
    | false,some d=>some (⟨.own d len,[],[],[(d,.row e k len (Eb k len ds))],.tt⟩,kW)
    | _,_=>none))
  | none=>none)
 | .store t ad x=>(match quiet,dst,ρ ad,ρ x with
  | false,none,some av,some v=>(match QX T lb t av v with | some r=>some (r,kW) | none=>none)
  | _,_,_,_=>none)
 | .call { callee:=.builtin .append,args:=xs,argTypes:=ts }=>(match quiet,dst,xs.toList,ts.toList with
  | false,some d,[s,x],[t,t']=>(match Nat.beq t t',ρ s,ρ x with
   | true,some dv,some sv=>(match Lh T lb d t dv sv with | some r=>some (r,kW) | none=>none)
   | _,_,_=>none)
  | _,_,_,_=>none)
 | .call { callee:=.value cf,args:=xs,.. }=>(match ρ cf,ud ρ xs.toList with
  | some c,some l=>V0 P lb quiet c l kW
  | _,_=>none)
 | .makeSlice t l c=>(match quiet,dst,look T t,ρ l,ρ c with
  | false,some d,some { kind:=.slice e,.. },some (.d (.v (.int _ n))),some (.d (.v (.int _ m)))=>(match look T e with
   | some i=>some (⟨.own d n.toNat,[],[],[(d,.row e i.size n.toNat fun _=>i.zero)],(Ob.ze n m).and (.pr (0≤n∧n.toNat≤maxLen∧n.toNat * i.bytes≤140737488355328))⟩,kW)
   | none=>none)
  | _,_,_,_,_=>none)
 | op=>(match QS T ρ op with
  | some (v,ob)=>some (⟨v,[],[],[],ob⟩,kW)
  | none=>(match evV T lb ρ op with | some (v,ro,ob)=>some (⟨v,ro,[],[],ob⟩,kW) | none=>none))
def aaq (T:List (Nat × TI)) (ρ:Operand→Option AV):Op→Option (AV × Ob)
 | .build t ps=>(match look T t,BB ρ ps.toList with
  | some { kind:=.array _ e,zero:=z,.. },some vs=>(match look T e with
   | some ie=>(match KT (fun q=>some (q * ie.size,ie.size)) (z.map .d) vs with | some cs=>some (SU cs,.tt) | none=>none)
   | none=>none)
  | _,_=>none)
 | .indexAddr t x i=>(match look T t,ρ x,ρ i with
  | some { kind:=.array n e,.. },some (.ptr κ off),some (.d (.v (.int _ q)))=>(match look T e with | some ie=>some (.ptr κ (off+q.toNat * ie.size),.pr (0≤q∧q < n)) | none=>none)
  | some { kind:=.array n e,.. },some (.ref cs),some (.d (.v (.int _ q)))=>(match look T e with | some ie=>some (.ref (cs.drop (q.toNat * ie.size)),.pr (0≤q∧q < n)) | none=>none)
  | _,_,_=>none)
 | _=>none
def Tn (P:Program) (T:List (Nat × TI)) (lb:List (Nat × bP)) (ρ:Operand→Option AV) (dst:Option Nat) (quiet:Bool) (kW:List CX) (op:Op):Option (R × List CX) :=
 match Tk P T lb ρ dst quiet op with
 | some r=>some (r,kW)
 | none=>(match Ld T lb ρ dst quiet op with
 | some r=>some (r,kW)
 | none=>(match aaq T ρ op with
 | some (v,ob)=>some (⟨v,[],[],[],ob⟩,kW)
 | none=>Tm P T lb ρ dst quiet kW op))
def aha:Op→Bool
 | .buildSlice .. | .slice .. | .store .. | .makeSlice .. | .convert ..=>true
 | .call { callee:=.builtin .append,.. }=>true
 | _=>false
def Tp (c:tF) (r:R):Option R :=
 match r.gI with
 | [(κ,.row e k n f)]=>(match r.v with
  | .own κ' m=>bif Nat.beq κ' κ then some ⟨.own κ' c.n',r.ro,r.mem,[(κ,.row e k c.n' c.f')],r.ob.and ((Ob.ne m c.n).and ((Ob.ne n c.n).and (.fe f c.f)))⟩ else none
  | .any=>some ⟨.any,r.ro,r.mem,[(κ,.row e k c.n' c.f')],r.ob.and ((Ob.ne n c.n).and (.fe f c.f))⟩
  | _=>none)
 | []=>(match r.v with
  | .d (.sl n f)=>some ⟨.d (.sl c.n' c.f'),r.ro,r.mem,[],r.ob.and ((Ob.ne n c.n).and (.fe f c.f))⟩
  | _=>none)
 | _=>none
def Tq (c:DU) (r:R):Option R :=
 match r.gI with
 | [(κ,.mp n f)]=>(match r.v with
  | .any=>some ⟨.any,r.ro,r.mem,[(κ,.mp c.n' c.f')],r.ob.and ((Ob.ne n c.n).and (.me f c.f))⟩
  | .vp q=>some ⟨.vp q,r.ro,r.mem,[(κ,.mp c.n' c.f')],r.ob.and ((Ob.ne n c.n).and (.me f c.f))⟩
  | _=>none)
 | _=>none
def adk (c:PN) (r:R):R:=⟨c.y,r.ro,r.mem,r.gI,r.ob.and (.ve r.v c.x)⟩
def aar (P:Program) (T:List (Nat × TI)) (lb:List (Nat × bP)) (ρ:Operand→Option AV) (dst:Option Nat) (quiet:Bool) (kW:List CX) (op:Op):Option (R × List CX) :=
 match Tn P T lb ρ dst quiet kW op with
 | some (r,N1)=>(match aha op,N1 with
  | true,.eG c :: V1=>(match Tp c r with | some r'=>some (r',V1) | none=>some (r,N1))
  | _,.aZ c :: V1=>(match Tq c r with | some r'=>some (r',V1) | none=>some (r,N1))
  | _,.cast d c :: V1=>(match dst with | some t=>bif Nat.beq t d then some (adk c r,V1) else some (r,N1) | none=>some (r,N1))
  | _,_=>some (r,N1))
 | none=>none
section
variable {C : Cx} {A : M} {a : Act} {w : World} {S : Nat → Prop} {μ : Mu} {ν : Nat → Bool}
theorem GS {lb:List (Nat × bP)}:∀ {ks:List Nat} {l:List (Nat × bP)},looks lb ks=some l→l.map (·.1)=ks
 | [],l,h=>by simp only [looks,Option.some.injEq] at h; subst h; rfl
 | k :: r,l,h=>by
  simp only [looks] at h
  cases h1:look lb k with
  | none=>rw [h1] at h; cases h
  | some b =>
   cases h2:looks lb r with
   | none=>rw [h1,h2] at h; cases h
   | some l' =>
    rw [h1,h2] at h
    simp only [Option.some.injEq] at h
    subst h
    simp [GS h2]
theorem adV {T:List (Nat × TI)} (hT:pj C.P T) (hs:dG C A a w S μ ν) {lb:List (Nat × bP)} {o:Oper} {ρ:Operand→Option AV} (hρ:∀ x y,ρ x=some y→Rel w S μ ν y (a.eval x)) (hd:∀ t,o.dst=some t→t < C.nt)
  {v:AV} {ro:List (Nat × bP)} {ob:Ob} (h:evV T lb ρ o.op=some (v,ro,ob)) (oq:∀ p,p∈ro→A.lb p.1=some p.2) (cD:ob.den) (need:List (Nat × AV)) (gs:List (Nat × Bool)) :
  o.wp C.P a w (fun a' w'=>∃ S' μ',dG C ((Tr.mk need o.dst v ro [] [] gs).apply A) a' w' S' μ' ν) (fun _ _ _=>False):=by
 obtain ⟨x,h1,h2⟩:=YJ hT hs hρ h oq cD
 exact nC hs hd h1 h2 rfl rfl rfl
theorem QY {o:Oper} {t:TypeId} {ds:List D} {τ:Tr} (hs:dG C A a w S μ ν) (hd:∀ t,o.dst=some t→t < C.nt) {vs:Array Value}
  (iH:(execOp a.eval o).run C.P w=.ok (.value (.pointer (some ⟨w.heap.size,0,none⟩))) (w.alloc (.cells vs t))) (hr:eo w S μ ν (ds.map .d) vs.toList)
  (h0:τ.v=.ref ds) (h1:τ.dst=o.dst) (h2:τ.mem=[]) (h3:τ.gI=[]) :
  o.wp C.P a w (fun a' w'=>∃ S' μ',dG C (τ.apply A) a' w' S' μ' ν) (fun _ _ _=>False):=by
 unfold Oper.wp
 rw [iH]
 let S':Nat→Prop:=fun q=>S q∨q=w.heap.size
 have h4:=hs.world (S':=S') (w':=w.alloc (.cells vs t)) (fun _ x=>.inl x) (fun q hq=>hq.elim .inl (fun e=>.inr ⟨by omega,by rw [e]; simp⟩)) (qC w _ _)
 have hl:=hr.1
 simp only [List.length_map,Array.length_toList] at hl
 have hrd:∀ ν,Rel (w.alloc (.cells vs t)) S' μ ν (.ref ds) (.pointer (some ⟨w.heap.size,0,none⟩)):=fun ν'=>by
  refine .ref (fun j=>vs.toList.getD j undef) (fun j hj=>⟨.inr rfl,?_⟩) (fun j hj=>?_)
  ·rw [iJ _ _ _ vs t (0,0) (heap_alloc_new w _)]
   have gH:j < vs.size:=by omega
   simp [List.getD,gH]
  ·have:=hr.2 j (by simpa using hj)
   rw [ln _ j hj] at this
   exact (jW.1 this).mono (fun _ x=>.inl x) (fun q hq=>heap_alloc_old w _ (hs.bound q hq))
 have h5:=h4.put (dst:=o.dst) (x:=.ref ds) (v:=.pointer (some ⟨w.heap.size,0,none⟩)) hd (hrd ν)
 refine ⟨S',μ,?_⟩
 have e:τ.apply A=A.yE o.dst (.ref ds):=by
  unfold Tr.apply M.yE M.put
  rw [h0,h1,h2,h3]
  cases ho:o.dst with
  | none=>simp [look]
  | some d =>
   simp only [look,List.map_nil,List.not_mem_nil,if_false,Option.some.injEq]
   congr 1
   funext t
   by_cases c:d=t
   ·simp [c]
   ·have:¬ t=d:=fun e=>c e.symm
    simp [c,this]
 rw [e]
 exact h5
theorem Ts {T:List (Nat × TI)} (hT:pj C.P T) (hs:dG C A a w S μ ν) {lb:List (Nat × bP)} {o:Oper} {ρ:Operand→Option AV} (hρ:∀ x y,ρ x=some y→Rel w S μ ν y (a.eval x)) (hd:∀ t,o.dst=some t→t < C.nt) {quiet:Bool} {kW uU:List CX} {r:R}
  (h:Tm C.P T lb ρ o.dst quiet kW o.op=some (r,uU)) (oq:∀ p,p∈r.ro→A.lb p.1=some p.2) (lr:∀ p,p∈r.mem→A.lb p.1=some p.2) (cD:r.ob.den) (yA:∀ κ,κ∈(r.gI.map (·.1)).filter (fun k=>!(r.mem.map (·.1)).contains k)→lh A κ) (need:List (Nat × AV)) (gs:List (Nat × Bool)) :
  o.wp C.P a w (fun a' w'=>∃ S' μ',dG C ((Tr.mk need o.dst r.v r.ro r.mem r.gI gs).apply A) a' w' S' μ' ν) (fun _ _ _=>False):=by
 unfold Tm at h
 split at h
 all_goals rename_i ho
 ·rename_i t0
  split at h
  ·rename_i d i eT hi
   simp only [Option.some.injEq,Prod.mk.injEq] at h
   obtain ⟨rfl,-⟩:=h
   obtain ⟨ti,z,F⟩:=aG (hT _ _ hi)
   obtain ⟨q1,q2⟩:=lj (w:=w) (S:=S) F.zok
   have hz:eo w S μ ν (i.zero.map .d) z.cells.toList:=by
    refine ⟨by simpa using q1,fun j hj=>?_⟩
    simp only [List.length_map] at hj
    rw [ln _ j hj]
    exact .d (q2 j hj)
   have hng:∀ l:List D,wU.pE (l.map AV.d)=true:=fun l=>by induction l with | nil=>rfl | cons x r ih=>simpa [wU.pE,wU] using ih
   have XG:∀ l:List D,AV.so (l.map AV.d)=[]:=fun l=>by induction l with | nil=>rfl | cons x r ih=>simpa [AV.so,AV.keys] using ih
   rw [eT]
   refine Ta (t:=t0) hs eT (hd d eT) (vs:=z.cells) ?_ hz (hng _) (yA d (by simp)) (by rw [XG]; simp)
   simp only [execOp,ho,Instr.alloc,zeroValue,typeInfo,Sem.run_bind,run_program,Result.andThen_ok,F.info,Sem.run_pure,F.zero,newVar,newRow,run_newObj]
   rfl
  ·cases h
 ·rename_i t0 x0
  split at h
  ·rename_i d v eT hx
   split at h
   ·rename_i cs hc
    split at h
    ·rename_i uU ds _ hp
     simp only [Option.some.injEq,Prod.mk.injEq] at h
     obtain ⟨rfl,-⟩:=h
     have ecs:=vG hp
     subst ecs
     refine QY (t:=t0) (ds:=ds) hs hd ?_ (qB hc (hρ _ _ hx)) rfl rfl rfl rfl
     simp only [execOp,ho,Instr.box,newVar,newRow,Sem.run_bind,run_newObj,Result.andThen_ok,Sem.run_pure]
     rfl
    cases hb:(wU.pE cs&&!(AV.so cs).contains d) with
    | false=>rw [hb] at h; cases h
    | true =>
     rw [hb] at h
     simp only [cond_true,Option.some.injEq,Prod.mk.injEq] at h
     obtain ⟨rfl,-⟩:=h
     simp only [Bool.and_eq_true,Bool.not_eq_true',List.contains_eq_mem,decide_eq_false_iff_not] at hb
     rw [eT]
     refine Ta (t:=t0) hs eT (hd d eT) ?_ (qB hc (hρ _ _ hx)) hb.1 (yA d (by simp)) hb.2
     simp only [execOp,ho,Instr.box,newVar,newRow,Sem.run_bind,run_newObj,Result.andThen_ok,Sem.run_pure]
     rfl
   ·cases h
  ·cases h
 ·split at h
  ·rename_i e k ds hbc
   split at h
   ·simp only [Option.some.injEq,Prod.mk.injEq] at h
    obtain ⟨rfl,-⟩:=h
    exact K9 hT hs hd ho hρ hbc rfl rfl rfl rfl
   ·split at h
    ·rename_i d eT _
     simp only [Option.some.injEq,Prod.mk.injEq] at h
     obtain ⟨rfl,-⟩:=h
     rw [eT]
     exact Ja hT hs eT (hd d eT) ho hρ hbc (yA d (by simp))
    ·cases h
  ·cases h
 ·split at h
  ·rename_i av v eT ZU hv
   split at h
   ·rename_i r' lW
    simp only [Option.some.injEq,Prod.mk.injEq] at h
    obtain ⟨rfl,-⟩:=h
    rw [eT]
    unfold QX at lW
    split at lW
    ·rename_i i xs hi hc
     split at lW
     ·rename_i κ off
      split at lW
      ·rename_i cs hl
       cases hb:(Nat.beq xs.length i.size&&Nat.ble (off+i.size) cs.length&&wU.pE xs&&xs.all QO) with
       | false=>rw [hb] at lW; cases lW
       | true =>
        rw [hb] at lW
        simp only [Bool.and_eq_true] at hb
        simp only [cond_true,Option.some.injEq] at lW
        subst lW
        exact KX hs (hT _ _ hi) ho eT (hρ _ _ ZU) (hρ _ _ hv) (lr (κ,.box cs) (by simp)) hc (Nat.eq_of_beq_eq_true hb.1.1.1) (Nat.le_of_ble_eq_true hb.1.1.2) hb.1.2 hb.2 _
      ·cases lW
     ·rename_i κ k p off
      split at lW
      ·rename_i e k' n f ds hl hp
       cases hb:(Nat.beq k k'&&Nat.beq ds.length i.size&&Nat.ble (off+i.size) k&&ds.all A8) with
       | false=>rw [hb] at lW; cases lW
       | true =>
        rw [hb] at lW
        simp only [Bool.and_eq_true] at hb
        simp only [cond_true,Option.some.injEq] at lW
        subst lW
        exact K0 hs (hT _ _ hi) ho eT (hρ _ _ ZU) (hρ _ _ hv) (lr (κ,.row e k n f) (by simp)) hc hp (Nat.eq_of_beq_eq_true hb.1.1.2) (Nat.le_of_ble_eq_true hb.1.2) cD hb.2 _
      ·cases lW
     ·cases lW
    ·cases lW
   ·cases h
  ·cases h
 ·rename_i xs ts
  split at h
  ·rename_i d s x t t' eT hxs hts
   split at h
   ·rename_i dv sv htt hdv hsv
    split at h
    ·rename_i r' Bp
     simp only [Option.some.injEq,Prod.mk.injEq] at h
     obtain ⟨rfl,-⟩:=h
     rw [eT]
     have e1:=Nat.eq_of_beq_eq_true htt
     subst e1
     have Xs:o.op=.call { callee:=.builtin .append,args:=#[s,x],argTypes:=#[t,t] }:=by
      rw [ho]
      congr 2
      ·cases xs; simpa using hxs
      ·cases ts; simpa using hts
     unfold Lh at Bp
     split at Bp
     ·rename_i e _ _ _ _ hl
      split at Bp
      ·rename_i i hi
       split at Bp
       ·rename_i m g PK E0 mW
        have src:E0.den→(∀ p,p∈PK→A.lb p.1=some p.2)→∃ ys,Tb w S i.size m g (a.eval x) ys:=by
         intro Li ahb
         have hr:=hρ _ _ hsv
         unfold aao at mW
         split at mW
         ·simp only [Option.some.injEq,Prod.mk.injEq] at mW
          obtain ⟨rfl,rfl,rfl,rfl⟩:=mW
          exact Tc (jW.1 hr) Li.1 Li.2
         ·simp only [Option.some.injEq,Prod.mk.injEq] at mW
          obtain ⟨rfl,rfl,rfl,rfl⟩:=mW
          have:=dc rfl hr
          exact ⟨[],⟨⟨by simp,fun i hi=>absurd hi (by omega)⟩,fun u hu=>(by cases hu),.inl ⟨this,rfl⟩⟩⟩
         ·simp only [Option.some.injEq,Prod.mk.injEq] at mW
          obtain ⟨rfl,rfl,rfl,rfl⟩:=mW
          generalize a.eval x=xv at hr
          cases hr with
          | Bo hd=>exact Tc hd Li.1 Li.2
         ·rename_i κ m0
          split at mW
          ·rename_i e2 k2 m2 g2 xM
           cases hb:Nat.beq i.size k2 with
           | false=>rw [hb] at mW; cases mW
           | true =>
            rw [hb] at mW
            have e3:=Nat.eq_of_beq_eq_true hb
            simp only [cond_true,Option.some.injEq,Prod.mk.injEq] at mW
            obtain ⟨rfl,rfl,rfl,rfl⟩:=mW
            have VF:=ahb (κ,.row e2 k2 m2 g2) (by simp)
            obtain ⟨o5,o6⟩:=Ob.da Li
            rw [← e3,← (show _=_ from o5)] at VF
            exact aca hs VF hr o6
          ·cases mW
         ·cases mW
        split at Bp
        ·simp only [Option.some.injEq] at Bp
         subst Bp
         obtain ⟨o1,o2,o3⟩:=Ob.da cD
         obtain ⟨ys,hys⟩:=src o1 oq
         exact Iu hs eT (hd d eT) (hT _ _ hl) rfl (hT _ _ hi) Xs (hρ _ _ hdv) (.nil (fun _=>[])) rfl hys o2 o3 (yA d (by simp))
        ·rename_i κ n
         split at Bp
         ·rename_i e' k n' f xM
          cases hb:(Nat.beq e e'&&Nat.beq k i.size&&!Nat.beq d κ) with
          | false=>rw [hb] at Bp; cases Bp
          | true =>
           rw [hb] at Bp
           simp only [cond_true,Option.some.injEq] at Bp
           subst Bp
           simp only [Bool.and_eq_true] at hb
           have e4:=Nat.eq_of_beq_eq_true hb.1.1
           have e5:=Nat.eq_of_beq_eq_true hb.1.2
           obtain ⟨o1,o7⟩:=Ob.da cD
           obtain ⟨o2,o3,o4⟩:=Ob.da o7
           have o2:n=n':=o2
           subst e4; subst e5; subst o2
           obtain ⟨ys,hys⟩:=src o1 oq
           have hκ:=lr (κ,.row e i.size n f) (by simp)
           have vD:d ∉ [κ]:=fun hc=>by
            simp only [List.mem_singleton] at hc
            subst hc
            have:=hb.2
            rw [Nat.beq_refl] at this
            cases this
           exact Iu hs eT (hd d eT) (hT _ _ hl) rfl (hT _ _ hi) Xs (hρ _ _ hdv) (.own hκ) rfl hys o3 o4 (yA d (by simpa using vD))
         ·cases Bp
        ·cases Bp
       ·cases Bp
      ·cases Bp
     ·cases Bp
    ·cases h
   ·cases h
  ·cases h
 ·rename_i cf xs _
  split at h
  ·rename_i c l hc hl
   have lq:=nE hρ xs.toList l hl
   unfold V0 at h
   split at h
   ·rename_i res YU
    split at h
    ·rename_i f cY
     split at h
     ·rename_i Iw PK E0 hb
      cases hfl:gJ res with
      | false=>rw [hfl] at h; cases h
      | true =>
       rw [hfl] at h
       simp only [cond_true,Option.some.injEq,Prod.mk.injEq] at h
       obtain ⟨rfl,-⟩:=h
       exact K6 hs hd ho (hρ _ _ hc) lq hb oq (Ob.da cD).1 (Ob.da cD).2 hfl rfl rfl rfl rfl
     ·cases h
    ·cases h
   ·rename_i hand res back YU
    split at h
    ·rename_i f cY
     split at h
     ·rename_i c6 xM
      cases hb:(wU.pE (l++cY)&&Kv res back&&wU res&&(!quiet||(hand.isEmpty&&back.isEmpty))&&back.all (fun p=>!hand.contains p.1)) with
      | false=>rw [hb] at h; cases h
      | true =>
       rw [hb] at h
       simp only [cond_true,Option.some.injEq,Prod.mk.injEq] at h
       obtain ⟨rfl,-⟩:=h
       simp only [Bool.and_eq_true,Kv,List.all_eq_true,List.contains_eq_mem,decide_eq_true_eq,Bool.not_eq_true',decide_eq_false_iff_not] at hb
       obtain ⟨⟨⟨⟨h1,h2,h3⟩,h4⟩,h5⟩,h6⟩:=hb
       refine YO hs hd ho (hρ _ _ hc) lq h1 cD lr (fun k hk=>yA k ?_) h2 h3
       have aas:=GS xM
       simp only [List.mem_filter,Bool.not_eq_true',List.contains_eq_mem,decide_eq_false_iff_not]
       refine ⟨hk,?_⟩
       rw [aas]
       obtain ⟨p,hp,rfl⟩:=List.mem_map.1 hk
       exact h6 p hp
     ·cases h
    ·cases h
   ·rename_i κ b' YU
    split at h
    ·rename_i f cY
     split at h
     ·rename_i b xM
      cases hb:(wU.pE (l++cY)&&!quiet) with
      | false=>rw [hb] at h; cases h
      | true =>
       rw [hb] at h
       simp only [cond_true,Option.some.injEq,Prod.mk.injEq] at h
       obtain ⟨rfl,-⟩:=h
       simp only [Bool.and_eq_true] at hb
       exact K8 hs hd ho (hρ _ _ hc) lq hb.1 cD (lr (κ,b) (by simp))
     ·cases h
    ·cases h
   ·rename_i hand jX res back YU
    split at h
    ·rename_i f cY
     split at h
     ·rename_i c6 xM
      cases hb:(wU.pE (l++cY)&&acd (l++cY) hand c6 jX res back&&wU res&&!quiet) with
      | false=>rw [hb] at h; cases h
      | true =>
       rw [hb] at h
       simp only [cond_true,Option.some.injEq,Prod.mk.injEq] at h
       obtain ⟨rfl,-⟩:=h
       simp only [Bool.and_eq_true,acd,List.all_eq_true,List.contains_eq_mem,decide_eq_true_eq,Bool.not_eq_true',decide_eq_false_iff_not,Bool.or_eq_true] at hb
       obtain ⟨⟨⟨h1,⟨⟨h2,h3⟩,h4⟩,h5⟩,h6⟩,h7⟩:=hb
       have aas:=GS xM
       have box:∀ (lb:List (Nat × bP)) κ,Kw lb κ=true→∃ cs,look lb κ=some (.box cs):=fun lb κ h=>by
        unfold Kw at h
        split at h
        ·exact ⟨_,by assumption⟩
        ·cases h
       have ptr:∀ κ x,aap κ x=true→x=.ptr κ 0:=fun κ x h=>by
        unfold aap at h
        split at h
        ·rw [Nat.eq_of_beq_eq_true h]
        ·cases h
       refine QR hs hd ho (hρ _ _ hc) lq h1 cD (fun p hp=>?_) lr (fun k hk hn=>yA k ?_) h4 h5
       ·obtain ⟨⟨⟨a1,a2⟩,a3⟩,a4⟩:=h2 p hp
        exact ⟨Nat.le_of_ble_eq_true a1,ptr _ _ a2,box _ _ a3,box _ _ a4⟩
       ·simp only [List.mem_filter,Bool.not_eq_true',List.contains_eq_mem,decide_eq_false_iff_not]
        refine ⟨hk,?_⟩
        rw [aas]
        obtain ⟨p,hp,rfl⟩:=List.mem_map.1 hk
        exact (h3 p hp).resolve_left hn
     ·cases h
    ·cases h
   ·cases h
  ·cases h
 ·split at h
  ·rename_i d e _ _ _ _ kl n kc m eT ht hl hc
   split at h
   ·rename_i i hi
    simp only [Option.some.injEq,Prod.mk.injEq] at h
    obtain ⟨rfl,-⟩:=h
    have Li:((Ob.ze n m).and (.pr (0≤n∧n.toNat≤maxLen∧n.toNat * i.bytes≤140737488355328))).den:=cD
    obtain ⟨o1,o2,o3,o4⟩:=Ob.da Li
    have o1:n=m:=o1
    subst o1
    rw [eT]
    exact YQ hT hs eT (hd d eT) ho ht rfl hi (fk (hρ _ _ hl)) (fk (hρ _ _ hc)) o2 o3 o4 (yA d (by simp))
   ·cases h
  ·cases h
 ·split at h
  ·rename_i v E0 hv
   simp only [Option.some.injEq,Prod.mk.injEq] at h
   obtain ⟨rfl,-⟩:=h
   exact VZ hT hs hρ hd hv cD need _ gs
  ·split at h
   ·rename_i v PK E0 hv
    simp only [Option.some.injEq,Prod.mk.injEq] at h
    obtain ⟨rfl,-⟩:=h
    exact adV hT hs hρ hd hv oq cD need gs
   ·cases h
theorem Tt {T:List (Nat × TI)} (hT:pj C.P T) {o:Oper} {ρ:Operand→Option AV} (hρ:∀ x y,ρ x=some y→Rel w S μ ν y (a.eval x)) {v:AV} {ob:Ob} (h:aaq T ρ o.op=some (v,ob)) (cD:ob.den) :
  ∃ x,(execOp a.eval o).run C.P w=.ok (.value x) w∧Rel w S μ ν v x:=by
 unfold aaq at h
 split at h
 ·rename_i t ps ho
  split at h
  ·rename_i n e _ _ z _ vs hl hv
   split at h
   ·rename_i ie he
    split at h
    ·rename_i cs E8
     simp only [Option.some.injEq,Prod.mk.injEq] at h
     obtain ⟨rfl,-⟩:=h
     obtain ⟨ti,zz,F⟩:=aG (hT t _ hl)
     have hu:=zO F.kind
     obtain ⟨te,ze,G⟩:=aG (hT e _ he)
     have kM:(sizeOf e).run C.P w=.ok ie.size w:=by simp [sizeOf,typeInfo,G.info,G.size]
     obtain ⟨q1,q2⟩:=lj (w:=w) (S:=S) F.zok
     have hz:eo w S μ ν (z.map .d) zz.cells.toList:=by
      refine ⟨by simpa using q1,fun i hi=>?_⟩
      simp only [List.length_map] at hi
      rw [ln z i hi]
      exact .d (q2 i hi)
     obtain ⟨v1,v2⟩:=zS hρ ps.toList vs hv
     obtain ⟨KU,hf,hr⟩:=CS (fun q=>some (q * ie.size,ie.size)) vs (ps.toList.map fun p=>(p.1,a.eval p.2)) (z.map .d) cs zz.cells hz v1 v2 E8
     refine ⟨.agg KU,?_,CR (by have:=hr.1; simpa using this) (fun i hi=>by rw [cZ]; exact hr.2 i hi)⟩
     have hps:(ps.map fun (i,x)=>(i,a.eval x)).toList=ps.toList.map fun p=>(p.1,a.eval p.2):=by simp
     simp only [execOp,ho,Instr.build,Sem.run_bind,zeroValue,typeInfo,run_program,Result.andThen_ok,F.info,Sem.run_pure,F.zero,run_underlying hu,kM,hps]
     rw [hf]
     simp
    ·cases h
   ·cases h
  ·cases h
 ·rename_i t x i ho
  split at h
  ·rename_i n e _ _ _ _ κ off kk q hl hx hi
   split at h
   ·rename_i ie he
    simp only [Option.some.injEq,Prod.mk.injEq] at h
    obtain ⟨rfl,rfl⟩:=h
    have cD:0≤q∧q < n:=cD
    obtain ⟨ti,zz,F⟩:=aG (hT t _ hl)
    have hu:=zO F.kind
    obtain ⟨te,ze,G⟩:=aG (hT e _ he)
    have kM:(sizeOf e).run C.P w=.ok ie.size w:=by simp [sizeOf,typeInfo,G.info,G.size]
    have hxv:=hρ _ _ hx
    have ZW:=fk (hρ _ _ hi)
    generalize ZU:a.eval x=av at hxv
    cases hxv with
    | @ptr _ _ g cap hμ =>
     refine ⟨.pointer (some ⟨g,off+q.toNat * ie.size,none⟩),?_,.ptr hμ⟩
     simp [execOp,ho,ZU,ZW,Instr.indexAt,asIntOf,run_underlying hu,Instr.sureAddr,cD,kM,jr]
   ·cases h
  ·rename_i n e _ _ _ _ cs kk q hl hx hi
   split at h
   ·rename_i ie he
    simp only [Option.some.injEq,Prod.mk.injEq] at h
    obtain ⟨rfl,rfl⟩:=h
    have cD:0≤q∧q < n:=cD
    obtain ⟨ti,zz,F⟩:=aG (hT t _ hl)
    have hu:=zO F.kind
    obtain ⟨te,ze,G⟩:=aG (hT e _ he)
    have kM:(sizeOf e).run C.P w=.ok ie.size w:=by simp [sizeOf,typeInfo,G.info,G.size]
    have hxv:=hρ _ _ hx
    have ZW:=fk (hρ _ _ hi)
    generalize ZU:a.eval x=av at hxv
    cases hxv with
    | @ref _ b o' ef cC hr =>
     refine ⟨.pointer (some ⟨b,o'+q.toNat * ie.size,none⟩),?_,.ref (fun j=>ef (q.toNat * ie.size+j)) (fun j hj=>?_) (fun j hj=>?_)⟩
     ·simp [execOp,ho,ZU,ZW,Instr.indexAt,asIntOf,run_underlying hu,Instr.sureAddr,cD,kM,jr]
     ·simp only [List.length_drop] at hj
      have:=cC (q.toNat * ie.size+j) (by omega)
      rw [← Nat.add_assoc] at this
      exact this
     ·simp only [List.length_drop] at hj
      have:=hr (q.toNat * ie.size+j) (by omega)
      simpa [List.getD] using this
   ·cases h
  ·cases h
 ·cases h
theorem lX {T:List (Nat × TI)} (hT:pj C.P T) (hs:dG C A a w S μ ν) {lb:List (Nat × bP)} {o:Oper} {ρ:Operand→Option AV} (hρ:∀ x y,ρ x=some y→Rel w S μ ν y (a.eval x)) (hd:∀ t,o.dst=some t→t < C.nt) {quiet:Bool} {kW uU:List CX} {r:R}
  (h:Tn C.P T lb ρ o.dst quiet kW o.op=some (r,uU)) (oq:∀ p,p∈r.ro→A.lb p.1=some p.2) (lr:∀ p,p∈r.mem→A.lb p.1=some p.2) (cD:r.ob.den) (yA:∀ κ,κ∈(r.gI.map (·.1)).filter (fun k=>!(r.mem.map (·.1)).contains k)→lh A κ) (need:List (Nat × AV)) (gs:List (Nat × Bool)) :
  o.wp C.P a w (fun a' w'=>∃ S' μ',dG C ((Tr.mk need o.dst r.v r.ro r.mem r.gI gs).apply A) a' w' S' μ' ν) (fun _ _ _=>False):=by
 unfold Tn at h
 split at h
 ·rename_i r' hm
  simp only [Option.some.injEq,Prod.mk.injEq] at h
  obtain ⟨rfl,-⟩:=h
  exact Tl hT hs hρ hd hm oq lr cD need gs
 split at h
 ·rename_i r' hm
  simp only [Option.some.injEq,Prod.mk.injEq] at h
  obtain ⟨rfl,-⟩:=h
  exact QV hT hs hρ hd hm oq lr cD yA need gs
 split at h
 ·rename_i v ob hm
  simp only [Option.some.injEq,Prod.mk.injEq] at h
  obtain ⟨rfl,-⟩:=h
  obtain ⟨x,h1,h2⟩:=Tt hT hρ hm cD
  exact nC hs hd h1 h2 rfl rfl rfl
 ·exact Ts hT hs hρ hd h oq lr cD yA need gs
theorem aat {α:Type} (k:Nat) (x:α) (r:List (Nat × α)) (t:Nat):look ((k,x) :: r) t=if k=t then some x else look r t:=by
 simp only [look]
 cases hb:Nat.beq k t with
 | true=>simp [Nat.eq_of_beq_eq_true hb]
 | false =>
  have:¬ k=t:=fun e=>by rw [e,Nat.beq_refl] at hb; cases hb
  simp [this]
theorem dG.weaken {B:M} (h:dG C A a w S μ ν) (VD:∀ t v,Rel w S μ ν (A.sl t) v→Rel w S μ ν (B.sl t) v) (VF:∀ κ b',B.lb κ=some b'→∃ b,A.lb κ=some b∧∀ y,jq w S μ b y→jq w S μ b' y):dG C B a w S μ ν:=by
 refine ⟨h.tmps,h.defers,fun t=>VD t _ (h.fa t),fun κ b hb=>?_,fun κ κ' b b' g c c' hb pk hm Bq=>?_,fun κ b g c hb hm=>?_,h.fU,h.fresh,h.bound,h.kept⟩
 ·obtain ⟨d,h1,h2⟩:=VF κ b hb
  exact h2 _ (h.mem κ d h1)
 ·obtain ⟨d,h1,_⟩:=VF κ b hb
  obtain ⟨d',h1',_⟩:=VF κ' b' pk
  exact h.inj κ κ' d d' g c c' h1 h1' hm Bq
 ·obtain ⟨d,h1,_⟩:=VF κ b hb
  exact h.own κ d g c h1 hm
theorem aau {e k n n':Nat} {f f':Nat→List D} (hn:n=n') (hf:∀ i,i < n→yD (f i) (f' i)) (y:Option (Option (Nat × Nat))) (h:jq w S μ (.row e k n f) y):jq w S μ (.row e k n' f') y:=by
 subst hn
 cases y with
 | none=>exact h
 | some y =>
  cases y with
  | none=>exact h
  | some gc =>
   obtain ⟨g,c⟩:=gc
   obtain ⟨cur,q1,q2,q3,q4,q5,q6⟩:=h.at
   refine eH.ok ⟨cur,q1,q2,q3,q4,q5,fun i hi=>?_⟩
   obtain ⟨z1,z2⟩:=q6 i hi
   refine ⟨(hf i hi).1 ▸ z1,fun j hj=>?_⟩
   obtain ⟨x,x1,x2⟩:=z2 j hj
   exact ⟨x,x1,(hf i hi).2 j (by omega) _ _ _ x2⟩
theorem YV {c:tF} {r r':R} (h:Tp c r=some r') (cD:r'.ob.den):r.ob.den∧r'.ro=r.ro∧r'.mem=r.mem∧r'.gI.map (·.1)=r.gI.map (·.1) ∧
  ∀ {A:M} {dst:Option Nat} {need:List (Nat × AV)} {gs:List (Nat × Bool)} {a:Act} {w:World} {S:Nat→Prop} {μ:Mu} {ν:Nat→Bool},dG C ((Tr.mk need dst r.v r.ro r.mem r.gI gs).apply A) a w S μ ν→dG C ((Tr.mk need dst r'.v r'.ro r'.mem r'.gI gs).apply A) a w S μ ν:=by
 obtain ⟨cn,ce⟩:=c.eq
 obtain ⟨v,ro,mem,gI,ob⟩:=r
 unfold Tp at h
 split at h
 ·rename_i κ e k n f lr
  dsimp only at lr
  subst lr
  have blk:n=c.n→f=c.f→∀ {A:M} {dst:Option Nat} {need:List (Nat × AV)} {gs:List (Nat × Bool)} {a:Act} {w:World} {S:Nat→Prop} {μ:Mu} {ν:Nat→Bool} {x y:AV},(∀ v,Rel w S μ ν x v→Rel w S μ ν y v)→dG C ((Tr.mk need dst x ro mem [(κ,.row e k n f)] gs).apply A) a w S μ ν→dG C ((Tr.mk need dst y ro mem [(κ,.row e k c.n' c.f')] gs).apply A) a w S μ ν:=by
   intro hn hf A dst need gs a w S μ ν x y hxy hs
   refine hs.weaken (fun t v hv=>?_) (fun κ' b' pk=>?_)
   ·simp only [Tr.apply] at hv ⊢
    split
    ·rename_i hd
     simp only [hd,if_true] at hv
     exact hxy v hv
    ·rename_i hd
     simp only [hd,if_false] at hv
     exact hv
   ·simp only [Tr.apply,aat] at pk ⊢
    by_cases hk:κ=κ'
    ·subst hk
     simp only [if_true,Option.some.injEq] at pk ⊢
     subst pk
     exact ⟨_,rfl,fun y=>aau (hn.trans cn) (fun i hi=>by rw [hf]; exact ce i (by omega)) y⟩
    ·simp only [hk,if_false] at pk ⊢
     exact ⟨b',pk,fun _ h=>h⟩
  split at h
  ·rename_i κ' m hv
   dsimp only at hv
   subst hv
   cases hb:Nat.beq κ' κ with
   | false=>rw [hb] at h; cases h
   | true =>
    rw [hb] at h
    simp only [cond_true,Option.some.injEq] at h
    subst h
    obtain ⟨o1,o2⟩:=Ob.da cD
    obtain ⟨o3,o4⟩:=Ob.da o2
    obtain ⟨o5,o6⟩:=Ob.da o4
    have o3:m=c.n:=o3
    refine ⟨o1,rfl,rfl,rfl,fun hs=>blk o5 o6 (fun v hv=>?_) hs⟩
    rw [o3,cn] at hv
    exact hv
  ·rename_i hv
   dsimp only at hv
   subst hv
   simp only [Option.some.injEq] at h
   subst h
   obtain ⟨o1,o2⟩:=Ob.da cD
   obtain ⟨o5,o6⟩:=Ob.da o2
   exact ⟨o1,rfl,rfl,rfl,fun hs=>blk o5 o6 (fun v hv=>hv) hs⟩
  ·cases h
 ·rename_i lr
  dsimp only at lr
  subst lr
  split at h
  ·rename_i n f hv
   dsimp only at hv
   subst hv
   simp only [Option.some.injEq] at h
   subst h
   obtain ⟨o1,o2⟩:=Ob.da cD
   obtain ⟨o5,o6⟩:=Ob.da o2
   have o5:n=c.n:=o5
   have o6:f=c.f:=o6
   refine ⟨o1,rfl,rfl,rfl,fun hs=>?_⟩
   refine hs.weaken (fun t v hv=>?_) (fun κ' b' pk=>⟨b',pk,fun _ h=>h⟩)
   simp only [Tr.apply] at hv ⊢
   split
   ·rename_i hd
    simp only [hd,if_true] at hv
    exact .d (uc.slc (o5.trans cn) (fun i hi=>by rw [o6]; exact ce i (by omega)) _ _ _ (jW.1 hv))
   ·rename_i hd
    simp only [hd,if_false] at hv
    exact hv
  ·cases h
 ·cases h
theorem adl {n n':Nat} {f f':Nat→Value × D} (hn:n=n') (hf:∀ i,i < n→f i=f' i) (y:Option (Option (Nat × Nat))) (h:jq w S μ (.mp n f) y):jq w S μ (.mp n' f') y:=by
 subst hn
 cases y with
 | none=>exact h
 | some y =>
  cases y with
  | none=>exact h
  | some gc =>
   obtain ⟨g,c⟩:=gc
   obtain ⟨cur,q1,q2,q3,q4⟩:=h.at
   refine eH.ok ⟨cur,q1,q2,q3,fun i hi=>?_⟩
   rw [← hf i hi]
   exact q4 i hi
theorem YX {c:DU} {r r':R} (h:Tq c r=some r') (cD:r'.ob.den):r.ob.den∧r'.ro=r.ro∧r'.mem=r.mem∧r'.gI.map (·.1)=r.gI.map (·.1) ∧
  ∀ {A:M} {dst:Option Nat} {need:List (Nat × AV)} {gs:List (Nat × Bool)} {a:Act} {w:World} {S:Nat→Prop} {μ:Mu} {ν:Nat→Bool},dG C ((Tr.mk need dst r.v r.ro r.mem r.gI gs).apply A) a w S μ ν→dG C ((Tr.mk need dst r'.v r'.ro r'.mem r'.gI gs).apply A) a w S μ ν:=by
 obtain ⟨cn,ce⟩:=c.eq
 obtain ⟨v,ro,mem,gI,ob⟩:=r
 unfold Tq at h
 split at h
 ·rename_i κ n f lr
  dsimp only at lr
  subst lr
  split at h
  ·rename_i hv
   dsimp only at hv
   subst hv
   simp only [Option.some.injEq] at h
   subst h
   obtain ⟨o1,o2⟩:=Ob.da cD
   obtain ⟨o5,o6⟩:=Ob.da o2
   have o5:n=c.n:=o5
   have o6:f=c.f:=o6
   refine ⟨o1,rfl,rfl,rfl,fun hs=>?_⟩
   refine hs.weaken (fun t v hv=>hv) (fun κ' b' pk=>?_)
   simp only [Tr.apply,aat] at pk ⊢
   by_cases hk:κ=κ'
   ·subst hk
    simp only [if_true,Option.some.injEq] at pk ⊢
    subst pk
    exact ⟨_,rfl,fun y=>adl (o5.trans cn) (fun i hi=>by rw [o6]; exact ce i (by omega)) y⟩
   ·simp only [hk,if_false] at pk ⊢
    exact ⟨b',pk,fun _ h=>h⟩
  ·rename_i hv
   dsimp only at hv
   subst hv
   simp only [Option.some.injEq] at h
   subst h
   obtain ⟨o1,o2⟩:=Ob.da cD
   obtain ⟨o5,o6⟩:=Ob.da o2
   have o5:n=c.n:=o5
   have o6:f=c.f:=o6
   refine ⟨o1,rfl,rfl,rfl,fun hs=>?_⟩
   refine hs.weaken (fun t v hv=>hv) (fun κ' b' pk=>?_)
   simp only [Tr.apply,aat] at pk ⊢
   by_cases hk:κ=κ'
   ·subst hk
    simp only [if_true,Option.some.injEq] at pk ⊢
    subst pk
    exact ⟨_,rfl,fun y=>adl (o5.trans cn) (fun i hi=>by rw [o6]; exact ce i (by omega)) y⟩
   ·simp only [hk,if_false] at pk ⊢
    exact ⟨b',pk,fun _ h=>h⟩
  ·cases h
 ·cases h
theorem YY {c:PN} {r:R} (cD:(adk c r).ob.den):r.ob.den ∧
  ∀ {A:M} {dst:Option Nat} {need:List (Nat × AV)} {gs:List (Nat × Bool)} {a:Act} {w:World} {S:Nat→Prop} {μ:Mu} {ν:Nat→Bool},dG C ((Tr.mk need dst r.v r.ro r.mem r.gI gs).apply A) a w S μ ν→dG C ((Tr.mk need dst c.y r.ro r.mem r.gI gs).apply A) a w S μ ν:=by
 obtain ⟨o1,o2⟩:=Ob.da cD
 have o2:r.v=c.x:=o2
 refine ⟨o1,fun hs=>?_⟩
 refine hs.weaken (fun t v hv=>?_) (fun κ' b' pk=>⟨b',pk,fun _ h=>h⟩)
 simp only [Tr.apply] at hv ⊢
 split
 ·rename_i hd
  simp only [hd,if_true] at hv
  rw [o2] at hv
  exact c.le _ _ _ _ _ hv
 ·rename_i hd
  simp only [hd,if_false] at hv
  exact hv
theorem V2 {T:List (Nat × TI)} (hT:pj C.P T) (hs:dG C A a w S μ ν) {lb:List (Nat × bP)} {o:Oper} {ρ:Operand→Option AV} (hρ:∀ x y,ρ x=some y→Rel w S μ ν y (a.eval x)) (hd:∀ t,o.dst=some t→t < C.nt) {quiet:Bool} {kW uU:List CX} {r:R}
  (h:aar C.P T lb ρ o.dst quiet kW o.op=some (r,uU)) (oq:∀ p,p∈r.ro→A.lb p.1=some p.2) (lr:∀ p,p∈r.mem→A.lb p.1=some p.2) (cD:r.ob.den) (yA:∀ κ,κ∈(r.gI.map (·.1)).filter (fun k=>!(r.mem.map (·.1)).contains k)→lh A κ) (need:List (Nat × AV)) (gs:List (Nat × Bool)) :
  o.wp C.P a w (fun a' w'=>∃ S' μ',dG C ((Tr.mk need o.dst r.v r.ro r.mem r.gI gs).apply A) a' w' S' μ' ν) (fun _ _ _=>False):=by
 unfold aar at h
 split at h
 ·rename_i r0 N1 h0
  split at h
  ·rename_i c V1 _
   split at h
   ·rename_i r' hn
    simp only [Option.some.injEq,Prod.mk.injEq] at h
    obtain ⟨rfl,-⟩:=h
    obtain ⟨o1,e1,e2,e3,dy⟩:=YV (C:=C) hn cD
    rw [e3,e2] at yA
    rw [e1] at oq
    rw [e2] at lr
    exact Oper.wp_mono (fun a' w' hh=>let ⟨S',μ',hh⟩:=hh; ⟨S',μ',dy hh⟩) (lX hT hs hρ hd h0 oq lr o1 yA need gs)
   ·simp only [Option.some.injEq,Prod.mk.injEq] at h
    obtain ⟨rfl,-⟩:=h
    exact lX hT hs hρ hd h0 oq lr cD yA need gs
  ·split at h
   ·rename_i r' hn
    simp only [Option.some.injEq,Prod.mk.injEq] at h
    obtain ⟨rfl,-⟩:=h
    obtain ⟨o1,e1,e2,e3,dy⟩:=YX (C:=C) hn cD
    rw [e3,e2] at yA
    rw [e1] at oq
    rw [e2] at lr
    exact Oper.wp_mono (fun a' w' hh=>let ⟨S',μ',hh⟩:=hh; ⟨S',μ',dy hh⟩) (lX hT hs hρ hd h0 oq lr o1 yA need gs)
   ·simp only [Option.some.injEq,Prod.mk.injEq] at h
    obtain ⟨rfl,-⟩:=h
    exact lX hT hs hρ hd h0 oq lr cD yA need gs
  ·split at h
   ·generalize Nat.beq _ _=bb at h
    cases bb with
    | false =>
     simp only [cond_false,Option.some.injEq,Prod.mk.injEq] at h
     obtain ⟨rfl,-⟩:=h
     exact lX hT hs hρ hd h0 oq lr cD yA need gs
    | true =>
     simp only [cond_true,Option.some.injEq,Prod.mk.injEq] at h
     obtain ⟨rfl,-⟩:=h
     obtain ⟨o1,dy⟩:=YY (C:=C) cD
     exact Oper.wp_mono (fun a' w' hh=>let ⟨S',μ',hh⟩:=hh; ⟨S',μ',dy hh⟩) (lX hT hs hρ hd h0 oq lr o1 yA need gs)
   ·simp only [Option.some.injEq,Prod.mk.injEq] at h
    obtain ⟨rfl,-⟩:=h
    exact lX hT hs hρ hd h0 oq lr cD yA need gs
  ·simp only [Option.some.injEq,Prod.mk.injEq] at h
   obtain ⟨rfl,-⟩:=h
   exact lX hT hs hρ hd h0 oq lr cD yA need gs
 ·cases h
end
def ace (q p:List (Nat × Bool)):Bool:=q.all fun y=>p.any fun z=>Nat.beq y.1 z.1&&(y.2 == z.2)

def adW (p:List (Nat × Bool)):AV→Option AV
  | .g q a=>bif ace q p then some a else none
  | x=>some x

def Tu (need:List (Nat × AV)) (p:List (Nat × Bool)):Operand→Option AV
  | .tmp t=>(match look need t with | some x=>adW p x | none=>none)
  | .const v=>ofConst v
  | .func f=>some (.fn f [])
  | .global g=>(match look DS.gl g with | some cs=>some (.ref cs) | none=>none)

def aav:AV→Option (List (Nat × Bool) × Bool)
  | .d (.v (.bool e))=>some ([],e)
  | .g q (.d (.v (.bool e)))=>some (q,e)
  | _=>none

structure St where
  sl:List (Nat × AV)
  lb:List (Nat × bP)

def St.get (sl:List (Nat × AV)) (t:Nat):AV:=match look sl t with | some x=>x | none=>.any

def St.gK (st:St):M:={ sl:=St.get st.sl,lb:=look st.lb }

def slotsOf:List Operand→List Nat
  | []=>[]
  | .tmp t :: r=>t :: slotsOf r
  | _ :: r=>slotsOf r

def sG (sl:List (Nat × AV)):List Nat→List (Nat × AV)
  | []=>[]
  | t :: r=>(t,St.get sl t) :: sG sl r

/-- a bool on afr others aiH is aip -/
def YZ (gl:List (Nat × Bool)) (s:Nat) (e:Bool):List (Nat × Bool) × Ob :=
  match look gl s with
  | some e'=>(gl,.be e e')
  | none=>(gl++[(s,e)],.tt)

def QZ (gl:List (Nat × Bool)):List Nat→List (Nat × Bool)
  | []=>[]
  | s :: r=>(match look gl s with | some e=>(s,e) :: QZ gl r | none=>QZ gl r)

def BH (gl:List (Nat × Bool)):List (Nat × Bool)→Ob→Ob
  | [],ob=>ob
  | (s,w) :: r,ob=>(match look gl s with | some e=>(BH gl r ob).imp e w | none=>BH gl r ob)

def Fh (p:List (Nat × Bool)) (v:AV):AV:=match p with | []=>v | _ :: _=>.g p v

def CY (ops:Array Oper) (j:Nat):Option Nat:=match ops[j]? with | some o=>o.dst | none=>none

/-- I5 aiq on afr an operation air -/
def pathOf (nt:Nat) (ops:Array Oper) (sl:List (Nat × AV)) (gl:List (Nat × Bool)):Option (Nat × Bool)→Option (List (Nat × Bool) × List Nat × List (Nat × Bool) × Ob)
  | none=>some ([],[],gl,.tt)
  | some (j,want)=>(match CY ops j with
    | some s=>bif Nat.ble (s+1) nt then (match aav (St.get sl s) with
      | some (q,e)=>(match YZ gl s e with | (Tv,ob)=>some (q++[(s,want)],[s],Tv,ob))
      | none=>none) else none
    | none=>none)

def aaw (need:List (Nat × AV)) (p:List (Nat × Bool)) (c x y:Operand):Option (Nat × Bool × Bool × Bool) :=
  match c with
  | .tmp s=>(match Tu need p c,Tu need ((s,true) :: p) x,Tu need ((s,false) :: p) y with
    | some (.d (.v (.bool e))),some (.d (.v (.bool ex))),some (.d (.v (.bool ey)))=>some (s,e,ex,ey)
    | _,_,_=>none)
  | _=>none

def V3 (P:Program) (T:List (Nat × TI)) (nt:Nat) (ops:Array Oper) (st:St) (gl:List (Nat × Bool)) (kW:List CX) (o:Oper):Option (Tr × List (Nat × Bool) × List CX × Ob) :=
  match pathOf nt ops st.sl gl o.guard,(match o.dst with | some d=>Nat.ble (d+1) nt | none=>true) with
  | some (p,ss,gl1,Ds),true =>
    (match o.op with
    | .pick c x y=>(match aaw (sG st.sl (ss++slotsOf [c,x,y])) p c x y with
      | some (s,e,ex,ey)=>(match YZ gl1 s e with
        | (gl2,I8)=>some (⟨sG st.sl (ss++slotsOf [c,x,y]),o.dst,Fh p (.d (.v (.bool (bif e then ex else ey)))),[],[],[],QZ gl2 (s :: p.map (·.1))⟩,gl2,kW,Ds.and I8))
      | none=>none)
    | op=>(match aar P T st.lb (Tu (sG st.sl (ss++slotsOf op.operands.toList)) p) o.dst (!p.isEmpty) kW op with
      | some (r,uU)=>some (⟨sG st.sl (ss++slotsOf op.operands.toList),o.dst,Fh p r.v,r.ro,r.mem,r.gI,QZ gl1 (p.map (·.1))⟩,gl1,uU,Ds.and (BH gl1 p r.ob))
      | none=>none))
  | _,_=>none

def aY {α:Type} (ks:List Nat):List (Nat × α)→List (Nat × α)
  | []=>[]
  | (k,x) :: r=>bif ks.any (fun q=>Nat.beq q k) then aY ks r else (k,x) :: aY ks r

def St.apply (st:St) (τ:Tr):St :=
  { sl:=match τ.dst with | some d=>(d,τ.v) :: aY [d] st.sl | none=>st.sl
    lb:=match τ.mem,τ.gI with | [],[]=>st.lb | m,m'=>m'++aY (m.map (·.1)) st.lb }

def Tw (P:Program) (T:List (Nat × TI)) (nt:Nat) (ops:Array Oper):List Oper→St→List (Nat × Bool)→List CX→Option (List Tr × St × List (Nat × Bool) × List CX × Ob)
  | [],st,gl,kW=>some ([],st,gl,kW,.tt)
  | o :: r,st,gl,kW=>(match V3 P T nt ops st gl kW o with
    | some (τ,Tv,uU,ob)=>(match Tw P T nt ops r (st.apply τ) Tv uU with
      | some (l,st',ahc,afs,E0)=>some (τ :: l,st',ahc,afs,ob.and E0)
      | none=>none)
    | none=>none)

def Q0 (st:St) (κ:Nat):Bool:=st.sl.all (fun p=>!p.2.keys.any (fun k=>Nat.beq k κ))&&st.lb.all (fun p=>!Nat.beq p.1 κ&&!p.2.keys.any (fun k=>Nat.beq k κ))

def adm (keep:Option (List Nat)) (t:Nat):Bool:=match keep with | some l=>l.any (fun k=>Nat.beq k t) | none=>true

def aax (draw:Bool) (ops:Array Oper) (wS:List Tr):Bool:=match draw with | true=>SP ops wS | false=>Bu wS

def AU (keep:Option (List Nat)):List (Nat × AV)→List (Nat × AV)
  | []=>[]
  | (t,x) :: r=>bif wU x&&adm keep t then (t,x) :: AU keep r else AU keep r

def vr:List (Nat × AV)→Bool
  | []=>true
  | (t,_) :: r=>r.all (fun p=>!Nat.beq p.1 t)&&vr r

/-- a region: I5 state behind it,and YA agX hold -/
def ru (P:Program) (T:List (Nat × TI)) (nt:Nat) (ops:Array Oper) (draw:Bool) (keep:Option (List Nat)) (st:St) (kW:List CX):Option (St × Ob) :=
  match Tw P T nt ops ops.toList st [] kW with
  | some (wS,st',_,[],ob)=>bif aax draw ops wS&&wS.all (fun τ=>τ.created.all (Q0 st))&&vr st'.sl then some (⟨AU keep st'.sl,st'.lb⟩,ob) else none
  | _=>none

/-! ae3 -/

theorem ca {α:Type} (k:Nat) (x:α) (r:List (Nat × α)) (t:Nat):look ((k,x) :: r) t=if k=t then some x else look r t:=by
  simp only [look]
  cases hb:Nat.beq k t with
  | true=>simp [Nat.eq_of_beq_eq_true hb]
  | false =>
    have:¬ k=t:=fun e=>by rw [e,Nat.beq_refl] at hb; cases hb
    simp [this]

theorem xc {α:Type} (l r:List (Nat × α)) (t:Nat):look (l++r) t=match look l t with | some x=>some x | none=>look r t:=by
  induction l with
  | nil=>rfl
  | cons p l ih =>
    obtain ⟨k,x⟩:=p
    simp only [List.cons_append,ca]
    split
    · rfl
    · exact ih

theorem nH {α:Type} (ks:List Nat) (l:List (Nat × α)) (t:Nat):look (aY ks l) t=if t∈ks then none else look l t:=by
  induction l with
  | nil=>simp [aY,look]
  | cons p l ih =>
    obtain ⟨k,x⟩:=p
    simp only [aY]
    cases hb:ks.any (fun q=>Nat.beq q k) with
    | true =>
      simp only [cond_true]
      rw [ih,ca]
      have hk:k∈ks:=by
        obtain ⟨q,hq,he⟩:=List.any_eq_true.1 hb
        rw [← Nat.eq_of_beq_eq_true he]
        exact hq
      by_cases c:k=t
      · subst c; simp [hk]
      · simp [c]
    | false =>
      simp only [cond_false,ca]
      have hk:k ∉ ks:=fun hc=>by
        have:ks.any (fun q=>Nat.beq q k)=true:=List.any_eq_true.2 ⟨k,hc,Nat.beq_refl k⟩
        rw [this] at hb
        cases hb
      by_cases c:k=t
      · subst c; simp [hk]
      · simp only [c,if_false]
        exact ih

theorem Kx (d:Nat) (v:AV) (sl:List (Nat × AV)) (t:Nat):St.get ((d,v) :: aY [d] sl) t=if d=t then v else St.get sl t:=by
  unfold St.get
  rw [ca]
  by_cases c:d=t
  · simp [c]
  · simp only [c,if_false]
    rw [nH]
    have:t ∉ [d]:=by simp; exact fun e=>c e.symm
    simp [this]

theorem St.Y0 (st:St) (τ:Tr):(st.apply τ).gK=τ.apply st.gK:=by
  unfold St.apply St.gK Tr.apply
  have e1:(St.get (match τ.dst with | some d=>(d,τ.v) :: aY [d] st.sl | none=>st.sl))=fun t=>if τ.dst=some t then τ.v else St.get st.sl t:=by
    funext t
    cases hd:τ.dst with
    | none=>simp
    | some d =>
      simp only [Option.some.injEq]
      exact Kx d τ.v st.sl t
  have e2:look (match τ.mem,τ.gI with | [],[]=>st.lb | m,m'=>m'++aY (m.map (·.1)) st.lb)=fun k=>match look τ.gI k with | some b=>some b | none=>if k∈τ.mem.map (·.1) then none else look st.lb k:=by
    funext k
    split
    · rename_i h1 h2
      simp [h1,h2,look]
    · rw [xc,nH]
      cases look τ.gI k <;> simp
  show M.mk (St.get _) (look _)=_
  rw [e1,e2]
  rfl

/-! I5 blocks VP an operation names are ais VP it has looked up -/

theorem Ix {lb:List (Nat × bP)} {x:AV} {cs:List AV} {ro:List (Nat × bP)} {ob:Ob} (h:rn lb x=some (cs,ro,ob)):∀ p,p∈ro→look lb p.1=some p.2:=by
  unfold rn at h
  split at h
  · split at h
    · rename_i hl
      simp only [Option.some.injEq,Prod.mk.injEq] at h
      obtain ⟨-,rfl,-⟩:=h
      intro p hp
      simp only [List.mem_singleton] at hp
      subst hp
      exact hl
    · cases h
  · rename_i key k i off
    split at h
    · rename_i e k' n f hl
      cases hb:Nat.beq k k' with
      | false=>rw [hb] at h; cases h
      | true =>
        rw [hb] at h
        simp only [cond_true,Option.some.injEq,Prod.mk.injEq] at h
        obtain ⟨-,rfl,-⟩:=h
        intro p hp
        simp only [List.mem_singleton] at hp
        subst hp
        exact hl
    · cases h
  · simp only [Option.some.injEq,Prod.mk.injEq] at h
    obtain ⟨-,rfl,-⟩:=h
    intro p hp
    cases hp
  · cases h

theorem cr {lb ro:List (Nat × bP)} (h:ro=[]):∀ p,p∈ro→look lb p.1=some p.2:=fun p hp=>by subst h; cases hp

theorem adX {T:List (Nat × TI)} {lb:List (Nat × bP)} {ρ:Operand→Option AV} {o:Op} {v:AV} {ro:List (Nat × bP)} {ob:Ob} (h:evV T lb ρ o=some (v,ro,ob)):∀ p,p∈ro→look lb p.1=some p.2:=by
  have V4:∀ {x:AV},ok x=some (v,ro,ob)→ro=[]:=fun h=>by simp only [ok,Option.some.injEq,Prod.mk.injEq] at h; exact h.2.1.symm
  unfold evV at h
  split at h
  · split at h
    · exact cr (V4 h)
    · cases h
  · split at h
    · exact cr (V4 h)
    · cases h
  · split at h
    · split at h
      · rename_i hc
        split at h
        · simp only [Option.some.injEq,Prod.mk.injEq] at h
          obtain ⟨-,rfl,-⟩:=h
          exact Ix hc
        · cases h
      · cases h
    · cases h
  · split at h
    · unfold Kq at h
      split at h
      · split at h <;> first | exact cr (V4 h) | cases h
      · cases h
    · cases h
  · split at h
    · unfold QM at h
      split at h
      · split at h
        · split at h
          · split at h
            · exact cr (V4 h)
            · cases h
          · cases h
        · cases h
      · cases h
    · cases h
  · split at h
    · unfold xb at h
      split at h
      · split at h
        · split at h
          · rename_i ie _ n _ m f _ _ _
            generalize hb:Nat.beq _ _=bb at h
            cases bb with
            | false=>cases h
            | true =>
              simp only [cond_true,Option.some.injEq,Prod.mk.injEq] at h
              exact cr h.2.1.symm
          · simp only [Option.some.injEq,Prod.mk.injEq] at h
            exact cr h.2.1.symm
          · cases h
        · cases h
      · cases h
    · cases h
  · split at h
    · unfold Kr at h
      split at h
      · simp only [Option.some.injEq,Prod.mk.injEq] at h
        exact cr h.2.1.symm
      · cases h
    · cases h
  · split at h
    · unfold Xv at h
      split at h
      · split at h
        · simp only [Option.some.injEq,Prod.mk.injEq] at h
          exact cr h.2.1.symm
        · simp only [Option.some.injEq,Prod.mk.injEq] at h
          exact cr h.2.1.symm
        · cases h
      · split at h
        · simp only [Option.some.injEq,Prod.mk.injEq] at h
          exact cr h.2.1.symm
        · cases h
      · split at h
        · exact cr (V4 h)
        · cases h
      · cases h
    · cases h
  · split at h
    · unfold ab9 at h
      split at h <;> first | exact cr (V4 h) | cases h
    · cases h
  · split at h
    · unfold VS at h
      split at h
      · exact cr (V4 h)
      · cases h
    · cases h
  · split at h
    · unfold CU at h
      split at h
      · split at h
        · exact cr (V4 h)
        · cases h
      · cases h
    · cases h
  · unfold Ks at h
    split at h
    · split at h
      · split at h
        · exact cr (V4 h)
        · cases h
      · cases h
    · cases h
  · split at h
    · exact cr (V4 h)
    · cases h
  · split at h
    · unfold Kt at h
      split at h
      · unfold zQ at h
        split at h <;> first | exact cr (V4 h) | (simp only [Option.some.injEq,Prod.mk.injEq] at h; exact cr h.2.1.symm) | cases h
      · split at h
        · unfold CV at h
          split at h <;> first | (simp only [Option.some.injEq,Prod.mk.injEq] at h; exact cr h.2.1.symm) | cases h
        · cases h
      · split at h
        · unfold zR at h
          split at h
          · generalize (_&&_&&_:Bool)=bb at h
            cases bb with
            | false=>cases h
            | true=>exact cr (V4 h)
          · cases h
        · cases h
      · cases h
    · cases h
  · split at h
    · unfold Xw at h
      split at h <;> first | exact cr (V4 h) | cases h
    · cases h
  · split at h
    · unfold GL at h
      split at h
      · split at h
        · exact cr (V4 h)
        · cases h
      · cases h
    · cases h
  · split at h
    · unfold GL at h
      split at h
      · split at h
        · exact cr (V4 h)
        · cases h
      · cases h
    · cases h
  · cases h

theorem XH {lb:List (Nat × bP)} {x:AV} {y:D} {ro:List (Nat × bP)} {ob:Ob} (h:QQ lb x=some (y,ro,ob)):∀ p,p∈ro→look lb p.1=some p.2:=by
  unfold QQ at h
  split at h
  · simp only [Option.some.injEq,Prod.mk.injEq] at h
    exact cr h.2.1.symm
  · simp only [Option.some.injEq,Prod.mk.injEq] at h
    exact cr h.2.1.symm
  · split at h
    · rename_i hl
      simp only [Option.some.injEq,Prod.mk.injEq] at h
      obtain ⟨-,rfl,-⟩:=h
      intro p hp
      simp only [List.mem_singleton] at hp
      subst hp
      exact hl
    · cases h
  · cases h

theorem Lj {lb:List (Nat × bP)}:∀ {xs:List AV} {ys:List D} {ro:List (Nat × bP)} {ob:Ob},DT lb xs=some (ys,ro,ob)→∀ p,p∈ro→look lb p.1=some p.2
  | [],ys,ro,ob,h=>by simp only [DT,Option.some.injEq,Prod.mk.injEq] at h; exact cr h.2.1.symm
  | x :: r,ys,ro,ob,h=>by
    simp only [DT] at h
    split at h
    · rename_i h1 h2
      simp only [Option.some.injEq,Prod.mk.injEq] at h
      obtain ⟨-,rfl,-⟩:=h
      intro p hp
      rcases List.mem_append.1 hp with hp | hp
      · exact XH h1 p hp
      · exact Lj h2 p hp
    · cases h

theorem Tx {lb:List (Nat × bP)} {x y:AV} {ro:List (Nat × bP)} {ob:Ob} (h:BE lb x=some (y,ro,ob)):∀ p,p∈ro→look lb p.1=some p.2:=by
  unfold BE at h
  split at h
  · simp only [Option.some.injEq,Prod.mk.injEq] at h
    exact cr h.2.1.symm
  · split at h
    · rename_i hl
      split at h
      · rename_i hb
        simp only [Option.some.injEq,Prod.mk.injEq] at h
        obtain ⟨-,rfl,-⟩:=h
        intro p hp
        rcases List.mem_cons.1 hp with rfl | hp
        · exact hl
        · exact Lj hb p hp
      · cases h
    · cases h
  · split at h
    · rename_i hb
      simp only [Option.some.injEq,Prod.mk.injEq] at h
      obtain ⟨-,rfl,-⟩:=h
      exact Lj hb
    · cases h
  · split at h
    · rename_i hl
      simp only [Option.some.injEq,Prod.mk.injEq] at h
      obtain ⟨-,rfl,-⟩:=h
      intro p hp
      simp only [List.mem_singleton] at hp
      subst hp
      exact hl
    · simp only [Option.some.injEq,Prod.mk.injEq] at h
      exact cr h.2.1.symm
    · cases h
  · simp only [Option.some.injEq,Prod.mk.injEq] at h
    exact cr h.2.1.symm
  · split at h
    · rename_i hb
      simp only [Option.some.injEq,Prod.mk.injEq] at h
      obtain ⟨-,rfl,-⟩:=h
      exact XH hb
    · cases h

theorem PO {lb:List (Nat × bP)}:∀ {xs ys:List AV} {ro:List (Nat × bP)} {ob:Ob},zU lb xs=some (ys,ro,ob)→∀ p,p∈ro→look lb p.1=some p.2
  | [],ys,ro,ob,h=>by simp only [zU,Option.some.injEq,Prod.mk.injEq] at h; exact cr h.2.1.symm
  | x :: r,ys,ro,ob,h=>by
    simp only [zU] at h
    split at h
    · rename_i h1 h2
      simp only [Option.some.injEq,Prod.mk.injEq] at h
      obtain ⟨-,rfl,-⟩:=h
      intro p hp
      rcases List.mem_append.1 hp with hp | hp
      · exact Tx h1 p hp
      · exact PO h2 p hp
    · cases h

theorem acf {lb:List (Nat × bP)} {x y:AV} {ro:List (Nat × bP)} {ob:Ob} (h:A9 lb x=some (y,ro,ob)):∀ p,p∈ro→look lb p.1=some p.2:=by
  unfold A9 at h
  split at h
  · split at h
    · rename_i hb
      simp only [Option.some.injEq,Prod.mk.injEq] at h
      obtain ⟨-,rfl,-⟩:=h
      exact PO hb
    · cases h
  · exact Tx h

theorem Lk {lb:List (Nat × bP)}:∀ {xs ys:List AV} {ro:List (Nat × bP)} {ob:Ob},yJ lb xs=some (ys,ro,ob)→∀ p,p∈ro→look lb p.1=some p.2
  | [],ys,ro,ob,h=>by simp only [yJ,Option.some.injEq,Prod.mk.injEq] at h; exact cr h.2.1.symm
  | x :: r,ys,ro,ob,h=>by
    simp only [yJ] at h
    split at h
    · rename_i h1 h2
      simp only [Option.some.injEq,Prod.mk.injEq] at h
      obtain ⟨-,rfl,-⟩:=h
      intro p hp
      rcases List.mem_append.1 hp with hp | hp
      · exact acf h1 p hp
      · exact Lk h2 p hp
    · cases h

theorem Ef {lb:List (Nat × bP)}:∀ {ks:List Nat} {l:List (Nat × bP)},looks lb ks=some l→∀ p,p∈l→look lb p.1=some p.2
  | [],l,h=>by simp only [looks,Option.some.injEq] at h; exact cr h.symm
  | k :: r,l,h=>by
    simp only [looks] at h
    split at h
    · rename_i h1 h2
      simp only [Option.some.injEq] at h
      subst h
      intro p hp
      rcases List.mem_cons.1 hp with rfl | hp
      · exact h1
      · exact Ef h2 p hp
    · cases h

theorem Ty {P:Program} {T:List (Nat × TI)} {lb:List (Nat × bP)} {ρ:Operand→Option AV} {dst:Option Nat} {quiet:Bool} {kW uU:List CX} {op:Op} {r:R} (h:Tm P T lb ρ dst quiet kW op=some (r,uU)) :
    (∀ p,p∈r.ro→look lb p.1=some p.2)∧(∀ p,p∈r.mem→look lb p.1=some p.2)∧(quiet=true→r.mem=[]∧r.gI=[]):=by
  have one:∀ {κ:Nat} {b:bP},look lb κ=some b→∀ p,p∈[(κ,b)]→look lb p.1=some p.2:=fun hl p hp=>by
    simp only [List.mem_singleton] at hp
    subst hp
    exact hl
  unfold Tm at h
  split at h
  · split at h
    · simp only [Option.some.injEq,Prod.mk.injEq] at h
      obtain ⟨rfl,-⟩:=h
      exact ⟨cr rfl,cr rfl,fun hq=>(by cases hq)⟩
    · cases h
  · split at h
    · split at h
      · split at h
        · simp only [Option.some.injEq,Prod.mk.injEq] at h
          obtain ⟨rfl,-⟩:=h
          exact ⟨cr rfl,cr rfl,fun hq=>(by cases hq)⟩
        generalize (wU.pE _&&_)=bb at h
        cases bb with
        | false=>cases h
        | true =>
          simp only [cond_true,Option.some.injEq,Prod.mk.injEq] at h
          obtain ⟨rfl,-⟩:=h
          exact ⟨cr rfl,cr rfl,fun hq=>(by cases hq)⟩
      · cases h
    · cases h
  · split at h
    · split at h
      · simp only [Option.some.injEq,Prod.mk.injEq] at h
        obtain ⟨rfl,-⟩:=h
        exact ⟨cr rfl,cr rfl,fun _=>⟨rfl,rfl⟩⟩
      · split at h
        · simp only [Option.some.injEq,Prod.mk.injEq] at h
          obtain ⟨rfl,-⟩:=h
          exact ⟨cr rfl,cr rfl,fun hq=>(by cases hq)⟩
        · cases h
    · cases h
  · split at h
    · split at h
      · rename_i r' lW
        simp only [Option.some.injEq,Prod.mk.injEq] at h
        obtain ⟨rfl,-⟩:=h
        refine ⟨?_,?_,fun hq=>(by cases hq)⟩
        all_goals
          unfold QX at lW
          split at lW
          · rename_i i xs hi hc
            split at lW
            · rename_i κ off
              split at lW
              · rename_i cs hl
                generalize (Nat.beq _ _&&_&&_&&_)=bb at lW
                cases bb with
                | false=>cases lW
                | true =>
                  simp only [cond_true,Option.some.injEq] at lW
                  subst lW
                  first | exact one hl | exact cr rfl
              · cases lW
            · split at lW
              · rename_i e k' n f ds hl hp
                generalize hb:(Nat.beq _ k'&&_&&_&&_)=bb at lW
                cases bb with
                | false=>cases lW
                | true =>
                  simp only [Bool.and_eq_true] at hb
                  have ek:=Nat.eq_of_beq_eq_true hb.1.1.1
                  subst ek
                  simp only [cond_true,Option.some.injEq] at lW
                  subst lW
                  first | exact one hl | exact cr rfl
              · cases lW
            · cases lW
          · cases lW
      · cases h
    · cases h
  · split at h
    · split at h
      · split at h
        · rename_i r' Bp
          simp only [Option.some.injEq,Prod.mk.injEq] at h
          obtain ⟨rfl,-⟩:=h
          have main:(∀ p,p∈r'.ro→look lb p.1=some p.2)∧(∀ p,p∈r'.mem→look lb p.1=some p.2):=by
            unfold Lh at Bp
            split at Bp
            · split at Bp
              · rename_i i hi
                split at Bp
                · rename_i m g ro ob mW
                  have oq:∀ p,p∈ro→look lb p.1=some p.2:=by
                    unfold aao at mW
                    split at mW
                    · simp only [Option.some.injEq,Prod.mk.injEq] at mW
                      exact cr mW.2.2.1.symm
                    · simp only [Option.some.injEq,Prod.mk.injEq] at mW
                      exact cr mW.2.2.1.symm
                    · simp only [Option.some.injEq,Prod.mk.injEq] at mW
                      exact cr mW.2.2.1.symm
                    · split at mW
                      · rename_i hl
                        generalize hb:Nat.beq _ _=bb at mW
                        cases bb with
                        | false=>cases mW
                        | true =>
                          simp only [cond_true,Option.some.injEq,Prod.mk.injEq] at mW
                          obtain ⟨-,-,rfl,-⟩:=mW
                          exact one hl
                      · cases mW
                    · cases mW
                  split at Bp
                  · simp only [Option.some.injEq] at Bp
                    subst Bp
                    exact ⟨oq,cr rfl⟩
                  · split at Bp
                    · rename_i hl
                      generalize (Nat.beq _ _&&_&&_)=bb at Bp
                      cases bb with
                      | false=>cases Bp
                      | true =>
                        simp only [cond_true,Option.some.injEq] at Bp
                        subst Bp
                        exact ⟨oq,one hl⟩
                    · cases Bp
                  · cases Bp
                · cases Bp
              · cases Bp
            · cases Bp
          exact ⟨main.1,main.2,fun hq=>(by cases hq)⟩
        · cases h
      · cases h
    · cases h
  · split at h
    · unfold V0 at h
      split at h
      · split at h
        · split at h
          · rename_i hb
            generalize gJ _=bb at h
            cases bb with
            | false=>cases h
            | true =>
              simp only [cond_true,Option.some.injEq,Prod.mk.injEq] at h
              obtain ⟨rfl,-⟩:=h
              exact ⟨Lk hb,cr rfl,fun _=>⟨rfl,rfl⟩⟩
          · cases h
        · cases h
      · rename_i hand res back YU
        split at h
        · split at h
          · rename_i c6 xM
            generalize hb:(wU.pE _&&Kv res back&&wU res&&(!quiet||(hand.isEmpty&&back.isEmpty))&&back.all (fun p=>!hand.contains p.1))=bb at h
            cases bb with
            | false=>cases h
            | true =>
              simp only [cond_true,Option.some.injEq,Prod.mk.injEq] at h
              obtain ⟨rfl,-⟩:=h
              simp only [Bool.and_eq_true,Bool.or_eq_true,Bool.not_eq_true',List.isEmpty_iff] at hb
              refine ⟨cr rfl,Ef xM,fun hq=>?_⟩
              rcases hb.1.2 with h1 | ⟨h1,h2⟩
              · rw [hq] at h1; cases h1
              · subst h1; subst h2
                simp only [looks,Option.some.injEq] at xM
                exact ⟨xM.symm,rfl⟩
          · cases h
        · cases h
      · rename_i κ b' YU
        split at h
        · split at h
          · rename_i b xM
            generalize hb:(wU.pE _&&!quiet)=bb at h
            cases bb with
            | false=>cases h
            | true =>
              simp only [cond_true,Option.some.injEq,Prod.mk.injEq] at h
              obtain ⟨rfl,-⟩:=h
              simp only [Bool.and_eq_true,Bool.not_eq_true'] at hb
              refine ⟨cr rfl,fun p hp=>?_,fun hq=>?_⟩
              · have:p=(κ,b):=by simpa using hp
                subst this
                exact xM
              · rw [hq] at hb; cases hb.2
          · cases h
        · cases h
      · rename_i hand jX res back YU
        split at h
        · split at h
          · rename_i c6 xM
            generalize hb:(wU.pE _&&acd _ hand c6 jX res back&&wU res&&!quiet)=bb at h
            cases bb with
            | false=>cases h
            | true =>
              simp only [cond_true,Option.some.injEq,Prod.mk.injEq] at h
              obtain ⟨rfl,-⟩:=h
              simp only [Bool.and_eq_true,Bool.not_eq_true'] at hb
              exact ⟨cr rfl,Ef xM,fun hq=>by rw [hq] at hb; cases hb.2⟩
          · cases h
        · cases h
      · cases h
    · cases h
  · split at h
    · split at h
      · simp only [Option.some.injEq,Prod.mk.injEq] at h
        obtain ⟨rfl,-⟩:=h
        exact ⟨cr rfl,cr rfl,fun hq=>(by cases hq)⟩
      · cases h
    · cases h
  · split at h
    · simp only [Option.some.injEq,Prod.mk.injEq] at h
      obtain ⟨rfl,-⟩:=h
      exact ⟨cr rfl,cr rfl,fun _=>⟨rfl,rfl⟩⟩
    · split at h
      · rename_i hv
        simp only [Option.some.injEq,Prod.mk.injEq] at h
        obtain ⟨rfl,-⟩:=h
        exact ⟨adX hv,cr rfl,fun _=>⟨rfl,rfl⟩⟩
      · cases h

theorem Tz {P:Program} {T:List (Nat × TI)} {lb:List (Nat × bP)} {ρ:Operand→Option AV} {dst:Option Nat} {quiet:Bool} {kW uU:List CX} {op:Op} {r:R} (h:Tn P T lb ρ dst quiet kW op=some (r,uU)) :
    (∀ p,p∈r.ro→look lb p.1=some p.2)∧(∀ p,p∈r.mem→look lb p.1=some p.2)∧(quiet=true→r.mem=[]∧r.gI=[]):=by
  unfold Tn at h
  split at h
  · rename_i hm
    simp only [Option.some.injEq,Prod.mk.injEq] at h
    obtain ⟨rfl,-⟩:=h
    exact ⟨(Lg hm).1,(Lg hm).2.1,(Lg hm).2.2.1⟩
  split at h
  · rename_i hm
    simp only [Option.some.injEq,Prod.mk.injEq] at h
    obtain ⟨rfl,-⟩:=h
    exact YT hm
  split at h
  · simp only [Option.some.injEq,Prod.mk.injEq] at h
    obtain ⟨rfl,-⟩:=h
    exact ⟨cr rfl,cr rfl,fun _=>⟨rfl,rfl⟩⟩
  · exact Ty h

theorem V5 {c:tF} {r r':R} (h:Tp c r=some r'):r'.ro=r.ro∧r'.mem=r.mem∧(r.gI=[]→r'.gI=[]):=by
  unfold Tp at h
  split at h
  · rename_i hm
    have nn:∀ {x:List (Nat × bP)},r.gI=[]→x=[]:=fun e=>by rw [hm] at e; cases e
    split at h
    · generalize Nat.beq _ _=bb at h
      cases bb with
      | false=>cases h
      | true =>
        simp only [cond_true,Option.some.injEq] at h
        subst h
        exact ⟨rfl,rfl,nn⟩
    · simp only [Option.some.injEq] at h
      subst h
      exact ⟨rfl,rfl,nn⟩
    · cases h
  · split at h
    · simp only [Option.some.injEq] at h
      subst h
      exact ⟨rfl,rfl,fun _=>rfl⟩
    · cases h
  · cases h

theorem V6 {c:DU} {r r':R} (h:Tq c r=some r'):r'.ro=r.ro∧r'.mem=r.mem∧(r.gI=[]→r'.gI=[]):=by
  unfold Tq at h
  split at h
  · rename_i hm
    split at h
    · simp only [Option.some.injEq] at h
      subst h
      exact ⟨rfl,rfl,fun e=>by rw [hm] at e; cases e⟩
    · simp only [Option.some.injEq] at h
      subst h
      exact ⟨rfl,rfl,fun e=>by rw [hm] at e; cases e⟩
    · cases h
  · cases h

theorem V7 {P:Program} {T:List (Nat × TI)} {lb:List (Nat × bP)} {ρ:Operand→Option AV} {dst:Option Nat} {quiet:Bool} {kW uU:List CX} {op:Op} {r:R} (h:aar P T lb ρ dst quiet kW op=some (r,uU)) :
    (∀ p,p∈r.ro→look lb p.1=some p.2)∧(∀ p,p∈r.mem→look lb p.1=some p.2)∧(quiet=true→r.mem=[]∧r.gI=[]):=by
  unfold aar at h
  split at h
  · rename_i r0 N1 h0
    obtain ⟨q1,q2,q3⟩:=Tz h0
    split at h
    · split at h
      · rename_i r' hn
        simp only [Option.some.injEq,Prod.mk.injEq] at h
        obtain ⟨rfl,-⟩:=h
        obtain ⟨e1,e2,e3⟩:=V5 hn
        rw [e1,e2]
        exact ⟨q1,q2,fun hq=>⟨(q3 hq).1,e3 (q3 hq).2⟩⟩
      · simp only [Option.some.injEq,Prod.mk.injEq] at h
        obtain ⟨rfl,-⟩:=h
        exact ⟨q1,q2,q3⟩
    · split at h
      · rename_i r' hn
        simp only [Option.some.injEq,Prod.mk.injEq] at h
        obtain ⟨rfl,-⟩:=h
        obtain ⟨e1,e2,e3⟩:=V6 hn
        rw [e1,e2]
        exact ⟨q1,q2,fun hq=>⟨(q3 hq).1,e3 (q3 hq).2⟩⟩
      · simp only [Option.some.injEq,Prod.mk.injEq] at h
        obtain ⟨rfl,-⟩:=h
        exact ⟨q1,q2,q3⟩
    · split at h
      · generalize Nat.beq _ _=bb at h
        cases bb with
        | false =>
          simp only [cond_false,Option.some.injEq,Prod.mk.injEq] at h
          obtain ⟨rfl,-⟩:=h
          exact ⟨q1,q2,q3⟩
        | true =>
          simp only [cond_true,Option.some.injEq,Prod.mk.injEq] at h
          obtain ⟨rfl,-⟩:=h
          exact ⟨q1,q2,q3⟩
      · simp only [Option.some.injEq,Prod.mk.injEq] at h
        obtain ⟨rfl,-⟩:=h
        exact ⟨q1,q2,q3⟩
    · simp only [Option.some.injEq,Prod.mk.injEq] at h
      obtain ⟨rfl,-⟩:=h
      exact ⟨q1,q2,q3⟩
  · cases h

def vL (ν:Nat→Bool) (p:List (Nat × Bool)):Prop:=∀ y,y∈p→ν y.1=y.2

theorem V8 {ν:Nat→Bool} {q p:List (Nat × Bool)} (h:ace q p=true) (hp:vL ν p):vL ν q:=by
  intro y hy
  simp only [ace,List.all_eq_true,List.any_eq_true,Bool.and_eq_true,beq_iff_eq] at h
  obtain ⟨z,hz,h1,h2⟩:=h y hy
  have:=hp z hz
  rw [Nat.eq_of_beq_eq_true h1,h2]
  exact this

section
variable {C : Cx} {A : M} {a : Act} {w : World} {S : Nat → Prop} {μ : Mu} {ν : Nat → Bool}

theorem Fi (YI:kN w S) {need:List (Nat × AV)} {p:List (Nat × Bool)} (Ll:∀ q,q∈need→Rel w S μ ν q.2 (a.tmps.getD q.1 undef)) (hp:vL ν p) (x:Operand) (y:AV) (h:Tu need p x=some y):Rel w S μ ν y (a.eval x):=by
  cases x with
  | tmp t =>
    simp only [Tu] at h
    cases hl:look need t with
    | none=>rw [hl] at h; cases h
    | some z =>
      rw [hl] at h
      have hr:=Ll (t,z) (kf hl)
      show Rel w S μ ν y (a.tmps.getD t undef)
      simp only at h hr
      cases z with
      | g q b =>
        simp only [adW] at h
        cases hs:ace q p with
        | false=>rw [hs] at h; cases h
        | true =>
          rw [hs] at h
          simp only [cond_true,Option.some.injEq] at h
          subst h
          cases hr with
          | g h1 _=>exact h1 (V8 hs hp)
      | _=>simp only [adW,Option.some.injEq] at h; subst h; exact hr
  | const v=>exact SS h
  | func f =>
    simp only [Tu,Option.some.injEq] at h
    subst h
    exact .fn rfl (fun i hi=>absurd hi (by simp))
  | global g =>
    simp only [Tu] at h
    cases hl:look (DS.gl) g with
    | none=>rw [hl] at h; cases h
    | some cs =>
      rw [hl] at h
      simp only [Option.some.injEq] at h
      subst h
      obtain ⟨ef,h1,h2⟩:=YI (g,cs) (kf hl)
      exact .ref ef h1 h2

theorem Lm {sl:List (Nat × AV)}:∀ {ts:List Nat} {q:Nat × AV},q∈sG sl ts→q.2=St.get sl q.1∧q.1∈ts
  | t :: r,q,h=>by
    rcases List.mem_cons.1 h with rfl | h'
    · exact ⟨rfl,List.mem_cons_self⟩
    · obtain ⟨h1,h2⟩:=Lm h'
      exact ⟨h1,List.mem_cons_of_mem _ h2⟩

theorem GU {sl:List (Nat × AV)}:∀ {ts:List Nat} {s:Nat},s∈ts→(s,St.get sl s)∈sG sl ts
  | t :: r,s,h=>by
    rcases List.mem_cons.1 h with rfl | h'
    · exact List.mem_cons_self
    · exact List.mem_cons_of_mem _ (GU h')

theorem Fj {gl:List (Nat × Bool)}:∀ {ss:List Nat} {q:Nat × Bool},q∈QZ gl ss→look gl q.1=some q.2
  | s :: r,q,h=>by
    simp only [QZ] at h
    cases hl:look gl s with
    | none=>rw [hl] at h; exact Fj h
    | some e =>
      rw [hl] at h
      rcases List.mem_cons.1 h with rfl | h'
      · exact hl
      · exact Fj h'

theorem BI {gl:List (Nat × Bool)} {ob:Ob}:∀ {p:List (Nat × Bool)},(BH gl p ob).den→(∀ s e,s∈p.map (·.1)→look gl s=some e→ν s=e)→vL ν p→ob.den
  | [],h,_,_=>h
  | (s,w) :: r,h,hg,hp=>by
    simp only [BH] at h
    have hr:∀ s e,s∈r.map (·.1)→look gl s=some e→ν s=e:=fun s e hs=>hg s e (by simp only [List.map_cons,List.mem_cons]; exact .inr hs)
    have hp':vL ν r:=fun y hy=>hp y (List.mem_cons_of_mem _ hy)
    cases hl:look gl s with
    | none=>rw [hl] at h; exact BI h hr hp'
    | some e =>
      rw [hl] at h
      exact BI (Ob.ab8 h (by rw [← hg s e (by simp) hl]; exact hp (s,w) List.mem_cons_self)) hr hp'

theorem PQ {gl Tv:List (Nat × Bool)} {s:Nat} {e:Bool} {ob:Ob} (h:YZ gl s e=(Tv,ob)) (cD:ob.den):look Tv s=some e∧∀ t x,look gl t=some x→look Tv t=some x:=by
  unfold YZ at h
  cases hl:look gl s with
  | some e' =>
    rw [hl] at h
    simp only [Prod.mk.injEq] at h
    obtain ⟨rfl,rfl⟩:=h
    simp only [Ob.den] at cD
    exact ⟨by rw [hl,cD],fun t x h=>h⟩
  | none =>
    rw [hl] at h
    simp only [Prod.mk.injEq] at h
    obtain ⟨rfl,rfl⟩:=h
    refine ⟨by rw [xc,hl]; simp [look],fun t x ht=>by rw [xc,ht]⟩

theorem TA {ops:Array Oper} {j s:Nat} (hj:CY ops j=some s) (gH:s < a.tmps.size):yielded ops a.tmps j=match a.tmps.getD s undef with | .bool b=>some b | _=>none:=by
  unfold CY at hj
  cases ho:ops[j]? with
  | none=>rw [ho] at hj; cases hj
  | some o =>
    rw [ho] at hj
    simp only at hj
    unfold yielded
    rw [ho]
    simp only [Option.bind_some,hj,Array.getElem?_eq_getElem gH]
    have e:a.tmps.getD s undef=a.tmps[s]:=by simp [Array.getD,gH]
    rw [e]
    cases a.tmps[s] <;> rfl


theorem TB {p:List (Nat × Bool)} {v:AV} {x:Value} (hp:vL ν p) (h:Rel w S μ ν v x):Rel w S μ ν (Fh p v) x:=by
  cases p with
  | nil=>exact h
  | cons y r=>exact .g (fun _=>h) (fun hn=>absurd hp hn)

/-- I5 same adY,with XI name for its result -/
theorem dG.rename {τ τ':Tr} {a':Act} {w':World} {S':Nat→Prop} {μ':Mu} (h:dG C (τ.apply A) a' w' S' μ' ν) (hd:τ'.dst=τ.dst) (hm:τ'.mem=τ.mem) (Bq:τ'.gI=τ.gI) (hv:∀ x,Rel w' S' μ' ν τ.v x→Rel w' S' μ' ν τ'.v x):dG C (τ'.apply A) a' w' S' μ' ν:=by
  have e:(τ'.apply A).lb=(τ.apply A).lb:=by simp only [Tr.apply,hm,Bq]
  refine ⟨h.tmps,h.defers,fun t=>?_,by rw [e]; exact h.mem,by rw [e]; exact h.inj,by rw [e]; exact h.own,h.fU,h.fresh,h.bound,h.kept⟩
  have h0:=h.fa t
  simp only [Tr.apply,hd] at h0 ⊢
  split
  · rename_i c
    simp only [c,if_true] at h0
    exact hv _ h0
  · rename_i c
    simp only [c,if_false] at h0
    exact h0

theorem Q1 {T:List (Nat × TI)} (hT:pj C.P T) {ops:Array Oper} {st:St} {gl Tv:List (Nat × Bool)} {kW uU:List CX} {o:Oper} {τ:Tr} {ob:Ob}
    (h:V3 C.P T C.nt ops st gl kW o=some (τ,Tv,uU,ob)) (cD:ob.den) (hν:∀ s e,look Tv s=some e→ν s=e) :
    Ko C ν ops o τ∧(∀ p,p∈τ.gs→ν p.1=p.2)∧En τ st.gK∧∀ t x,look gl t=some x→look Tv t=some x:=by
  unfold V3 at h
  split at h
  case h_2=>cases h
  rename_i p ss gl1 Ds vM eT
  have hd:∀ t,o.dst=some t→t < C.nt:=fun t ht=>by
    rw [ht] at eT
    simp only at eT
    exact Nat.lt_of_succ_le (Nat.le_of_ble_eq_true eT)
  -- I5 path
  have path:Ds.den→(∀ s e,look gl1 s=some e→ν s=e)→(∀ t x,look gl t=some x→look gl1 t=some x) ∧
      ∀ (A:M) (a:Act) (w:World) (S:Nat→Prop) (μ:Mu),dG C A a w S μ ν→(∀ s,s∈ss→A.sl s=St.get st.sl s)→(Region.wanted o (yielded ops a.tmps)=true→vL ν p)∧(Region.wanted o (yielded ops a.tmps)=false→p≠[]∧¬ vL ν p):=by
    intro BJ hν1
    unfold pathOf at vM
    split at vM
    · rename_i hg
      simp only [Option.some.injEq,Prod.mk.injEq] at vM
      obtain ⟨rfl,rfl,rfl,rfl⟩:=vM
      refine ⟨fun _ _ h=>h,fun A a w S μ hs _=>⟨fun _ y hy=>(by cases hy),fun hw=>?_⟩⟩
      simp [Region.wanted,hg] at hw
    · rename_i j want hg
      split at vM
      · rename_i s YE
        cases hnt:Nat.ble (s+1) C.nt with
        | false=>rw [hnt] at vM; cases vM
        | true =>
        rw [hnt] at vM
        simp only [cond_true] at vM
        split at vM
        · rename_i q e hbo
          generalize V9:YZ gl s e=rg at vM
          obtain ⟨gl2,I8⟩:=rg
          simp only [Option.some.injEq,Prod.mk.injEq] at vM
          obtain ⟨rfl,rfl,rfl,rfl⟩:=vM
          obtain ⟨g1,g2⟩:=PQ V9 BJ
          refine ⟨g2,fun A a w S μ hs hss=>?_⟩
          have hνs:=hν1 s e g1
          have hsA:=hss s (by simp)
          have hr:=hs.fa s
          rw [hsA] at hr
          have gH:s < a.tmps.size:=by rw [hs.tmps]; exact Nat.lt_of_succ_le (Nat.le_of_ble_eq_true hnt)
          have hy:=TA (a:=a) YE gH
          have aft:Region.wanted o (yielded ops a.tmps)=((match a.tmps.getD s undef with | .bool b=>some b | _=>none) == some want):=by
            unfold Region.wanted
            rw [hg]
            simp only [hy]
          rw [aft]
          unfold aav at hbo
          split at hbo
          · rename_i NY
            simp only [Option.some.injEq,Prod.mk.injEq] at hbo
            obtain ⟨rfl,rfl⟩:=hbo
            rw [NY] at hr
            have:=pD hr
            rw [this]
            refine ⟨fun hw y hy=>?_,fun hw=>⟨by simp,fun hh=>?_⟩⟩
            · simp only [List.nil_append,List.mem_singleton] at hy
              subst hy
              simp only [beq_iff_eq,Option.some.injEq] at hw
              rw [hνs,hw]
            · have:=hh (s,want) (by simp)
              rw [hνs] at this
              simp [this] at hw
          · rename_i NY
            simp only [Option.some.injEq,Prod.mk.injEq] at hbo
            obtain ⟨rfl,rfl⟩:=hbo
            rw [NY] at hr
            generalize a.tmps.getD s undef=xv at hr ⊢
            cases hr with
            | g h1 h0 =>
              rename_i q0 e0
              by_cases hq:vL ν q0
              · have:=pD (h1 hq)
                rw [this]
                refine ⟨fun hw y hy=>?_,fun hw=>⟨by simp,fun hh=>?_⟩⟩
                · rcases List.mem_append.1 hy with hy | hy
                  · exact hq y hy
                  · simp only [List.mem_singleton] at hy
                    subst hy
                    simp only [beq_iff_eq,Option.some.injEq] at hw
                    rw [hνs,hw]
                · have:=hh (s,want) (by simp)
                  rw [hνs] at this
                  simp [this] at hw
              · have:=h0 hq
                rw [this]
                refine ⟨fun hw=>?_,fun _=>⟨by simp,fun hh=>hq (fun y hy=>hh y (List.mem_append.2 (.inl hy)))⟩⟩
                simp [undef] at hw
          · cases hbo
        · cases vM
      · cases vM
  have enN:∀ (ts:List Nat) (τ:Tr),τ.need=sG st.sl ts→(∀ p,p∈τ.ro→st.gK.lb p.1=some p.2)→(∀ p,p∈τ.mem→st.gK.lb p.1=some p.2)→En τ st.gK:=fun ts τ hn h1 h2 =>
    ⟨fun q hq=>by rw [hn] at hq; exact (Lm hq).1.symm,h1,h2⟩
  split at h
  · -- pick
    rename_i c x y zM
    split at h
    · rename_i s e ex ey Fk
      generalize V9:YZ gl1 s e=rg at h
      obtain ⟨gl2,I8⟩:=rg
      simp only [Option.some.injEq,Prod.mk.injEq] at h
      obtain ⟨rfl,rfl,rfl,rfl⟩:=h
      obtain ⟨BJ,Dt⟩:=Ob.da cD
      obtain ⟨r1,r2⟩:=PQ V9 Dt
      obtain ⟨aay,adZ⟩:=path BJ (fun s' e' hl=>hν s' e' (r2 s' e' hl))
      refine ⟨?_,fun q hq=>hν _ _ (Fj hq),enN _ _ rfl (fun p hp=>by cases hp) (fun p hp=>by cases hp),fun t x h=>r2 t x (aay t x h)⟩
      intro A a w S μ hs Z7 _ _
      have hA:∀ t,t∈ss++slotsOf [c,x,y]→A.sl t=St.get st.sl t:=fun t ht=>Z7.need (t,St.get st.sl t) (GU ht)
      obtain ⟨p1,p0⟩:=adZ A a w S μ hs (fun s' yG=>hA s' (List.mem_append.2 (.inl yG)))
      have Ll:∀ q,q∈sG st.sl (ss++slotsOf [c,x,y])→Rel w S μ ν q.2 (a.tmps.getD q.1 undef):=fun q hq=>by
        have:=hs.fa q.1
        rw [Z7.need q hq] at this
        exact this
      split
      · rename_i hw
        have hp:=p1 hw
        have hνs:ν s=e:=hν s e r1
        unfold aaw at Fk
        cases c with
        | tmp s' =>
          simp only at Fk
          split at Fk
          · rename_i e' ex' ey' h1 h2 h3
            simp only [Option.some.injEq,Prod.mk.injEq] at Fk
            obtain ⟨rfl,rfl,rfl,rfl⟩:=Fk
            have hc:=pD (Fi hs.Bt Ll hp _ _ h1)
            refine nC (x:=.bool (bif e' then ex' else ey')) hs hd ?_ (TB hp (iI rfl)) rfl rfl rfl
            simp only [execOp,zM,hc,asBool,Sem.run_bind,Sem.run_pure,Result.andThen_ok]
            cases e' with
            | true =>
              have hpx:vL ν ((s',true) :: p):=fun y hy=>by
                rcases List.mem_cons.1 hy with rfl | hy
                · exact hνs
                · exact hp y hy
              have hx:=pD (Fi hs.Bt Ll hpx _ _ h2)
              simp [hx]
            | false =>
              have hpy:vL ν ((s',false) :: p):=fun y hy=>by
                rcases List.mem_cons.1 hy with rfl | hy
                · exact hνs
                · exact hp y hy
              have hx:=pD (Fi hs.Bt Ll hpy _ _ h3)
              simp [hx]
          · cases Fk
        | const=>cases Fk
        | global=>cases Fk
        | func=>cases Fk
      · rename_i hw
        obtain ⟨vD,hnp⟩:=p0 (by simpa using hw)
        refine ⟨S,μ,?_⟩
        have hr:Rel w S μ ν (Fh p (.d (.v (.bool (bif e then ex else ey))))) undef:=by
          cases p with
          | nil=>exact absurd rfl vD
          | cons y r=>exact .g (fun hh=>absurd hh hnp) (fun _=>rfl)
        have h5:=hs.put (dst:=o.dst) hd hr
        have e0:(Tr.mk (sG st.sl (ss++slotsOf [c,x,y])) o.dst (Fh p (.d (.v (.bool (bif e then ex else ey))))) [] [] [] (QZ gl2 (s :: p.map (·.1)))).apply A=A.yE o.dst (Fh p (.d (.v (.bool (bif e then ex else ey))))):=by
          unfold Tr.apply M.yE M.put
          cases hdd:o.dst with
          | none=>simp [look]
          | some d =>
            simp only [look,List.map_nil,List.not_mem_nil,if_false,Option.some.injEq]
            congr 1
            funext t
            by_cases cc:d=t
            · simp [cc]
            · have:¬ t=d:=fun e=>cc e.symm
              simp [cc,this]
        rw [e0]
        exact h5
    · cases h
  · rename_i op0 hnp
    split at h
    · rename_i r N1 hev
      simp only [Option.some.injEq,Prod.mk.injEq] at h
      obtain ⟨rfl,rfl,rfl,rfl⟩:=h
      obtain ⟨BJ,Dt⟩:=Ob.da cD
      obtain ⟨aay,adZ⟩:=path BJ hν
      have aaz:(∀ p,p∈r.ro→look st.lb p.1=some p.2)∧(∀ p,p∈r.mem→look st.lb p.1=some p.2)∧(p≠[]→r.mem=[]∧r.gI=[]):=by
        obtain ⟨q1,q2,q3⟩:=V7 hev
        exact ⟨q1,q2,fun vD=>q3 (by cases p with | nil=>exact absurd rfl vD | cons _ _=>rfl)⟩
      refine ⟨?_,fun q hq=>hν _ _ (Fj hq),enN _ _ rfl aaz.1 aaz.2.1,aay⟩
      intro A a w S μ hs Z7 yA _
      have hA:∀ t,t∈ss++slotsOf o.op.operands.toList→A.sl t=St.get st.sl t:=fun t ht=>Z7.need (t,St.get st.sl t) (GU ht)
      obtain ⟨p1,p0⟩:=adZ A a w S μ hs (fun s' yG=>hA s' (List.mem_append.2 (.inl yG)))
      have Ll:∀ q,q∈sG st.sl (ss++slotsOf o.op.operands.toList)→Rel w S μ ν q.2 (a.tmps.getD q.1 undef):=fun q hq=>by
        have:=hs.fa q.1
        rw [Z7.need q hq] at this
        exact this
      split
      · rename_i hw
        have hp:=p1 hw
        have ahd:r.ob.den:=BI Dt (fun s e _ hl=>hν s e hl) hp
        have:=V2 hT hs (fun x y hxy=>Fi hs.Bt Ll hp x y hxy) hd hev Z7.ro Z7.mem ahd (fun κ hκ=>yA κ hκ) (sG st.sl (ss++slotsOf o.op.operands.toList)) (QZ gl1 (p.map (·.1)))
        refine Oper.wp_mono (fun a' w' hh=>?_) this
        obtain ⟨S',μ',dy⟩:=hh
        exact ⟨S',μ',dy.rename rfl rfl rfl (fun x hx=>TB hp hx)⟩
      · rename_i hw
        obtain ⟨vD,ahe⟩:=p0 (by simpa using hw)
        obtain ⟨hm1,hm2⟩:=aaz.2.2 vD
        refine ⟨S,μ,?_⟩
        have hr:Rel w S μ ν (Fh p r.v) undef:=by
          cases p with
          | nil=>exact absurd rfl vD
          | cons y r=>exact .g (fun hh=>absurd hh ahe) (fun _=>rfl)
        have h5:=hs.put (dst:=o.dst) hd hr
        have e0:(Tr.mk (sG st.sl (ss++slotsOf o.op.operands.toList)) o.dst (Fh p r.v) r.ro r.mem r.gI (QZ gl1 (p.map (·.1)))).apply A=A.yE o.dst (Fh p r.v):=by
          unfold Tr.apply M.yE M.put
          simp only [hm1,hm2]
          cases hdd:o.dst with
          | none=>simp [look]
          | some d =>
            simp only [look,List.map_nil,List.not_mem_nil,if_false,Option.some.injEq]
            congr 1
            funext t
            by_cases cc:d=t
            · simp [cc]
            · have:¬ t=d:=fun e=>cc e.symm
              simp [cc,this]
        rw [e0]
        exact h5
    · cases h

end

end Go.Av
