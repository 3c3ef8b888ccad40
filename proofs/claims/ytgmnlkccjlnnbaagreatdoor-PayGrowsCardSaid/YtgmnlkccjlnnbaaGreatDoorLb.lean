/- Append, stores into rows, slices made, in abstract states. -/
import Derived.Test.YtgmnlkccjlnnbaaGreatDoorLa
import Derived.Lib.ConvBytes
set_option linter.unusedSimpArgs false
set_option linter.unusedVariables false
set_option linter.unusedSectionVars false
namespace Go.Av
open Go
variable [yp]
section
variable {C : Cx} {A : M} {a : Act} {w : World} {S : Nat → Prop} {μ : Mu} {ν : Nat → Bool}
theorem c6.S6 (h:c6 C A a w S μ ν) {κ:Nat} (hf:jW A κ) {blk:bA} {b cap:Nat} {w':World} (hk:κ ∉ blk.keys) (Cf:Kept w w' (fun q=>q=b)) (hS:¬ S b) (Uk:∀ κ' b' g c,A.lb κ'=some b'→μ κ'=some (some (g,c))→g≠b)
  (DL:C.w0.heap.size≤b∨C.T0 b) (hb:dK w' S μ blk b cap):c6 C (A.set κ (some blk)) a w' S (c9 μ κ (some (some (b,cap)))) ν:=by
 have hw:∀ q,S q→w'.heap[q]? = w.heap[q]?:=fun q hq=>Cf.block q (h.bound q hq) (fun e=>hS (e ▸ hq))
 have h0:=h.forget hf
 have J2:∀ k y,(if k=κ then none else μ k)=some y→c9 μ κ (some (some (b,cap))) k=some y:=by
  intro k y hy
  by_cases c:k=κ
  ·simp [c] at hy
  ·simpa [c9,c] using hy
 refine ⟨h.tmps,h.defers,fun t=>(h0.dV t).mono (fun _ x=>x) hw J2,fun κ' b' mV=>?_,fun κ1 κ2 b1 b2 g c c' h1 h2 h3 h4=>?_,fun κ' b' g c h1 h2=>?_,h.eP,h.fresh,fun q hq=>Nat.lt_of_lt_of_le (h.bound q hq) Cf.size,?_⟩
 ·simp only [M.set] at mV
  by_cases c:κ'=κ
  ·simp only [c,if_true,Option.some.injEq] at mV
   subst mV
   rw [c]
   simp only [c9,if_true]
   exact ((hb.forget hk).mono (fun _ x=>x) (fun _ _=>rfl) J2 rfl hb.not).ok
  ·simp only [c,if_false] at mV
   have hm:=h0.mem κ' b' mV
   simp only [c,if_false] at hm
   have:c9 μ κ (some (some (b,cap))) κ'=μ κ':=by simp [c9,c]
   rw [this]
   refine hm.mono (fun _ x=>x) hw J2 (fun g cc e=>?_)
   have xN:=Uk κ' b' g cc mV e
   rw [e] at hm
   exact ⟨Cf.block g hm.at.lt xN,hm.at.not⟩
 ·simp only [M.set] at h1 h2
  by_cases c1:κ1=κ
  ·by_cases c2:κ2=κ
   ·rw [c1,c2]
   ·simp only [c1,c9,if_true,Option.some.injEq,Prod.mk.injEq] at h3
    simp only [c2,if_false] at h2
    simp only [c9,c2,if_false] at h4
    exact absurd h3.1.symm (Uk κ2 b2 g c' h2 h4)
  ·simp only [c1,if_false] at h1
   simp only [c9,c1,if_false] at h3
   by_cases c2:κ2=κ
   ·simp only [c2,c9,if_true,Option.some.injEq,Prod.mk.injEq] at h4
    exact absurd h4.1.symm (Uk κ1 b1 g c h1 h3)
   ·simp only [c2,if_false] at h2
    simp only [c9,c2,if_false] at h4
    exact h.inj κ1 κ2 b1 b2 g c c' h1 h2 h3 h4
 ·simp only [M.set] at h1
  by_cases c1:κ'=κ
  ·simp only [c1,c9,if_true,Option.some.injEq,Prod.mk.injEq] at h2
   rw [← h2.1]
   exact DL
  ·simp only [c1,if_false] at h1
   simp only [c9,c1,if_false] at h2
   exact h.own κ' b' g c h1 h2
 ·refine h.kept.trans Cf (fun q hq e=>?_)
  subst e
  rcases DL with h1 | h1
  ·omega
  ·exact h1
theorem c6.Hb (h:c6 C A a w S μ ν) {κ:Nat} (hf:jW A κ) (e k:Nat) (f:Nat→List D):c6 C (A.set κ (some (.row e k 0 f))) a w S (c9 μ κ (some none)) ν:=by
 have h0:=h.forget hf
 have J2:∀ k y,(if k=κ then none else μ k)=some y→c9 μ κ (some none) k=some y:=by
  intro k y hy
  by_cases c:k=κ
  ·simp [c] at hy
  ·simpa [c9,c] using hy
 refine ⟨h.tmps,h.defers,fun t=>(h0.dV t).mono (fun _ x=>x) (fun _ _=>rfl) J2,fun κ' b' mV=>?_,fun κ1 κ2 b1 b2 g c c' h1 h2 h3 h4=>?_,fun κ' b' g c h1 h2=>?_,h.eP,h.fresh,h.bound,h.kept⟩
 ·simp only [M.set] at mV
  by_cases c:κ'=κ
  ·simp only [c,if_true,Option.some.injEq] at mV
   subst mV
   rw [c]
   simp only [c9,if_true]
   rfl
  ·simp only [c,if_false] at mV
   have hm:=h0.mem κ' b' mV
   simp only [c,if_false] at hm
   have:c9 μ κ (some none) κ'=μ κ':=by simp [c9,c]
   rw [this]
   refine hm.mono (fun _ x=>x) (fun _ _=>rfl) J2 (fun g cc e=>⟨rfl,?_⟩)
   rw [e] at hm
   exact hm.at.not
 ·simp only [M.set] at h1 h2
  have n1:κ1≠κ:=fun e=>by simp [e,c9] at h3
  have n2:κ2≠κ:=fun e=>by simp [e,c9] at h4
  simp only [n1,n2,if_false] at h1 h2
  simp only [c9,n1,n2,if_false] at h3 h4
  exact h.inj κ1 κ2 b1 b2 g c c' h1 h2 h3 h4
 ·simp only [M.set] at h1
  have n1:κ'≠κ:=fun e=>by simp [e,c9] at h2
  simp only [n1,if_false] at h1
  simp only [c9,n1,if_false] at h2
  exact h.own κ' b' g c h1 h2
inductive aag (A:M) (w:World) (S:Nat→Prop) (μ:Mu) (e k:Nat):AV→Nat→(Nat→List D)→List (Nat × bA)→Prop
 | nil (f:Nat→List D):aag A w S μ e k (.d (.v (.slice none 0 0))) 0 f []
 | own {κ n:Nat} {f:Nat→List D} (h:A.lb κ=some (.row e k n f)):aag A w S μ e k (.own κ n) n f [(κ,.row e k n f)]
theorem E0 {o:Oper} {dst t e:Nat} {it i:TI} {s x:Operand} {dv:AV} {n m:Nat} {f g:Nat→List D} {mem:List (Nat × bA)} {need:List (Nat × AV)} {ro:List (Nat × bA)} {gs:List (Nat × Bool)} {sv:Value}
  (hs:c6 C A a w S μ ν) (hd:o.dst=some dst) (XV:dst < C.nt) (ht:DG C.P t it=true) (hk:it.kind=.slice e) (hti:DG C.P e i=true) (ho:o.op=.call { callee:=.builtin .append,args:=#[s,x],argTypes:=#[t,t] })
  (hdv:Rel w S μ ν dv (a.eval s)) (abB:aag A w S μ e i.size dv n f mem) (Ym:a.eval x=sv) {ys:List Value} (lf:OE w S i.size m g sv ys) (h63:n+m≤maxLen) (hb:(n+m) * i.bytes≤140737488355328) (hf:jW A dst) :
  o.wp C.P a w (fun a' w'=>∃ S' μ',c6 C ((Tr.mk need (some dst) (.own dst (n+m)) ro mem [(dst,.row e i.size (n+m) fun q=>if q < n then f q else g (q - n))] gs).apply A) a' w' S' μ' ν) (fun _ _ _=>False):=by
 obtain ⟨tj,z,F⟩:=aD ht
 have ur:=F.kind
 rw [hk] at ur
 have hu:=ev ur
 have fin:∀ (A':M) (xs:List Value),c6 C A' a w S μ ν→jW A' dst→(∀ t,A'.sl t=A.sl t)→(Tr.mk need (some dst) (.own dst (n+m)) ro mem [(dst,.row e i.size (n+m) fun q=>if q < n then f q else g (q - n))] gs).apply A=(A'.set dst (some (.row e i.size (n+m) fun q=>if q < n then f q else g (q - n)))).put dst (.own dst (n+m)) →
   iW w S i.size n f xs →
   ((∃ OJ,a.eval s=.slice OJ 0 0∧n=0∧xs=[])∨∃ b cap cur,a.eval s=.slice (some ⟨b,0,none⟩) n cap∧w.heap[b]? = some (.cells cur e (0,0))∧cur.size=cap * i.size∧n≤cap∧cap≤maxLen∧cur.toList.take (n * i.size)=xs∧¬ S b∧(C.w0.heap.size≤b∨C.T0 b)∧∀ κ' b' g' c,A'.lb κ'=some b'→μ κ'=some (some (g',c))→g'≠b) →
   o.wp C.P a w (fun a' w'=>∃ S' μ',c6 C ((Tr.mk need (some dst) (.own dst (n+m)) ro mem [(dst,.row e i.size (n+m) fun q=>if q < n then f q else g (q - n))] gs).apply A) a' w' S' μ' ν) (fun _ _ _=>False):=by
  intro A' xs vK hf' _ adq pd abC
  obtain ⟨v',w',gy,VZ⟩:=OI (P:=C.P) (ty:=o.type) hu hti abC lf h63 hb
  unfold Oper.wp execOp
  simp only [ho,resolve,invoke,builtin,Sem.run_bind,Sem.run_pure,Result.andThen_ok,List.map_toArray,List.map_cons,List.map_nil,Ym,gy]
  rw [adq]
  rcases VZ with ⟨OJ,rfl,h0,rfl⟩ | ⟨b,cap,cur,rfl,hg,jy,V0,N8,htk,Ro,Cf⟩
  ·have hn0:n+m=0:=h0
   refine ⟨S,c9 μ dst (some none),?_⟩
   have h1:=vK.Hb hf' e i.size (fun q=>if q < n then f q else g (q - n))
   rw [hn0]
   have h2:=h1.put (dst:=some dst) (x:=.own dst 0) (v:=.slice OJ 0 0) (fun t ht=>by cases ht; exact XV) (.cS (by simp [c9]))
   rw [hd]
   exact h2
  ·have hbS:¬ S b:=by
    rcases Ro with rfl | hQ
    ·exact fun hq=>by have:=hs.bound _ hq; omega
    ·exact hQ.1
   have DL:C.w0.heap.size≤b∨C.T0 b:=by
    rcases Ro with rfl | hQ
    ·exact .inl hs.kept.size
    ·exact hQ.2.1
   have Uk:∀ κ' b' g' c,A'.lb κ'=some b'→μ κ'=some (some (g',c))→g'≠b:=by
    rcases Ro with rfl | hQ
    ·intro κ' b' g' c h1 h2 e'
     have:=vK.mem κ' b' h1
     rw [h2] at this
     have:=this.at.lt
     omega
    ·exact hQ.2.2
   have hw:∀ q,S q→w'.heap[q]? = w.heap[q]?:=fun q hq=>Cf.block q (hs.bound q hq) (fun e=>hbS (e ▸ hq))
   have abD:iW w' S i.size (n+m) (fun q=>if q < n then f q else g (q - n)) (xs++ys):=(pd.append lf.rows).mono (fun _ x=>x) hw
   have h1:=vK.S6 hf' (blk:=.row e i.size (n+m) fun q=>if q < n then f q else g (q - n)) (by simp [bA.keys]) Cf hbS Uk DL (Ha hg hbS jy V0 N8 htk abD)
   have h2:=h1.put (dst:=some dst) (x:=.own dst (n+m)) (v:=.slice (some ⟨b,0,none⟩) (n+m) cap) (fun t ht=>by cases ht; exact XV) (.own (by simp [c9]))
   refine ⟨S,c9 μ dst (some (some (b,cap))),?_⟩
   rw [hd]
   exact h2
 cases abB with
 | nil =>
  have Oj:=cJ rfl hdv
  exact fin A [] hs hf (fun _=>rfl) (by rw [ql]) ⟨by simp,fun i hi=>absurd hi (by omega)⟩ (.inl ⟨none,Oj,rfl,rfl⟩)
 | @own κ _ _ hκ =>
  have hm:=hs.mem κ _ hκ
  have xN:dst≠κ:=fun e=>by rw [e] at hf; rw [hf.lb] at hκ; cases hκ
  generalize abE:a.eval s=sv0 at hdv
  cases hdv with
  | cS hμ =>
   rw [hμ] at hm
   exact fin (A.set κ none) [] (hs.drop κ) (hf.drop κ) (fun _=>rfl) (by rw [wW xN]) ⟨by simp,fun i hi=>absurd hi (by omega)⟩ (.inl ⟨_,abE,rfl,rfl⟩)
  | @own _ _ b cap hμ =>
   rw [hμ] at hm
   have su:=hm.at.not
   obtain ⟨cur,hg,h2,h3,h4,h5⟩:=yE hm.at
   refine fin (A.set κ none) _ (hs.drop κ) (hf.drop κ) (fun _=>rfl) (by rw [wW xN]) h5 (.inr ⟨b,cap,cur,abE,hg,h2,h3,h4,rfl,su,hs.own κ _ b cap hκ hμ,fun κ' b' g' c h1 h2 e'=>?_⟩)
   simp only [M.set] at h1
   by_cases cc:κ'=κ
   ·simp [cc] at h1
   ·simp only [cc,if_false] at h1
    subst e'
    exact cc (hs.inj κ' κ b' _ g' c cap h1 hκ h2 hμ)
theorem Hc {o:Oper} {t:Nat} {i:TI} {κ e k n p off:Nat} {f:Nat→List D} {ad x:Operand} {v:AV} {xs:List AV} {ds:List D} {need:List (Nat × AV)} {ro:List (Nat × bA)} {gs:List (Nat × Bool)} (hs:c6 C A a w S μ ν) (ht:DG C.P t i=true) (ho:o.op=.store t ad x) (hd:o.dst=none)
  (ha:Rel w S μ ν (.wM κ k p off) (a.eval ad)) (hx:Rel w S μ ν v (a.eval x)) (hκ:A.lb κ=some (.row e k n f)) (hc:v.cells=some xs) (hp:xO xs=some ds) (hlen:ds.length=i.size) (hle:off+i.size≤k) (hpn:p < n) (Cd:ds.all yb=true) (y:AV) :
  o.wp C.P a w (fun a' w'=>∃ S' μ',c6 C ((Tr.mk need none y ro [(κ,.row e k n f)] [(κ,.row e k n fun q=>if q=p then (f p).take off++ds++(f p).drop (off+i.size) else f q)] gs).apply A) a' w' S' μ' ν) (fun _ _ _=>False):=by
 have exs:=tz hp
 subst exs
 generalize Vt:a.eval ad=av at ha
 cases ha with
 | @wM _ _ _ _ g cap hμ =>
  have hm:=hs.mem κ _ hκ
  rw [hμ] at hm
  have Rg:=hm.at
  have su:=Rg.not
  obtain ⟨cur,hg,Ca,Rm,N8,pd⟩:=yE Rg
  obtain ⟨VW,VX⟩:=od hc hx
  simp only [List.length_map] at VW VX
  have Yk:(a.eval x).cells.size=i.size:=by simp at VW; omega
  have hpk:p * k+k≤n * k:=by
   calc p * k+k=(p+1) * k:=by rw [Nat.add_mul,Nat.one_mul]
    _≤n * k:=Nat.mul_le_mul_right k hpn
  have aeT:n * k≤cap * k:=Nat.mul_le_mul_right k Rm
  have gy:=EZ (w:=w) (P:=C.P) ht (g:=g) (off:=p * k+off) (v:=a.eval x) hg Yk (by omega) (fun u hu=>by
   obtain ⟨j,hj,rfl⟩:=List.getElem_of_mem hu
   have EX:j < ds.length:=by omega
   have h2:=VX j EX
   rw [show (a.eval x).cells.toList.getD j undef=(a.eval x).cells.toList[j] from by simp only [List.getD,List.getElem?_eq_getElem hj,Option.getD_some],jY ds j EX] at h2
   simp only [List.all_eq_true] at Cd
   exact Cc (Cd _ (by simp [List.getD,EX])) (iE.1 h2))
  unfold Oper.wp execOp
  simp only [ho,Sem.run_bind,Vt,gy,Result.andThen_ok,Sem.run_pure]
  refine ⟨S,μ,?_⟩
  rw [lR,hd]
  generalize Ce:(cur.toList.take (p * k+off)++(a.eval x).cells.toList++cur.toList.drop (p * k+off+i.size))=new
  have hw:∀ q,S q→(w.setRow g new.toArray).heap[q]? = w.heap[q]?:=fun q hq=>setRow_other w g q _ (fun e=>su (e ▸ hq))
  have Ul:(a.eval x).cells.toList.length=i.size:=by rw [VW]; exact hlen
  have hnl:new.length=cap * k:=by
   rw [← Ce]
   simp only [List.length_append,List.length_take,List.length_drop,Array.length_toList] at Ul ⊢
   simp only [Yk]
   omega
  have Rp:∀ j,j < cap * k→new[j]? = if j < p * k+off then cur[j]? else if j < p * k+off+i.size then (a.eval x).cells.toList[j - (p * k+off)]? else cur[j]?:=by
   intro j hj
   rw [← Ce]
   by_cases c1:j < p * k+off
   ·rw [List.append_assoc,List.getElem?_append_left (by simp; omega),List.getElem?_take,if_pos c1,if_pos c1]
    simp
   ·rw [if_neg c1]
    by_cases c2:j < p * k+off+i.size
    ·rw [if_pos c2,List.append_assoc,List.getElem?_append_right (by simp; omega),List.getElem?_append_left (by simp at Ul ⊢; omega)]
     congr 1
     simp
     omega
    ·rw [if_neg c2,List.getElem?_append_right (by simp at Ul ⊢; omega),List.getElem?_drop]
     simp only [Array.getElem?_toList]
     congr 1
     simp at Ul ⊢
     omega
  refine hs.write hκ hμ (b':=.row e k n _) ⟨new.toArray,setRow_heap w g cur _ e _ hg,su,by simpa using hnl,Rm,N8,fun q hq=>⟨?_,fun j hj=>?_⟩⟩
  ·by_cases c:q=p
   ·simp only [c,if_true,List.length_append,List.length_take,List.length_drop]
    have:=(pd.2 p hpn).1
    omega
   ·simp only [c,if_false]
    exact (pd.2 q hq).1
  ·have hqk:q * k+k≤n * k:=by
    calc q * k+k=(q+1) * k:=by rw [Nat.add_mul,Nat.one_mul]
     _≤n * k:=Nat.mul_le_mul_right k hq
   have DK:q * k+j < cap * k:=by omega
   rw [List.getElem?_toArray,Rp _ DK]
   have adr:∃ u,cur[q * k+j]? = some u∧Rd w S ((f q).getD j default) u:=by
    have eC:q * k+j < cur.size:=by omega
    refine ⟨cur[q * k+j],by simp [eC],?_⟩
    have:=(pd.2 q hq).2 j hj
    rwa [show (cur.toList.take (n * k)).getD (q * k+j) undef=cur[q * k+j] from by simp [List.getD,(by omega:q * k+j < n * k),eC]] at this
   obtain ⟨u,hu,Rl⟩:=adr
   by_cases c:q=p
   ·subst c
    simp only [if_true]
    have XX:=(pd.2 q hq).1
    by_cases c1:j < off
    ·rw [if_pos (by omega)]
     refine ⟨u,hu,?_⟩
     rw [show ((f q).take off++ds++(f q).drop (off+i.size)).getD j default=(f q).getD j default from by
      simp only [List.getD]
      rw [List.append_assoc,List.getElem?_append_left (by simp; omega),List.getElem?_take,if_pos c1]]
     exact Rl.mono (fun _ x=>x) hw
    ·rw [if_neg (by omega)]
     by_cases c2:j < off+i.size
     ·rw [if_pos (by omega)]
      have hjd:j - off < ds.length:=by omega
      have h2:=VX (j - off) hjd
      rw [jY ds _ hjd] at h2
      have eC:q * k+j - (q * k+off) < (a.eval x).cells.toList.length:=by omega
      refine ⟨_,List.getElem?_eq_getElem eC,?_⟩
      rw [show ((f q).take off++ds++(f q).drop (off+i.size)).getD j default=ds.getD (j - off) default from by
       simp only [List.getD]
       rw [List.append_assoc,List.getElem?_append_right (by simp; omega),List.getElem?_append_left (by simp; omega)]
       simp [(by omega:min off (f q).length=off)]]
      have e3:(a.eval x).cells.toList.getD (j - off) undef=(a.eval x).cells.toList[q * k+j - (q * k+off)]:=by
       have:q * k+j - (q * k+off)=j - off:=by omega
       simp only [this,List.getD]
       rw [List.getElem?_eq_getElem (by omega),Option.getD_some]
      rw [e3] at h2
      exact (iE.1 h2).mono (fun _ x=>x) hw
     ·rw [if_neg (by omega)]
      refine ⟨u,hu,?_⟩
      rw [show ((f q).take off++ds++(f q).drop (off+i.size)).getD j default=(f q).getD j default from by
       simp only [List.getD]
       rw [List.getElem?_append_right (by simp; omega),List.getElem?_drop]
       congr 2
       simp
       omega]
      exact Rl.mono (fun _ x=>x) hw
   ·simp only [c,if_false]
    have ads:q * k+j < p * k+off∨p * k+off+i.size≤q * k+j:=by
     rcases Nat.lt_or_gt_of_ne c with h1 | h1
     ·left
      have:q * k+k≤p * k:=by
       calc q * k+k=(q+1) * k:=by rw [Nat.add_mul,Nat.one_mul]
        _≤p * k:=Nat.mul_le_mul_right k h1
      omega
     ·right
      have:p * k+k≤q * k:=by
       calc p * k+k=(p+1) * k:=by rw [Nat.add_mul,Nat.one_mul]
        _≤q * k:=Nat.mul_le_mul_right k h1
      omega
    refine ⟨u,?_,Rl.mono (fun _ x=>x) hw⟩
    rcases ads with h1 | h1
    ·rw [if_pos h1]; exact hu
    ·rw [if_neg (by omega),if_neg (by omega)]; exact hu
end
def gb (P:Program) (f:FuncId):Bool :=
 match P.funcs[f]? with
 | some fn=>fn.name != "runtime.NumGoroutine"&&fn.body.isSome
 | none=>false
def Handed (cU:List (Nat × bA)) (μ:Mu) (g:Nat):Prop:=∃ κ b c,look cU κ=some b∧μ κ=some (some (g,c))
def S7 (cU:List (Nat × bA)) (μ:Mu):Prop:=∀ κ κ' b b' g c c',look cU κ=some b→look cU κ'=some b'→μ κ=some (some (g,c))→μ κ'=some (some (g,c'))→κ=κ'
structure OK (w:World) (S:Nat→Prop) (T:Nat→Prop) (res:AV) (cU:List (Nat × bA)) (v:Value) (S':Nat→Prop) (μ':Mu) (w':World):Prop where
 res:∀ ν,Rel w' S' μ' ν res v
 mem:∀ κ b,look cU κ=some b→gW w' S' μ' b (μ' κ)
 inj:S7 cU μ'
 own:∀ κ b g c,look cU κ=some b→μ' κ=some (some (g,c))→w.heap.size≤g∨T g
 sub:∀ b,S b→S' b
 new:∀ b,S' b→S b∨w.heap.size≤b∨T b
 bound:∀ b,S' b→b < w'.heap.size
 kept:Kept w w' T
theorem OK.S8 {w w':World} {S T T' S':Nat→Prop} {res:AV} {cU:List (Nat × bA)} {v:Value} {μ':Mu} (h:OK w S T res cU v S' μ' w') (hT:∀ b,T b→T' b):OK w S T' res cU v S' μ' w' :=
 ⟨h.res,h.mem,h.inj,fun κ b g c h1 h2=>(h.own κ b g c h1 h2).imp id (hT g),h.sub,fun b hb=>(h.new b hb).imp id (Or.imp id (hT b)),h.bound,h.kept.yq hT⟩
def gu (P:Program) (f:FuncId) (args:List AV) (cU:List (Nat × bA)) (res:AV) (gm:List (Nat × bA)):Prop :=
 gb P f=true∧∀ (w:World) (S:Nat→Prop) (μ:Mu) (vs:Array Value),(∀ b,S b→b < w.heap.size)→jz w S→(∀ ν,dy w S μ ν args vs.toList)→(∀ κ b,look cU κ=some b→gW w S μ b (μ κ))→S7 cU μ →
  Calls P f vs w fun e w'=>∃ v S' μ',e=.returned v∧OK w S (Handed cU μ) res gm v S' μ' w'
theorem Cg {P:Program} {w:World} {f:FuncId} (h:gb P f=true) (args:Array Value):(callFunc f args).run P w=.ok (.enter f args) w:=by
 unfold gb at h
 cases hf:P.funcs[f]? with
 | none=>rw [hf] at h; cases h
 | some fn =>
  rw [hf] at h
  simp only [Bool.and_eq_true,bne_iff_ne,ne_eq] at h
  have h2:¬ fn.body=none:=by cases hb:fn.body <;> simp_all
  simp [callFunc,hf,h.1,h2]
section
variable {C : Cx} {A : M} {a : Act} {w : World} {S : Nat → Prop} {μ : Mu} {ν : Nat → Bool}
def flat:D→Bool
 | .v _=>true
 | .agg cs=>Lc cs
 | .sl _ _=>false
where Lc:List D→Bool
 | []=>true
 | .v _ :: r=>Lc r
 | _ :: _=>false
theorem Hd:∀ (l:List D) (i:Nat),flat.Lc l=true→i < l.length→∃ x,l.getD i default=.v x
 | [],i,_,hi=>absurd hi (by simp)
 | .v x :: r,0,_,_=>⟨x,rfl⟩
 | .v x :: r,i+1,h,hi=>by simpa using Hd r i (by simpa [flat.Lc] using h) (by simpa using hi)
 | .agg _ :: r,_,h,_=>by simp [flat.Lc] at h
 | .sl _ _ :: r,_,h,_=>by simp [flat.Lc] at h
theorem S9 {d:D} (h:flat d=true) {w':World} {S':Nat→Prop} {x:Value} (hr:Rd w S d x):Rd w' S' d x:=by
 cases hr with
 | v _ hs=>exact .v _ hs
 | agg cs vs hl hh =>
  refine .agg cs vs hl (fun i hi=>?_)
  obtain ⟨y,hy⟩:=Hd cs i (by simpa [flat] using h) hi
  have:=hh i hi
  rw [hy] at this ⊢
  cases this with
  | v _ hs=>exact .v _ hs
 | nil=>simp [flat] at h
 | sl=>simp [flat] at h
def fH:AV→Bool
 | .d x=>flat x
 | .fL l=>lS l
 | _=>false
where lS:List AV→Bool
 | []=>true
 | .d x :: r=>flat x&&lS r
 | _ :: _=>false
theorem E1:∀ (l:List AV) (i:Nat),fH.lS l=true→i < l.length→∃ x,l.getD i default=.d x∧flat x=true
 | [],i,_,hi=>absurd hi (by simp)
 | .d x :: r,0,h,_=>⟨x,rfl,by simp only [fH.lS,Bool.and_eq_true] at h; exact h.1⟩
 | .d x :: r,i+1,h,hi=>by
  simp only [fH.lS,Bool.and_eq_true] at h
  simpa using E1 r i h.2 (by simpa using hi)
 | .any :: r,_,h,_=>by simp [fH.lS] at h
 | .own _ _ :: r,_,h,_=>by simp [fH.lS] at h
 | .ptr _ _ :: r,_,h,_=>by simp [fH.lS] at h
 | .wM _ _ _ _ :: r,_,h,_=>by simp [fH.lS] at h
 | .ref _ :: r,_,h,_=>by simp [fH.lS] at h
 | .yj _ _ :: r,_,h,_=>by simp [fH.lS] at h
 | .vE _ :: r,_,h,_=>by simp [fH.lS] at h
 | .zN _ _ :: r,_,h,_=>by simp [fH.lS] at h
 | .fn _ _ :: r,_,h,_=>by simp [fH.lS] at h
 | .fL _ :: r,_,h,_=>by simp [fH.lS] at h
 | .ag _ :: r,_,h,_=>by simp [fH.lS] at h
 | .g _ _ :: r,_,h,_=>by simp [fH.lS] at h
theorem Ld {x:AV} (h:fH x=true) {w':World} {S':Nat→Prop} {μ':Mu} {ν':Nat→Bool} {v:Value} (hr:Rel w S μ ν x v):Rel w' S' μ' ν' x v:=by
 cases hr with
 | d hd=>exact .d (S9 (by simpa [fH] using h) hd)
 | fL hl hh =>
  refine .fL hl (fun i hi=>?_)
  obtain ⟨y,hy,hf⟩:=E1 _ i (by simpa [fH] using h) hi
  have:=hh i hi
  rw [hy] at this ⊢
  exact .d (S9 hf (iE.1 this))
 | any=>simp [fH] at h
 | cS=>simp [fH] at h
 | own=>simp [fH] at h
 | ptr=>simp [fH] at h
 | wM=>simp [fH] at h
 | ref=>simp [fH] at h
 | yj=>simp [fH] at h
 | vE=>simp [fH] at h
 | zN=>simp [fH] at h
 | fn=>simp [fH] at h
 | ag=>simp [fH] at h
 | g=>simp [fH] at h
abbrev BR (α:Type):=Option (α × List (Nat × bA) × Ob)
def L6 (lb:List (Nat × bA)):AV→BR D
 | .d x=>some (x,[],.tt)
 | .yj n f=>some (.sl n f,[],.tt)
 | .own κ n=>(match look lb κ with | some (.row e k m f)=>some (.sl n f,[(κ,.row e k m f)],.ne n m) | _=>none)
 | _=>none
def AY (lb:List (Nat × bA)):List AV→BR (List D)
 | []=>some ([],[],.tt)
 | x :: r=>(match L6 lb x,AY lb r with | some (y,ro,ob),some (l,Lb,B3)=>some (y :: l,ro++Lb,ob.and B3) | _,_=>none)
def yF (lb:List (Nat × bA)):AV→BR AV
 | .ref cs=>some (.ref cs,[],.tt)
 | .ptr κ off=>(match look lb κ with
  | some (.box cs)=>(match AY lb cs with | some (ds,ro,ob)=>some (.ref (ds.drop off),(κ,.box cs) :: ro,ob) | none=>none)
  | _=>none)
 | .ag l=>(match AY lb l with | some (ds,ro,ob)=>some (.d (.agg ds),ro,ob) | none=>none)
 | .vE κ=>(match look lb κ with | some (.mp n f)=>some (.zN n f,[(κ,.mp n f)],.tt) | some (.mx _)=>some (.any,[],.tt) | _=>none)
 | .zN n f=>some (.zN n f,[],.tt)
 | x=>(match L6 lb x with | some (y,ro,ob)=>some (.d y,ro,ob) | none=>none)
def wX (lb:List (Nat × bA)):List AV→BR (List AV)
 | []=>some ([],[],.tt)
 | x :: r=>(match yF lb x,wX lb r with | some (y,ro,ob),some (l,Lb,B3)=>some (y :: l,ro++Lb,ob.and B3) | _,_=>none)
def yc (lb:List (Nat × bA)):AV→BR AV
 | .fn f cE=>(match wX lb cE with | some (l,ro,ob)=>some (.fn f l,ro,ob) | none=>none)
 | x=>yF lb x
def vN (lb:List (Nat × bA)):List AV→BR (List AV)
 | []=>some ([],[],.tt)
 | x :: r=>(match yc lb x,vN lb r with | some (y,ro,ob),some (l,Lb,B3)=>some (y :: l,ro++Lb,ob.and B3) | _,_=>none)
theorem Ta (hs:c6 C A a w S μ ν) {S':Nat→Prop} (hS:∀ b,S b→S' b) (hO:∀ κ b g c,A.lb κ=some b→μ κ=some (some (g,c))→S' g) {lb:List (Nat × bA)} {x:AV} {y:D} {ro:List (Nat × bA)} {ob:Ob} (h:L6 lb x=some (y,ro,ob)) (mi:∀ p,p∈ro→A.lb p.1=some p.2) (bX:ob.den) {v:Value} (hr:Rel w S μ ν x v):Rd w S' y v:=by
 unfold L6 at h
 split at h
 ·simp only [Option.some.injEq,Prod.mk.injEq] at h
  obtain ⟨rfl,-,-⟩:=h
  exact (iE.1 hr).mono hS (fun _ _=>rfl)
 ·simp only [Option.some.injEq,Prod.mk.injEq] at h
  obtain ⟨rfl,-,-⟩:=h
  cases hr with
  | yj hd=>exact hd.mono hS (fun _ _=>rfl)
 ·rename_i κ n
  split at h
  ·rename_i e k m f hl
   simp only [Option.some.injEq,Prod.mk.injEq] at h
   obtain ⟨rfl,rfl,rfl⟩:=h
   simp only [Ob.den] at bX
   have hm:=hs.mem κ _ (mi (κ,.row e k m f) (by simp))
   cases hr with
   | @cS _ ad =>
    cases ad with
    | none=>exact .nil f
    | some ad=>exact .sl 0 f ad 0 0 (fun _ _=>undef) (Nat.le_refl _) (by simp [maxLen]) (.inl rfl) (fun i hi=>absurd hi (by omega)) (fun i j hi=>absurd hi (by omega)) (fun i j hi=>absurd hi (by omega))
   | @own _ _ g cap hμ =>
    rw [hμ] at hm
    have eC:=hO κ _ g cap (mi (κ,.row e k m f) (by simp)) hμ
    obtain ⟨cur,hg,_,jy,hn,hc,pd⟩:=hm.at
    refine .sl n f ⟨g,0,none⟩ cap k (fun i j=>(cur[i * k+j]?).getD undef) (by omega) hc (.inr rfl) (fun i hi=>(pd i (by omega)).1) (fun i j hi hj=>⟨eC,?_⟩) (fun i j hi hj=>?_)
    ·obtain ⟨u,hu,_⟩:=(pd i (by omega)).2 j hj
     rw [Nat.zero_add,gA w g _ cur e _ hg,hu]
     rfl
    ·obtain ⟨u,hu,Rl⟩:=(pd i (by omega)).2 j hj
     rw [hu]
     exact Rl.mono hS (fun _ _=>rfl)
  ·cases h
 ·cases h
theorem He (hs:c6 C A a w S μ ν) {S':Nat→Prop} (hS:∀ b,S b→S' b) (hO:∀ κ b g c,A.lb κ=some b→μ κ=some (some (g,c))→S' g) {lb:List (Nat × bA)}:∀ {xs:List AV} {ys:List D} {ro:List (Nat × bA)} {ob:Ob},AY lb xs=some (ys,ro,ob)→(∀ p,p∈ro→A.lb p.1=some p.2)→ob.den→∀ {vs:List Value},dy w S μ ν xs vs →
  ys.length=xs.length∧∀ i,i < ys.length→Rd w S' (ys.getD i default) (vs.getD i undef)
 | [],ys,ro,ob,h,_,_,vs,_=>by
  simp only [AY,Option.some.injEq,Prod.mk.injEq] at h
  obtain ⟨rfl,-,-⟩:=h
  exact ⟨rfl,fun i hi=>absurd hi (by simp)⟩
 | x :: r,ys,ro,ob,h,mi,bX,vs,hr=>by
  simp only [AY] at h
  cases h1:L6 lb x with
  | none=>rw [h1] at h; cases h
  | some p =>
   obtain ⟨y,ro1,Aw⟩:=p
   cases h2:AY lb r with
   | none=>rw [h1,h2] at h; cases h
   | some q =>
    obtain ⟨l,ro2,Fw⟩:=q
    rw [h1,h2] at h
    simp only [Option.some.injEq,Prod.mk.injEq] at h
    obtain ⟨rfl,rfl,rfl⟩:=h
    have hr0:=hr.2 0 (by simp)
    match vs,hr with
    | [],hr=>have:=hr.1; simp at this
    | v :: vs,hr =>
     have ht:dy w S μ ν r vs:=⟨by simpa using hr.1,fun i hi=>by simpa using hr.2 (i+1) (by simpa using hi)⟩
     obtain ⟨i1,i2⟩:=He hs hS hO h2 (fun p hp=>mi p (List.mem_append.2 (.inr hp))) (Ob.cH bX).2 ht
     refine ⟨by simp [i1],fun i hi=>?_⟩
     cases i with
     | zero=>simpa using Ta hs hS hO h1 (fun p hp=>mi p (List.mem_append.2 (.inl hp))) (Ob.cH bX).1 (by simpa using hr.2 0 (by simp))
     | succ i=>simpa using i2 i (by simpa using hi)
theorem gP (hs:c6 C A a w S μ ν) {S':Nat→Prop} (hS:∀ b,S b→S' b) (hO:∀ κ b g c,A.lb κ=some b→μ κ=some (some (g,c))→S' g) {lb:List (Nat × bA)} {x y:AV} {ro:List (Nat × bA)} {ob:Ob} (h:yF lb x=some (y,ro,ob)) (mi:∀ p,p∈ro→A.lb p.1=some p.2) (bX:ob.den) {v:Value} (hr:Rel w S μ ν x v) (μ':Mu) (ν':Nat→Bool):Rel w S' μ' ν' y v:=by
 have other:(match L6 lb x with | some (y,ro,ob)=>some (AV.d y,ro,ob) | none=>none)=some (y,ro,ob)→Rel w S' μ' ν' y v:=fun h=>by
  cases h1:L6 lb x with
  | none=>rw [h1] at h; cases h
  | some p =>
   obtain ⟨y',ro1,Aw⟩:=p
   rw [h1] at h
   simp only [Option.some.injEq,Prod.mk.injEq] at h
   obtain ⟨rfl,rfl,rfl⟩:=h
   exact .d (Ta hs hS hO h1 mi bX hr)
 cases x with
 | ref cs =>
  simp only [yF,Option.some.injEq,Prod.mk.injEq] at h
  obtain ⟨rfl,-,-⟩:=h
  cases hr with
  | ref fV bW h=>exact .ref fV (fun j hj=>⟨hS _ (bW j hj).1,(bW j hj).2⟩) (fun j hj=>(h j hj).mono hS (fun _ _=>rfl))
 | ptr κ off =>
  simp only [yF] at h
  split at h
  ·rename_i cs hl
   split at h
   ·rename_i ds Lb B3 hb
    simp only [Option.some.injEq,Prod.mk.injEq] at h
    obtain ⟨rfl,rfl,rfl⟩:=h
    cases hr with
    | @ptr _ _ g cap hμ =>
     have hm:=hs.mem κ _ (mi (κ,.box cs) (by simp))
     rw [hμ] at hm
     have eC:=hO κ _ g cap (mi (κ,.box cs) (by simp)) hμ
     obtain ⟨cur,e,hg,_,jy,pd⟩:=hm.at
     have hrl:dy w S μ ν cs cur.toList:=⟨by simpa using jy,fun i hi=>by
      obtain ⟨u,hu,Rl⟩:=pd i hi
      rw [show cur.toList.getD i undef=u from by simp [List.getD,hu]]
      exact Rl ν⟩
     obtain ⟨i1,i2⟩:=He hs hS hO hb (fun p hp=>mi p (List.mem_cons_of_mem _ hp)) bX hrl
     refine .ref (fun j=>cur.toList.getD (off+j) undef) (fun j hj=>⟨eC,?_⟩) (fun j hj=>?_)
     ·simp only [List.length_drop] at hj
      rw [gA w g _ cur e _ hg]
      have:off+j < cur.size:=by omega
      simp [List.getD,this]
     ·simp only [List.length_drop] at hj
      rw [show (ds.drop off).getD j default=ds.getD (off+j) default from by simp [List.getD]]
      exact i2 (off+j) (by omega)
   ·cases h
  ·cases h
 | ag l =>
  simp only [yF] at h
  split at h
  ·rename_i ds Lb B3 hb
   simp only [Option.some.injEq,Prod.mk.injEq] at h
   obtain ⟨rfl,rfl,rfl⟩:=h
   cases hr with
   | @ag _ vs hl hh =>
    obtain ⟨i1,i2⟩:=He hs hS hO hb mi bX (vs:=vs.toList) ⟨by rw [Array.length_toList]; exact hl,fun i hi=>by rw [← cN]; exact hh i hi⟩
    exact .d (.agg ds vs (by omega) (fun i hi=>by rw [cN]; exact i2 i hi))
  ·cases h
 | any=>exact other h
 | d=>exact other h
 | own=>exact other h
 | wM=>exact other h
 | yj=>exact other h
 | zN n f =>
  simp only [yF,Option.some.injEq,Prod.mk.injEq] at h
  obtain ⟨rfl,-,-⟩:=h
  cases hr with
  | zN h=>exact .zN (h.mono hS (fun _ _=>rfl))
 | vE κ =>
  simp only [yF] at h
  split at h
  ·rename_i n f hl
   simp only [Option.some.injEq,Prod.mk.injEq] at h
   obtain ⟨rfl,rfl,rfl⟩:=h
   have hκ:=mi (κ,.mp n f) (by simp)
   cases hr with
   | @vE _ g cap hμ =>
    have hm:=hs.mem κ _ hκ
    rw [hμ] at hm
    obtain ⟨cur,h1,_,h2,h3⟩:=hm.at
    refine .zN ⟨hO κ _ g cap hκ hμ,cur,h1,h2,fun i hi=>?_⟩
    obtain ⟨e,q1,q2,q3,q4,q5⟩:=h3 i hi
    exact ⟨e,q1,q2,q3,q4,q5.mono hS (fun _ _=>rfl)⟩
  ·simp only [Option.some.injEq,Prod.mk.injEq] at h
   obtain ⟨rfl,-,-⟩:=h
   exact .any _
  ·cases h
 | fn=>exact other h
 | fL=>exact other h
 | g=>exact other h
theorem Hf (hs:c6 C A a w S μ ν) {S':Nat→Prop} (hS:∀ b,S b→S' b) (hO:∀ κ b g c,A.lb κ=some b→μ κ=some (some (g,c))→S' g) {lb:List (Nat × bA)} (μ':Mu) (ν':Nat→Bool):∀ {xs ys:List AV} {ro:List (Nat × bA)} {ob:Ob},wX lb xs=some (ys,ro,ob)→(∀ p,p∈ro→A.lb p.1=some p.2)→ob.den→∀ {vs:List Value},dy w S μ ν xs vs →
  dy w S' μ' ν' ys vs
 | [],ys,ro,ob,h,_,_,vs,hr=>by
  simp only [wX,Option.some.injEq,Prod.mk.injEq] at h
  obtain ⟨rfl,-,-⟩:=h
  exact ⟨hr.1,fun i hi=>absurd hi (by simp)⟩
 | x :: r,ys,ro,ob,h,mi,bX,vs,hr=>by
  simp only [wX] at h
  cases h1:yF lb x with
  | none=>rw [h1] at h; cases h
  | some p =>
   obtain ⟨y,ro1,Aw⟩:=p
   cases h2:wX lb r with
   | none=>rw [h1,h2] at h; cases h
   | some q =>
    obtain ⟨l,ro2,Fw⟩:=q
    rw [h1,h2] at h
    simp only [Option.some.injEq,Prod.mk.injEq] at h
    obtain ⟨rfl,rfl,rfl⟩:=h
    match vs,hr with
    | [],hr=>have:=hr.1; simp at this
    | v :: vs,hr =>
     have ht:dy w S μ ν r vs:=⟨by simpa using hr.1,fun i hi=>by simpa using hr.2 (i+1) (by simpa using hi)⟩
     have ih:=Hf hs hS hO μ' ν' h2 (fun p hp=>mi p (List.mem_append.2 (.inr hp))) (Ob.cH bX).2 ht
     refine ⟨by simpa using ih.1,fun i hi=>?_⟩
     cases i with
     | zero=>simpa using gP hs hS hO h1 (fun p hp=>mi p (List.mem_append.2 (.inl hp))) (Ob.cH bX).1 (by simpa using hr.2 0 (by simp)) μ' ν'
     | succ i=>simpa using ih.2 i (by simpa using hi)
theorem V1 (hs:c6 C A a w S μ ν) {S':Nat→Prop} (hS:∀ b,S b→S' b) (hO:∀ κ b g c,A.lb κ=some b→μ κ=some (some (g,c))→S' g) {lb:List (Nat × bA)} {x y:AV} {ro:List (Nat × bA)} {ob:Ob} (h:yc lb x=some (y,ro,ob)) (mi:∀ p,p∈ro→A.lb p.1=some p.2) (bX:ob.den) {v:Value} (hr:Rel w S μ ν x v) (μ':Mu) (ν':Nat→Bool):Rel w S' μ' ν' y v:=by
 cases x with
 | fn f cE =>
  simp only [yc] at h
  split at h
  ·rename_i l Lb B3 hb
   simp only [Option.some.injEq,Prod.mk.injEq] at h
   obtain ⟨rfl,rfl,rfl⟩:=h
   cases hr with
   | @fn _ _ vs hl hh =>
    obtain ⟨i1,i2⟩:=Hf hs hS hO μ' ν' hb mi bX (vs:=vs.toList) ⟨by simpa using hl,fun i hi=>by rw [← cN]; exact hh i hi⟩
    exact .fn (by simpa using i1) (fun i hi=>by rw [cN]; exact i2 i hi)
  ·cases h
 | any=>exact gP hs hS hO (lb:=lb) (by simpa only [yc] using h) mi bX hr μ' ν'
 | d=>exact gP hs hS hO (lb:=lb) (by simpa only [yc] using h) mi bX hr μ' ν'
 | own=>exact gP hs hS hO (lb:=lb) (by simpa only [yc] using h) mi bX hr μ' ν'
 | ptr=>exact gP hs hS hO (lb:=lb) (by simpa only [yc] using h) mi bX hr μ' ν'
 | wM=>exact gP hs hS hO (lb:=lb) (by simpa only [yc] using h) mi bX hr μ' ν'
 | ref=>exact gP hs hS hO (lb:=lb) (by simpa only [yc] using h) mi bX hr μ' ν'
 | yj=>exact gP hs hS hO (lb:=lb) (by simpa only [yc] using h) mi bX hr μ' ν'
 | vE=>exact gP hs hS hO (lb:=lb) (by simpa only [yc] using h) mi bX hr μ' ν'
 | zN=>exact gP hs hS hO (lb:=lb) (by simpa only [yc] using h) mi bX hr μ' ν'
 | fL=>exact gP hs hS hO (lb:=lb) (by simpa only [yc] using h) mi bX hr μ' ν'
 | ag=>exact gP hs hS hO (lb:=lb) (by simpa only [yc] using h) mi bX hr μ' ν'
 | g=>exact gP hs hS hO (lb:=lb) (by simpa only [yc] using h) mi bX hr μ' ν'
theorem DM (hs:c6 C A a w S μ ν) {S':Nat→Prop} (hS:∀ b,S b→S' b) (hO:∀ κ b g c,A.lb κ=some b→μ κ=some (some (g,c))→S' g) {lb:List (Nat × bA)} (μ':Mu) (ν':Nat→Bool):∀ {xs ys:List AV} {ro:List (Nat × bA)} {ob:Ob},vN lb xs=some (ys,ro,ob)→(∀ p,p∈ro→A.lb p.1=some p.2)→ob.den→∀ {vs:List Value},dy w S μ ν xs vs →
  dy w S' μ' ν' ys vs
 | [],ys,ro,ob,h,_,_,vs,hr=>by
  simp only [vN,Option.some.injEq,Prod.mk.injEq] at h
  obtain ⟨rfl,-,-⟩:=h
  exact ⟨hr.1,fun i hi=>absurd hi (by simp)⟩
 | x :: r,ys,ro,ob,h,mi,bX,vs,hr=>by
  simp only [vN] at h
  cases h1:yc lb x with
  | none=>rw [h1] at h; cases h
  | some p =>
   obtain ⟨y,ro1,Aw⟩:=p
   cases h2:vN lb r with
   | none=>rw [h1,h2] at h; cases h
   | some q =>
    obtain ⟨l,ro2,Fw⟩:=q
    rw [h1,h2] at h
    simp only [Option.some.injEq,Prod.mk.injEq] at h
    obtain ⟨rfl,rfl,rfl⟩:=h
    match vs,hr with
    | [],hr=>have:=hr.1; simp at this
    | v :: vs,hr =>
     have ht:dy w S μ ν r vs:=⟨by simpa using hr.1,fun i hi=>by simpa using hr.2 (i+1) (by simpa using hi)⟩
     have ih:=DM hs hS hO μ' ν' h2 (fun p hp=>mi p (List.mem_append.2 (.inr hp))) (Ob.cH bX).2 ht
     refine ⟨by simpa using ih.1,fun i hi=>?_⟩
     cases i with
     | zero=>simpa using V1 hs hS hO h1 (fun p hp=>mi p (List.mem_append.2 (.inl hp))) (Ob.cH bX).1 (by simpa using hr.2 0 (by simp)) μ' ν'
     | succ i=>simpa using ih.2 i (by simpa using hi)
theorem wY {P:Program} {o:Oper} {cf:Operand} {xs:Array Operand} {ts:Array TypeId} (ho:o.op=.call { callee:=.value cf,args:=xs,argTypes:=ts }) {f:FuncId} {zT:Array Value} (Um:a.eval cf=.func (.func f) #[] zT) (hc:gb P f=true) :
  (execOp a.eval o).run P w=.ok (.enter f (xs.map a.eval++zT)) w:=by
 simp only [execOp,ho,resolve,Um,Deferred.ofValue,Sem.run_bind,Sem.run_pure,Result.andThen_ok,invoke,Array.empty_append]
 exact Cg hc _
theorem Hg {o:Oper} {cf:Operand} {xs:Array Operand} {ts:Array TypeId} {f:FuncId} {args cE E2:List AV} {res:AV} {ro:List (Nat × bA)} {ob:Ob} {lb:List (Nat × bA)} {τ:Tr}
  (hs:c6 C A a w S μ ν) (hd:∀ t,o.dst=some t→t < C.nt) (ho:o.op=.call { callee:=.value cf,args:=xs,argTypes:=ts }) (Um:Rel w S μ ν (.fn f cE) (a.eval cf)) (lr:dy w S μ ν args (xs.toList.map a.eval))
  (hb:vN lb (args++cE)=some (E2,ro,ob)) (mi:∀ p,p∈ro→A.lb p.1=some p.2) (bX:ob.den) (Un:gu C.P f E2 [] res []) (XX:fH res=true)
  (h0:τ.v=res) (h1:τ.dst=o.dst) (h2:τ.mem=[]) (h3:τ.fF=[]) :
  o.wp C.P a w (fun a' w'=>∃ S' μ',c6 C (τ.apply A) a' w' S' μ' ν) (fun _ _ _=>False):=by
 generalize hcv:a.eval cf=cv at Um
 cases Um with
 | @fn _ _ zT hl hh =>
  unfold Oper.wp
  rw [wY ho hcv Un.1]
  have pa:dy w S μ ν (args++cE) (xs.map a.eval++zT).toList:=by
   rw [Array.toList_append,Array.toList_map]
   exact lr.append ⟨by simpa using hl,fun i hi=>by rw [← cN]; exact hh i hi⟩
  refine (Un.2 w (fun b=>b < w.heap.size) (fun _=>none) (xs.map a.eval++zT) (fun b hb=>hb) (hs.yt.mono hs.bound (fun _ _=>rfl)) (fun ν'=>DM hs hs.bound (fun κ b g c h1 h2=>by have:=hs.mem κ b h1; rw [h2] at this; exact this.at.lt) _ ν' hb mi bX pa) (fun κ b hk=>by simp [look] at hk) (fun κ κ' b b' g c c' hk=>by simp [look] at hk)).mono ?_
  rintro e w' ⟨v,S',μ',rfl,B⟩
  have hk:Kept w w' (fun _=>False):=⟨B.kept.os,B.kept.tape,B.kept.output,B.kept.size,fun b hb _=>B.kept.block b hb (fun ⟨κ,b',c,hx,_⟩=>by simp [look] at hx)⟩
  have h4:=hs.world (S':=S) (fun _ x=>x) (fun _ x=>.inl x) hk
  have h5:=h4.put (dst:=o.dst) (x:=res) (v:=v) hd (Ld XX (B.res ν))
  refine ⟨S,μ,?_⟩
  have e:τ.apply A=A.vI o.dst res:=by
   unfold Tr.apply M.vI M.put
   rw [h0,h1,h2,h3]
   cases ho:o.dst with
   | none=>simp [look]
   | some d =>
    simp only [look,List.map_nil,List.not_mem_nil,if_false,Option.some.injEq]
    congr 1
    funext t
    by_cases c:d=t
    ·simp [c]
    ·have:¬ t=d:=fun e=>c e.symm
     simp [c,this]
  rw [e]
  exact h5
end
section
variable {C : Cx} {A : M} {a : Act} {w : World} {S : Nat → Prop} {μ : Mu} {ν : Nat → Bool}
theorem AV.vO {k:Nat}:∀ (l:List AV) (i:Nat),i < l.length→k∈(l.getD i default).keys→k∈AV.qe l
 | [],i,hi,_=>absurd hi (by simp)
 | a :: r,0,_,h=>by simp only [AV.qe,List.mem_append]; exact .inl (by simpa using h)
 | a :: r,i+1,hi,h=>by simp only [AV.qe,List.mem_append]; exact .inr (AV.vO r i (by simpa using hi) (by simpa using h))
theorem Rel.agree {μ':Mu} {x:AV} {v:Value} (h:Rel w S μ ν x v) (hk:∀ k,k∈x.keys→μ' k=μ k):Rel w S μ' ν x v:=by
 induction h with
 | any x=>exact .any x
 | d h=>exact .d h
 | @cS key _ h=>exact .cS (by rw [hk key (by simp [AV.keys])]; exact h)
 | @own key _ _ _ h=>exact .own (by rw [hk key (by simp [AV.keys])]; exact h)
 | @ptr key _ _ _ h=>exact .ptr (by rw [hk key (by simp [AV.keys])]; exact h)
 | @wM key _ _ _ _ _ h=>exact .wM (by rw [hk key (by simp [AV.keys])]; exact h)
 | ref fV bW h=>exact .ref fV bW h
 | yj h=>exact .yj h
 | @vE key _ _ h=>exact .vE (by rw [hk key (by simp [AV.keys])]; exact h)
 | zN h=>exact .zN h
 | @fn _ cE _ hl _ ih=>exact .fn hl (fun i hi=>ih i hi (fun k fW=>hk k (by simp only [AV.keys]; exact AV.vO cE i hi fW)))
 | @fL l _ hl _ ih=>exact .fL hl (fun i hi=>ih i hi (fun k fW=>hk k (by simp only [AV.keys]; exact AV.vO l i hi fW)))
 | @ag l _ hl _ ih=>exact .ag hl (fun i hi=>ih i hi (fun k fW=>hk k (by simp only [AV.keys]; exact AV.vO l i hi fW)))
 | g _ h0 ih=>exact .g (fun hp=>ih hp (fun k fW=>hk k (by simpa [AV.keys] using fW))) h0
theorem dK.agree {μ':Mu} {b:bA} {g cap:Nat} (h:dK w S μ b g cap) (hk:∀ k,k∈b.keys→μ' k=μ k):dK w S μ' b g cap:=by
 cases b with
 | box cs =>
  obtain ⟨cur,e,h1,h0,h2,h6⟩:=h
  refine ⟨cur,e,h1,h0,h2,fun j hj=>?_⟩
  obtain ⟨x,hx,hr⟩:=h6 j hj
  exact ⟨x,hx,fun ν=>(hr ν).agree (fun k fW=>hk k (AV.vO _ j hj fW))⟩
 | row e k n f=>exact h
 | mp n f=>exact h
 | it mk n seen =>
  obtain ⟨mg,c,h0,h1⟩:=h
  exact ⟨mg,c,by rw [hk mk (by simp [bA.keys])]; exact h0,h1⟩
 | mx=>exact h
theorem gW.agree {μ':Mu} {b:bA} {y:Option (Option (Nat × Nat))} (h:gW w S μ b y) (hk:∀ k,k∈b.keys→μ' k=μ k):gW w S μ' b y:=by
 cases y with
 | none=>cases b <;> exact h
 | some y =>
  cases y with
  | none=>cases b <;> exact h
  | some gc=>obtain ⟨g,c⟩:=gc; exact (h.at.agree hk).ok
theorem dy.nu {ν':Nat→Bool} {l:List AV} {vs:List Value} (h:dy w S μ ν l vs) (hn:uu.ni l=true):dy w S μ ν' l vs:=⟨h.1,fun i hi=>(h.2 i hi).nu (qm l i hn hi)⟩
theorem Uo {o:Oper} {cf:Operand} {xs:Array Operand} {ts:Array TypeId} {f:FuncId} {args cE:List AV} {res:AV} {cU gm:List (Nat × bA)} {need:List (Nat × AV)} {ro:List (Nat × bA)} {gs:List (Nat × Bool)}
  (hs:c6 C A a w S μ ν) (hd:∀ t,o.dst=some t→t < C.nt) (ho:o.op=.call { callee:=.value cf,args:=xs,argTypes:=ts }) (Um:Rel w S μ ν (.fn f cE) (a.eval cf)) (lr:dy w S μ ν args (xs.toList.map a.eval)) (hn:uu.ni (args++cE)=true)
  (Un:gu C.P f (args++cE) cU res gm) (Q7:∀ p,p∈cU→A.lb p.1=some p.2) (vG:∀ k,k∈gm.map (·.1)→jW A k) (L7:∀ k,k∈res.keys→k∈gm.map (·.1)) (DN:∀ p,p∈gm→∀ k,k∈p.2.keys→k∈gm.map (·.1)) :
  o.wp C.P a w (fun a' w'=>∃ S' μ',c6 C ((Tr.mk need o.dst res ro cU gm gs).apply A) a' w' S' μ' ν) (fun _ _ _=>False):=by
 generalize hcv:a.eval cf=cv at Um
 cases Um with
 | @fn _ _ zT hl hh =>
  unfold Oper.wp
  rw [wY ho hcv Un.1]
  have pa:dy w S μ ν (args++cE) (xs.map a.eval++zT).toList:=by
   rw [Array.toList_append,Array.toList_map]
   exact lr.append ⟨by simpa using hl,fun i hi=>by rw [← cN]; exact hh i hi⟩
  have vc:∀ κ b,look cU κ=some b→A.lb κ=some b:=fun κ b h=>Q7 (κ,b) (iV h)
  refine (Un.2 w S μ (xs.map a.eval++zT) hs.bound hs.yt (fun ν'=>pa.nu hn) (fun κ b hk=>hs.mem κ b (vc κ b hk)) (fun κ κ' b b' g c c' h1 h2 h3 h4=>hs.inj κ κ' b b' g c c' (vc _ _ h1) (vc _ _ h2) h3 h4)).mono ?_
  rintro e w' ⟨v,S',μ',rfl,B⟩
  have hT:∀ q,Handed cU μ q→C.w0.heap.size≤q∨C.T0 q:=fun q ⟨κ,b,c,h1,h2⟩=>hs.own κ b q c (vc κ b h1) h2
  have hTs:∀ q,Handed cU μ q→¬ S q:=fun q ⟨κ,b,c,h1,h2⟩=>by
   have:=hs.mem κ b (vc κ b h1)
   rw [h2] at this
   exact this.at.not
  have hw:∀ q,S q→w'.heap[q]? = w.heap[q]?:=fun q hq=>B.kept.block q (hs.bound q hq) (fun ht=>hTs q ht hq)
  let μ'':Mu:=fun k=>if k∈gm.map (·.1) then μ' k else μ k
  have ag:∀ k,k ∉ gm.map (·.1)→μ'' k=μ k:=fun k hk=>by simp only [μ'',hk,if_false]
  have Vu:∀ k,k∈gm.map (·.1)→μ'' k=μ' k:=fun k hk=>by simp only [μ'',hk,if_true]
  have old:∀ x v,Rel w S μ ν x v→(∀ k,k∈gm.map (·.1)→k ∉ x.keys)→Rel w' S' μ'' ν x v:=fun x v hr hk =>
   (hr.mono B.sub hw (fun _ _ e=>e)).agree (fun k hkx=>ag k (fun fW=>hk k fW hkx))
  refine ⟨S',μ'',?_⟩
  have Hh:∀ κ b,((Tr.mk need o.dst res ro cU gm gs).apply A).lb κ=some b→(look gm κ=some b∧κ∈gm.map (·.1))∨(κ ∉ gm.map (·.1)∧κ ∉ cU.map (·.1)∧A.lb κ=some b):=by
   intro κ b hb
   simp only [Tr.apply] at hb
   cases JY:look gm κ with
   | some b' =>
    rw [JY] at hb
    simp only [Option.some.injEq] at hb
    subst hb
    exact .inl ⟨rfl,qk JY⟩
   | none =>
    rw [JY] at hb
    simp only at hb
    have hnk:κ ∉ gm.map (·.1):=fun hk=>by
     obtain ⟨p,hp,e⟩:=List.mem_map.1 hk
     have:∀ (l:List (Nat × bA)),p∈l→look l κ≠none:=by
      intro l
      induction l with
      | nil=>intro h; cases h
      | cons q r ih =>
       intro h hn
       obtain ⟨q1,q2⟩:=q
       simp only [look] at hn
       cases hq:Nat.beq q1 κ with
       | true=>rw [hq] at hn; cases hn
       | false =>
        rw [hq] at hn
        rcases List.mem_cons.1 h with h' | h'
        ·subst h'
         simp only at e
         rw [e,Nat.beq_refl] at hq
         cases hq
        ·exact ih h' (by simpa using hn)
     exact this gm hp JY
    split at hb
    ·cases hb
    ·rename_i V0
     exact .inr ⟨hnk,V0,hb⟩
  have hgT:∀ κ b g c,κ ∉ cU.map (·.1)→A.lb κ=some b→μ κ=some (some (g,c))→¬ Handed cU μ g∧g < w.heap.size∧¬ S g:=by
   intro κ b g c V0 hb hμ
   have hm:=hs.mem κ b hb
   rw [hμ] at hm
   refine ⟨fun ⟨κ2,b2,c2,h1,h2⟩=>?_,hm.at.lt,hm.at.not⟩
   have:=hs.inj κ κ2 b b2 g c c2 hb (vc _ _ h1) hμ h2
   rw [this] at V0
   exact V0 (qk h1)
  refine ⟨?_,?_,fun t=>?_,fun κ b hb=>?_,fun κ1 κ2 b1 b2 g c c' h1 h2 h3 h4=>?_,fun κ b g c hb hμ=>?_,fun b hb=>B.sub b (hs.eP b hb),fun b hb=>?_,B.bound,?_⟩
  ·simp only [Act.put]; split <;> simp [hs.tmps]
  ·simp only [Act.put]; split <;> exact hs.defers
  ·simp only [Tr.apply]
   by_cases c:o.dst=some t
   ·simp only [c,if_true,Act.put]
    rw [gH _ _ _ (by rw [hs.tmps]; exact hd t c)]
    exact (B.res ν).agree (fun k hk=>Vu k (L7 k hk))
   ·simp only [c,if_false]
    have e:(a.put o.dst v).tmps.getD t undef=a.tmps.getD t undef:=by
     cases dU:o.dst with
     | none=>rfl
     | some d =>
      simp only [Act.put]
      exact cT _ _ _ _ (fun e=>c (by rw [dU,e]))
    rw [e]
    exact old _ _ (hs.dV t) (fun k hk=>(vG k hk).sl t)
  ·rcases Hh κ b hb with ⟨h1,h2⟩ | ⟨h1,h2,h3⟩
   ·rw [Vu κ h2]
    exact (B.mem κ b h1).agree (fun k hk=>Vu k (DN (κ,b) (iV h1) k hk))
   ·rw [ag κ h1]
    have hm:=hs.mem κ b h3
    refine (hm.mono B.sub hw (fun _ _ e=>e) (fun g c e=>?_)).agree (fun k hk=>ag k (fun fW=>(vG k fW).bl κ b h3 hk))
    obtain ⟨q1,q2,q3⟩:=hgT κ b g c h2 h3 e
    refine ⟨B.kept.block g q2 q1,fun vK=>?_⟩
    rcases B.new g vK with h | h | h
    ·exact q3 h
    ·omega
    ·exact q1 h
  ·rcases Hh κ1 b1 h1 with ⟨x1,x2⟩ | ⟨x1,x2,x3⟩
   ·rw [Vu κ1 x2] at h3
    rcases Hh κ2 b2 h2 with ⟨y1,y2⟩ | ⟨y1,y2,y3⟩
    ·rw [Vu κ2 y2] at h4
     exact B.inj κ1 κ2 b1 b2 g c c' x1 y1 h3 h4
    ·rw [ag κ2 y1] at h4
     obtain ⟨q1,q2,q3⟩:=hgT κ2 b2 g c' y2 y3 h4
     rcases B.own κ1 b1 g c x1 h3 with h | h
     ·omega
     ·exact absurd h q1
   ·rw [ag κ1 x1] at h3
    obtain ⟨q1,q2,q3⟩:=hgT κ1 b1 g c x2 x3 h3
    rcases Hh κ2 b2 h2 with ⟨y1,y2⟩ | ⟨y1,y2,y3⟩
    ·rw [Vu κ2 y2] at h4
     rcases B.own κ2 b2 g c' y1 h4 with h | h
     ·omega
     ·exact absurd h q1
    ·rw [ag κ2 y1] at h4
     exact hs.inj κ1 κ2 b1 b2 g c c' x3 y3 h3 h4
  ·rcases Hh κ b hb with ⟨h1,h2⟩ | ⟨h1,h2,h3⟩
   ·rw [Vu κ h2] at hμ
    rcases B.own κ b g c h1 hμ with h | h
    ·exact .inl (Nat.le_trans hs.kept.size h)
    ·exact hT g h
   ·rw [ag κ h1] at hμ
    exact hs.own κ b g c h3 hμ
  ·rcases B.new b hb with h | h | h
   ·exact hs.fresh b h
   ·exact .inr (.inl (Nat.le_trans hs.kept.size h))
   ·rcases hT b h with h' | h'
    ·exact .inr (.inl h')
    ·exact .inr (.inr h')
  ·refine hs.kept.trans B.kept (fun b hb h=>?_)
   rcases hT b h with h' | h'
   ·omega
   ·exact h'
def FnB (P:Program) (f:FuncId) (args:List AV) (cU:List (Nat × bA)) (res:AV) (gm:List (Nat × bA)) (mj:List (Nat × Nat)):Prop :=
 gb P f=true∧∀ (w:World) (S:Nat→Prop) (μ:Mu) (vs:Array Value),(∀ b,S b→b < w.heap.size)→jz w S→(∀ ν,dy w S μ ν args vs.toList)→(∀ κ b,look cU κ=some b→gW w S μ b (μ κ))→S7 cU μ →
  Calls P f vs w fun e w'=>∃ v S' μ',e=.returned v∧OK w S (Handed cU μ) res gm v S' μ' w'∧∀ p,p∈mj→∀ ν,Rel w' S' μ' ν (.ptr p.2 0) (vs.toList.getD p.1 undef)
theorem L8 {mj:List (Nat × Nat)} {o:Oper} {cf:Operand} {xs:Array Operand} {ts:Array TypeId} {f:FuncId} {args cE:List AV} {res:AV} {cU gm:List (Nat × bA)} {need:List (Nat × AV)} {ro:List (Nat × bA)} {gs:List (Nat × Bool)}
  (hs:c6 C A a w S μ ν) (hd:∀ t,o.dst=some t→t < C.nt) (ho:o.op=.call { callee:=.value cf,args:=xs,argTypes:=ts }) (Um:Rel w S μ ν (.fn f cE) (a.eval cf)) (lr:dy w S μ ν args (xs.toList.map a.eval)) (hn:uu.ni (args++cE)=true)
  (Un:FnB C.P f (args++cE) cU res gm mj) (adt:∀ p,p∈mj→p.1 < (args++cE).length∧(args++cE).getD p.1 default=.ptr p.2 0∧(∃ cs,look cU p.2=some (.box cs))∧∃ cs,look gm p.2=some (.box cs)) (Q7:∀ p,p∈cU→A.lb p.1=some p.2) (vG:∀ k,k∈gm.map (·.1)→k ∉ mj.map (·.2)→jW A k) (L7:∀ k,k∈res.keys→k∈gm.map (·.1)∧k ∉ mj.map (·.2)) (DN:∀ p,p∈gm→∀ k,k∈p.2.keys→k∈gm.map (·.1)∧k ∉ mj.map (·.2)) :
  o.wp C.P a w (fun a' w'=>∃ S' μ',c6 C ((Tr.mk need o.dst res ro cU gm gs).apply A) a' w' S' μ' ν) (fun _ _ _=>False):=by
 generalize hcv:a.eval cf=cv at Um
 cases Um with
 | @fn _ _ zT hl hh =>
  unfold Oper.wp
  rw [wY ho hcv Un.1]
  have pa:dy w S μ ν (args++cE) (xs.map a.eval++zT).toList:=by
   rw [Array.toList_append,Array.toList_map]
   exact lr.append ⟨by simpa using hl,fun i hi=>by rw [← cN]; exact hh i hi⟩
  have vc:∀ κ b,look cU κ=some b→A.lb κ=some b:=fun κ b h=>Q7 (κ,b) (iV h)
  refine (Un.2 w S μ (xs.map a.eval++zT) hs.bound hs.yt (fun ν'=>pa.nu hn) (fun κ b hk=>hs.mem κ b (vc κ b hk)) (fun κ κ' b b' g c c' h1 h2 h3 h4=>hs.inj κ κ' b b' g c c' (vc _ _ h1) (vc _ _ h2) h3 h4)).mono ?_
  rintro e w' ⟨v,S',μ',rfl,B,ha⟩
  have abF:∀ κ,κ∈mj.map (·.2)→κ∈gm.map (·.1)∧(∃ cs,look gm κ=some (.box cs))∧∃ g c c',μ κ=some (some (g,c))∧μ' κ=some (some (g,c')):=by
   intro κ hκ
   obtain ⟨p,hp,rfl⟩:=List.mem_map.1 hκ
   obtain ⟨h1,h2,-,cs,h4⟩:=adt p hp
   have h5:=pa.2 p.1 h1
   rw [h2] at h5
   have h6:=ha p hp ν
   generalize (xs.map a.eval++zT).toList.getD p.1 undef=u at h5 h6
   refine ⟨qk h4,⟨cs,h4⟩,?_⟩
   cases h5 with
   | @ptr _ _ g c hμ =>
    cases h6 with
    | @ptr _ _ _ c' V2=>exact ⟨g,c,c',hμ,V2⟩
  have hT:∀ q,Handed cU μ q→C.w0.heap.size≤q∨C.T0 q:=fun q ⟨κ,b,c,h1,h2⟩=>hs.own κ b q c (vc κ b h1) h2
  have hTs:∀ q,Handed cU μ q→¬ S q:=fun q ⟨κ,b,c,h1,h2⟩=>by
   have:=hs.mem κ b (vc κ b h1)
   rw [h2] at this
   exact this.at.not
  have hw:∀ q,S q→w'.heap[q]? = w.heap[q]?:=fun q hq=>B.kept.block q (hs.bound q hq) (fun ht=>hTs q ht hq)
  let μ'':Mu:=fun k=>if k∈mj.map (·.2) then μ k else if k∈gm.map (·.1) then μ' k else μ k
  have ag:∀ k,(k∈gm.map (·.1)→k∈mj.map (·.2))→μ'' k=μ k:=fun k hk=>by
   simp only [μ'']
   by_cases h1:k∈mj.map (·.2)
   ·rw [if_pos h1]
   ·rw [if_neg h1,if_neg (fun h=>h1 (hk h))]
  have Vu:∀ k,k∈gm.map (·.1)→k ∉ mj.map (·.2)→μ'' k=μ' k:=fun k hk hn=>by simp only [μ'']; rw [if_neg hn,if_pos hk]
  have tr:∀ k g c,k∈gm.map (·.1)→μ'' k=some (some (g,c))→∃ c',μ' k=some (some (g,c')):=fun k g c hk h=>by
   by_cases h1:k∈mj.map (·.2)
   ·obtain ⟨-,-,g',c1,c2,e1,e2⟩:=abF k h1
    rw [ag k (fun _=>h1),e1] at h
    simp only [Option.some.injEq,Prod.mk.injEq] at h
    obtain ⟨rfl,rfl⟩:=h
    exact ⟨c2,e2⟩
   ·rw [Vu k hk h1] at h
    exact ⟨c,h⟩
  have old:∀ x v,Rel w S μ ν x v→(∀ k,k∈gm.map (·.1)→k ∉ mj.map (·.2)→k ∉ x.keys)→Rel w' S' μ'' ν x v:=fun x v hr hk =>
   (hr.mono B.sub hw (fun _ _ e=>e)).agree (fun k hkx=>ag k (fun fW=>Classical.byContradiction (fun hn=>hk k fW hn hkx)))
  refine ⟨S',μ'',?_⟩
  have Hh:∀ κ b,((Tr.mk need o.dst res ro cU gm gs).apply A).lb κ=some b→(look gm κ=some b∧κ∈gm.map (·.1))∨(κ ∉ gm.map (·.1)∧κ ∉ cU.map (·.1)∧A.lb κ=some b):=by
   intro κ b hb
   simp only [Tr.apply] at hb
   cases JY:look gm κ with
   | some b' =>
    rw [JY] at hb
    simp only [Option.some.injEq] at hb
    subst hb
    exact .inl ⟨rfl,qk JY⟩
   | none =>
    rw [JY] at hb
    simp only at hb
    have hnk:κ ∉ gm.map (·.1):=fun hk=>by
     obtain ⟨p,hp,e⟩:=List.mem_map.1 hk
     have:∀ (l:List (Nat × bA)),p∈l→look l κ≠none:=by
      intro l
      induction l with
      | nil=>intro h; cases h
      | cons q r ih =>
       intro h hn
       obtain ⟨q1,q2⟩:=q
       simp only [look] at hn
       cases hq:Nat.beq q1 κ with
       | true=>rw [hq] at hn; cases hn
       | false =>
        rw [hq] at hn
        rcases List.mem_cons.1 h with h' | h'
        ·subst h'
         simp only at e
         rw [e,Nat.beq_refl] at hq
         cases hq
        ·exact ih h' (by simpa using hn)
     exact this gm hp JY
    split at hb
    ·cases hb
    ·rename_i V0
     exact .inr ⟨hnk,V0,hb⟩
  have hgT:∀ κ b g c,κ ∉ cU.map (·.1)→A.lb κ=some b→μ κ=some (some (g,c))→¬ Handed cU μ g∧g < w.heap.size∧¬ S g:=by
   intro κ b g c V0 hb hμ
   have hm:=hs.mem κ b hb
   rw [hμ] at hm
   refine ⟨fun ⟨κ2,b2,c2,h1,h2⟩=>?_,hm.at.lt,hm.at.not⟩
   have:=hs.inj κ κ2 b b2 g c c2 hb (vc _ _ h1) hμ h2
   rw [this] at V0
   exact V0 (qk h1)
  refine ⟨?_,?_,fun t=>?_,fun κ b hb=>?_,fun κ1 κ2 b1 b2 g c c' h1 h2 h3 h4=>?_,fun κ b g c hb hμ=>?_,fun b hb=>B.sub b (hs.eP b hb),fun b hb=>?_,B.bound,?_⟩
  ·simp only [Act.put]; split <;> simp [hs.tmps]
  ·simp only [Act.put]; split <;> exact hs.defers
  ·simp only [Tr.apply]
   by_cases c:o.dst=some t
   ·simp only [c,if_true,Act.put]
    rw [gH _ _ _ (by rw [hs.tmps]; exact hd t c)]
    exact (B.res ν).agree (fun k hk=>Vu k (L7 k hk).1 (L7 k hk).2)
   ·simp only [c,if_false]
    have e:(a.put o.dst v).tmps.getD t undef=a.tmps.getD t undef:=by
     cases dU:o.dst with
     | none=>rfl
     | some d =>
      simp only [Act.put]
      exact cT _ _ _ _ (fun e=>c (by rw [dU,e]))
    rw [e]
    exact old _ _ (hs.dV t) (fun k hk hn=>(vG k hk hn).sl t)
  ·rcases Hh κ b hb with ⟨h1,h2⟩ | ⟨h1,h2,h3⟩
   ·have hm:=B.mem κ b h1
    have XY:∀ k,k∈b.keys→μ'' k=μ' k:=fun k hk=>Vu k (DN (κ,b) (iV h1) k hk).1 (DN (κ,b) (iV h1) k hk).2
    by_cases hn:κ∈mj.map (·.2)
    ·obtain ⟨-,⟨cs,e0⟩,g',c1,c2,e1,e2⟩:=abF κ hn
     rw [h1] at e0
     simp only [Option.some.injEq] at e0
     subst e0
     rw [ag κ (fun _=>hn),e1]
     rw [e2] at hm
     have h3:dK w' S' μ' (.box cs) g' c1:=hm.at
     exact dK.ok (b:=.box cs) (h3.agree XY)
    ·rw [Vu κ h2 hn]
     exact hm.agree XY
   ·rw [ag κ (fun h=>absurd h h1)]
    have hm:=hs.mem κ b h3
    refine (hm.mono B.sub hw (fun _ _ e=>e) (fun g c e=>?_)).agree (fun k hk=>ag k (fun fW=>Classical.byContradiction (fun hn=>(vG k fW hn).bl κ b h3 hk)))
    obtain ⟨q1,q2,q3⟩:=hgT κ b g c h2 h3 e
    refine ⟨B.kept.block g q2 q1,fun vK=>?_⟩
    rcases B.new g vK with h | h | h
    ·exact q3 h
    ·omega
    ·exact q1 h
  ·rcases Hh κ1 b1 h1 with ⟨x1,x2⟩ | ⟨x1,x2,x3⟩
   ·obtain ⟨d1,h3⟩:=tr κ1 g c x2 h3
    rcases Hh κ2 b2 h2 with ⟨y1,y2⟩ | ⟨y1,y2,y3⟩
    ·obtain ⟨d2,h4⟩:=tr κ2 g c' y2 h4
     exact B.inj κ1 κ2 b1 b2 g d1 d2 x1 y1 h3 h4
    ·rw [ag κ2 (fun h=>absurd h y1)] at h4
     obtain ⟨q1,q2,q3⟩:=hgT κ2 b2 g c' y2 y3 h4
     rcases B.own κ1 b1 g d1 x1 h3 with h | h
     ·omega
     ·exact absurd h q1
   ·rw [ag κ1 (fun h=>absurd h x1)] at h3
    obtain ⟨q1,q2,q3⟩:=hgT κ1 b1 g c x2 x3 h3
    rcases Hh κ2 b2 h2 with ⟨y1,y2⟩ | ⟨y1,y2,y3⟩
    ·obtain ⟨d2,h4⟩:=tr κ2 g c' y2 h4
     rcases B.own κ2 b2 g d2 y1 h4 with h | h
     ·omega
     ·exact absurd h q1
    ·rw [ag κ2 (fun h=>absurd h y1)] at h4
     exact hs.inj κ1 κ2 b1 b2 g c c' x3 y3 h3 h4
  ·rcases Hh κ b hb with ⟨h1,h2⟩ | ⟨h1,h2,h3⟩
   ·obtain ⟨d1,hμ⟩:=tr κ g c h2 hμ
    rcases B.own κ b g d1 h1 hμ with h | h
    ·exact .inl (Nat.le_trans hs.kept.size h)
    ·exact hT g h
   ·rw [ag κ (fun h=>absurd h h1)] at hμ
    exact hs.own κ b g c h3 hμ
  ·rcases B.new b hb with h | h | h
   ·exact hs.fresh b h
   ·exact .inr (.inl (Nat.le_trans hs.kept.size h))
   ·rcases hT b h with h' | h'
    ·exact .inr (.inl h')
    ·exact .inr (.inr h')
  ·refine hs.kept.trans B.kept (fun b hb h=>?_)
   rcases hT b h with h' | h'
   ·omega
   ·exact h'
def FnS (P:Program) (f:FuncId) (args:List AV) (κ:Nat) (b b':bA):Prop :=
 gb P f=true∧∀ (w:World) (S:Nat→Prop) (μ:Mu) (vs:Array Value),(∀ b,S b→b < w.heap.size)→jz w S→(∀ ν,dy w S μ ν args vs.toList)→gW w S μ b (μ κ) →
  Calls P f vs w fun e w'=>(∃ v,e=.returned v)∧gW w' S μ b' (μ κ)∧Kept w w' (fun q=>∃ c,μ κ=some (some (q,c)))
theorem Hi {o:Oper} {cf:Operand} {xs:Array Operand} {ts:Array TypeId} {f:FuncId} {args cE:List AV} {κ:Nat} {b b':bA} {need:List (Nat × AV)} {ro:List (Nat × bA)} {gs:List (Nat × Bool)}
  (hs:c6 C A a w S μ ν) (hd:∀ t,o.dst=some t→t < C.nt) (ho:o.op=.call { callee:=.value cf,args:=xs,argTypes:=ts }) (Um:Rel w S μ ν (.fn f cE) (a.eval cf)) (lr:dy w S μ ν args (xs.toList.map a.eval)) (hn:uu.ni (args++cE)=true)
  (Un:FnS C.P f (args++cE) κ b b') (hκ:A.lb κ=some b) :
  o.wp C.P a w (fun a' w'=>∃ S' μ',c6 C ((Tr.mk need o.dst .any ro [(κ,b)] [(κ,b')] gs).apply A) a' w' S' μ' ν) (fun _ _ _=>False):=by
 generalize hcv:a.eval cf=cv at Um
 cases Um with
 | @fn _ _ zT hl hh =>
  unfold Oper.wp
  rw [wY ho hcv Un.1]
  have pa:dy w S μ ν (args++cE) (xs.map a.eval++zT).toList:=by
   rw [Array.toList_append,Array.toList_map]
   exact lr.append ⟨by simpa using hl,fun i hi=>by rw [← cN]; exact hh i hi⟩
  refine (Un.2 w S μ (xs.map a.eval++zT) hs.bound hs.yt (fun ν'=>pa.nu hn) (hs.mem κ b hκ)).mono ?_
  rintro e w' ⟨⟨v,rfl⟩,mV,hk⟩
  have hg:∀ q,(∃ c,μ κ=some (some (q,c)))→¬ S q:=fun q ⟨c,hc⟩=>by
   have:=hs.mem κ b hκ
   rw [hc] at this
   exact this.at.not
  have hw:∀ q,S q→w'.heap[q]? = w.heap[q]?:=fun q hq=>hk.block q (hs.bound q hq) (fun h=>hg q h hq)
  have h1:c6 C (A.set κ (some b')) a w' S μ ν:=by
   refine ⟨hs.tmps,hs.defers,fun t=>(hs.dV t).mono (fun _ x=>x) hw (fun _ _ e=>e),fun κ' bk hbk=>?_,fun κ1 κ2 b1 b2 g c c' h1 h2 h3 h4=>?_,fun κ' bk g c h1 h2=>?_,hs.eP,hs.fresh,fun q hq=>Nat.lt_of_lt_of_le (hs.bound q hq) hk.size,?_⟩
   ·simp only [M.set] at hbk
    by_cases e:κ'=κ
    ·subst e
     simp only [if_true,Option.some.injEq] at hbk
     subst hbk
     exact mV
    ·simp only [e,if_false] at hbk
     have hm:=hs.mem κ' bk hbk
     refine hm.mono (fun _ x=>x) hw (fun _ _ e=>e) (fun g c hgc=>?_)
     rw [hgc] at hm
     exact ⟨hk.block g hm.at.lt (fun ⟨c',Tb⟩=>e (hs.inj κ' κ bk b g c c' hbk hκ hgc Tb)),hm.at.not⟩
   ·have get:∀ k bk,(A.set κ (some b')).lb k=some bk→∃ bk',A.lb k=some bk':=fun k bk h=>by
     simp only [M.set] at h
     by_cases e:k=κ
     ·subst e; exact ⟨b,hκ⟩
     ·simp only [e,if_false] at h; exact ⟨bk,h⟩
    obtain ⟨b1',q1⟩:=get _ _ h1
    obtain ⟨b2',q2⟩:=get _ _ h2
    exact hs.inj κ1 κ2 b1' b2' g c c' q1 q2 h3 h4
   ·simp only [M.set] at h1
    by_cases e:κ'=κ
    ·subst e; exact hs.own κ' b g c hκ h2
    ·simp only [e,if_false] at h1; exact hs.own κ' bk g c h1 h2
   ·exact hs.kept.trans hk (fun q hq ⟨c,hc⟩=>by
     rcases hs.own κ b q c hκ hc with h | h
     ·omega
     ·exact h)
  refine ⟨S,μ,?_⟩
  have e:(Tr.mk need o.dst .any ro [(κ,b)] [(κ,b')] gs).apply A=(A.set κ (some b')).vI o.dst .any:=by
   cases dU:o.dst with
   | none=>exact lR _
   | some d =>
    have:=lR (A:=A) (κ:=κ) (b:=b) (b':=b') (need:=need) (ro:=ro) (gs:=gs) .any
    unfold Tr.apply at this ⊢
    simp only [M.vI,M.put,M.set,M.mk.injEq,Option.some.injEq] at this ⊢
    refine ⟨?_,this.2⟩
    funext t
    by_cases c:t=d
    ·simp [c]
    ·have:¬ d=t:=fun e=>c e.symm
     simp [c,this]
  rw [e]
  exact h1.put hd (.any _)
end
def DP (n k:Nat) (z:List D):List AV:=(List.range n).map fun q=>.d (z.getD (q % k) default)
section
variable {C : Cx} {A : M} {a : Act} {w : World} {S : Nat → Prop} {μ : Mu} {ν : Nat → Bool}
def tB (T:List (Nat × TI)) (ρ:Operand→Option AV) (t len:Nat) (ps:List (Nat × Operand)):Option (Nat × Nat × List D) :=
 match look T t,yC ρ ps with
 | some { kind:=.slice e,.. },some vs=>(match look T e with
  | some i=>bif Nat.ble (len * i.size) 16777216&&Nat.ble 1 i.size then (match G5 (fun q=>some (q * i.size,i.size)) (DP (len * i.size) i.size i.zero) vs with
   | some cs=>(match xO cs with | some ds=>bif Nat.beq ds.length (len * i.size) then some (e,i.size,ds) else none | none=>none)
   | none=>none) else none
  | none=>none)
 | _,_=>none
theorem yG {P:Program} {T:List (Nat × TI)} (hT:mX P T) {ρ:Operand→Option AV} (hρ:∀ x y,ρ x=some y→Rel w S μ ν y (a.eval x)) {t len:Nat} {ps:Array (Nat × Operand)} {e k:Nat} {ds:List D} (h:tB T ρ t len ps.toList=some (e,k,ds)) :
  ∃ cells:Array Value,(Instr.buildSlice t len (ps.map fun (i,x)=>(i,a.eval x))).run P w=.ok (.slice (some ⟨w.heap.size,0,none⟩) len len) (w.alloc (.cells cells e))∧cells.size=len * k∧iW w S k len (Bh k len ds) cells.toList∧ds.length=len * k∧len≤maxLen:=by
 unfold tB at h
 split at h
 ·rename_i e' _ _ _ _ vs hl hv
  split at h
  ·rename_i i hi
   cases hb:(Nat.ble (len * i.size) 16777216&&Nat.ble 1 i.size) with
   | false=>rw [hb] at h; cases h
   | true =>
    rw [hb] at h
    simp only [Bool.and_eq_true] at hb
    have hle:=Nat.le_of_ble_eq_true hb.1
    have J3:=Nat.le_of_ble_eq_true hb.2
    simp only [cond_true] at h
    split at h
    ·rename_i cs Ca
     split at h
     ·rename_i ds' hp
      cases wN:Nat.beq ds'.length (len * i.size) with
      | false=>rw [wN] at h; cases h
      | true =>
       rw [wN] at h
       have hdl:=Nat.eq_of_beq_eq_true wN
       simp only [cond_true,Option.some.injEq,Prod.mk.injEq] at h
       obtain ⟨rfl,rfl,rfl⟩:=h
       have ecs:=tz hp
       subst ecs
       obtain ⟨ti,z,F⟩:=aD (hT t _ hl)
       have hu:=ev F.kind
       obtain ⟨tj,zj,G⟩:=aD (hT e' _ hi)
       obtain ⟨q1,q2⟩:=jX (w:=w) (S:=S) G.XU
       have hzs:zj.cells.size=i.size:=by rw [← G.Bg,← q1]; simp
       have hz:dy w S μ ν (DP (len * i.size) i.size i.zero) ((Array.range (len * i.size)).map (zj.cells[· % zj.cells.size]!)).toList:=by
        refine ⟨by simp [DP],fun q hq=>?_⟩
        have OH:q < len * i.size:=by simpa [DP] using hq
        have hm:q % i.size < i.size:=Nat.mod_lt _ J3
        have e1:(DP (len * i.size) i.size i.zero).getD q default=.d (i.zero.getD (q % i.size) default):=by simp [DP,List.getD,OH]
        have e2:((Array.range (len * i.size)).map (zj.cells[· % zj.cells.size]!)).toList.getD q undef=zj.cells.toList.getD (q % i.size) undef:=by
         have h1:q % i.size < zj.cells.size:=by omega
         simp only [List.getD,Array.getElem?_toList,Array.getElem?_map,Array.getElem?_range,OH,if_true,Option.map_some,Option.getD_some,hzs]
         rw [getElem!_pos zj.cells _ h1,Array.getElem?_eq_getElem h1]
         rfl
        rw [e1,e2]
        exact .d (q2 _ (by rw [G.Bg]; exact hm))
       obtain ⟨v1,v2⟩:=wV hρ ps.toList vs hv
       obtain ⟨G6,hf,hr⟩:=zQ (fun q=>some (q * i.size,i.size)) vs (ps.toList.map fun p=>(p.1,a.eval p.2)) _ _ ((Array.range (len * i.size)).map (zj.cells[· % zj.cells.size]!)) hz v1 v2 Ca
       have yx:G6.size=len * i.size:=by have:=hr.1; simp at this; omega
       refine ⟨G6,?_,yx,⟨by simpa using yx,fun q hq=>⟨(yD hdl hq).1,fun j hj=>?_⟩⟩,hdl,?_⟩
       ·have Zw:(ps.map fun (i,x)=>(i,a.eval x)).toList=ps.toList.map fun p=>(p.1,a.eval p.2):=by simp
        have hn:¬ len * i.size > 2 ^ 24:=by omega
        simp only [Instr.buildSlice,Sem.run_bind,run_underlying hu,Result.andThen_ok,sizeOf,typeInfo,run_program,G.info,Sem.run_pure,G.size,Sem.run_ite,hn,if_false,Zw]
        by_cases h0:len * i.size=0
        ·rw [h0] at yx hf
         simp only [h0,if_true]
         have:∀ (g g':Nat→Value),(Array.range 0).map g=(Array.range 0).map g':=fun g g'=>by simp
         rw [this _ (zj.cells[· % zj.cells.size]!),hf]
         simp [newRow]
        ·simp only [h0,if_false,zeroValue,typeInfo,Sem.run_bind,run_program,Result.andThen_ok,G.info,Sem.run_pure,G.zero]
         rw [hf]
         simp [newRow]
       ·rw [(yD hdl hq).2 j hj]
        have eC:q * i.size+j < ds'.length:=by
         rw [hdl]
         calc q * i.size+j < q * i.size+i.size:=by omega
          _=(q+1) * i.size:=by rw [Nat.add_mul,Nat.one_mul]
          _≤len * i.size:=Nat.mul_le_mul_right _ hq
        have:=hr.2 (q * i.size+j) (by simpa using eC)
        rw [jY _ _ eC] at this
        exact iE.1 this
       ·have:len * 1≤len * i.size:=Nat.mul_le_mul_left len J3
        simp only [maxLen]
        omega
     ·cases h
    ·cases h
  ·cases h
 ·cases h
theorem Fx {T:List (Nat × TI)} (hT:mX C.P T) {o:Oper} {dst t len:Nat} {ps:Array (Nat × Operand)} {e k:Nat} {ds:List D} {ρ:Operand→Option AV} {need:List (Nat × AV)} {ro:List (Nat × bA)} {gs:List (Nat × Bool)}
  (hs:c6 C A a w S μ ν) (hd:o.dst=some dst) (XV:dst < C.nt) (ho:o.op=.buildSlice t len ps) (hρ:∀ x y,ρ x=some y→Rel w S μ ν y (a.eval x)) (h:tB T ρ t len ps.toList=some (e,k,ds)) (hf:jW A dst) :
  o.wp C.P a w (fun a' w'=>∃ S' μ',c6 C ((Tr.mk need (some dst) (.own dst len) ro [] [(dst,.row e k len (Bh k len ds))] gs).apply A) a' w' S' μ' ν) (fun _ _ _=>False):=by
 obtain ⟨cells,gy,jy,pd,_,hml⟩:=yG hT hρ h
 unfold Oper.wp execOp
 simp only [ho,Sem.run_bind,gy,Result.andThen_ok,Sem.run_pure]
 have su:¬ S w.heap.size:=fun h=>by have:=hs.bound _ h; omega
 have hw:∀ q,S q→(w.alloc (.cells cells e)).heap[q]? = w.heap[q]?:=fun q hq=>heap_alloc_old w _ (hs.bound q hq)
 have h1:=hs.alloc hf (b:=.row e k len (Bh k len ds)) (cur:=cells) (e:=e) (cap:=len) (by simp [bA.keys]) (Ha (heap_alloc_new w _) su jy (Nat.le_refl _) hml (by rw [← jy,← Array.length_toList,List.take_length]) (pd.mono (fun _ x=>x) hw))
 have h2:=h1.put (dst:=some dst) (x:=.own dst len) (v:=.slice (some ⟨w.heap.size,0,none⟩) len len) (fun t ht=>by cases ht; exact XV) (.own (by simp [c9]))
 rw [ql]
 exact ⟨S,_,by rw [hd]; exact h2⟩
theorem Up {T:List (Nat × TI)} (hT:mX C.P T) {o:Oper} {dst t e:Nat} {l c:Operand} {it i:TI} {kl kc:IntKind} {n:Int} {need:List (Nat × AV)} {ro:List (Nat × bA)} {gs:List (Nat × Bool)}
  (hs:c6 C A a w S μ ν) (hd:o.dst=some dst) (XV:dst < C.nt) (ho:o.op=.makeSlice t l c) (ht:look T t=some it) (hk:it.kind=.slice e) (he:look T e=some i) (hl:a.eval l=.int kl n) (hc:a.eval c=.int kc n)
  (h0:0≤n) (hm:n.toNat≤maxLen) (hb:n.toNat * i.bytes≤140737488355328) (hf:jW A dst) :
  o.wp C.P a w (fun a' w'=>∃ S' μ',c6 C ((Tr.mk need (some dst) (.own dst n.toNat) ro [] [(dst,.row e i.size n.toNat fun _=>i.zero)] gs).apply A) a' w' S' μ' ν) (fun _ _ _=>False):=by
 obtain ⟨tj,z,F⟩:=aD (hT _ _ ht)
 obtain ⟨ej,ez,G⟩:=aD (hT _ _ he)
 have ur:=F.kind
 rw [hk] at ur
 have hu:=ev ur
 have hml:n≤9223372036854775807:=by have:=hm; simp only [maxLen] at this; omega
 have XZ:(ej.bytes:Int) * n≤281474976710656:=by
  rw [G.bytes]
  have h1:((i.bytes * n.toNat:Nat):Int)≤281474976710656:=by rw [Nat.mul_comm]; omega
  rw [Int.natCast_mul,Int.toNat_of_nonneg h0] at h1
  exact h1
 have gy:=run_make (P:=C.P) w t e ej ez hu G.info G.zero kl kc n n h0 (Int.le_refl _) XZ hml
 rw [G.size] at gy
 unfold Oper.wp execOp
 simp only [ho,hl,hc,Sem.run_bind,gy,Result.andThen_ok,Sem.run_pure]
 have su:¬ S w.heap.size:=fun h=>by have:=hs.bound _ h; omega
 have hw:∀ q,S q→(w.alloc (.cells (madeCells ez.cells (n.toNat * i.size)) e)).heap[q]? = w.heap[q]?:=fun q hq=>heap_alloc_old w _ (hs.bound q hq)
 obtain ⟨q1,q2⟩:=jX (w:=w) (S:=S) G.XU
 have Yn:ez.cells.size=i.size:=by have:=q1; simp only [Array.length_toList] at this; rw [this,G.Bg]
 have pd:iW w S i.size n.toNat (fun _=>i.zero) (madeCells ez.cells (n.toNat * i.size)).toList:=by
  refine ⟨by simp [size_madeCells],fun q hq=>⟨G.Bg,fun j hj=>?_⟩⟩
  have eC:q * i.size+j < n.toNat * i.size:=by
   calc q * i.size+j < q * i.size+i.size:=by omega
    _=(q+1) * i.size:=by rw [Nat.add_mul,Nat.one_mul]
    _≤n.toNat * i.size:=Nat.mul_le_mul_right _ hq
  have e1:(madeCells ez.cells (n.toNat * i.size)).toList.getD (q * i.size+j) undef=ez.cells.toList.getD j undef:=by
   have EX:j < ez.cells.size:=by omega
   have Uq:(q * i.size+j) % ez.cells.size=j:=by rw [Yn,Nat.mul_comm,Nat.mul_add_mod,Nat.mod_eq_of_lt hj]
   simp [madeCells,List.getD,eC,Uq,EX]
  rw [e1]
  exact q2 j (by rw [G.Bg]; exact hj)
 have h1:=hs.alloc hf (b:=.row e i.size n.toNat fun _=>i.zero) (cur:=madeCells ez.cells (n.toNat * i.size)) (e:=e) (cap:=n.toNat) (by simp [bA.keys]) (Ha (heap_alloc_new w _) su (size_madeCells _ _) (Nat.le_refl _) hm (List.take_of_length_le (by simp [size_madeCells])) (pd.mono (fun _ x=>x) hw))
 have h2:=h1.put (dst:=some dst) (x:=.own dst n.toNat) (v:=.slice (some ⟨w.heap.size,0,none⟩) n.toNat n.toNat) (fun t ht=>by cases ht; exact XV) (.own (by simp [c9]))
 rw [ql]
 exact ⟨S,_,by rw [hd]; exact h2⟩
theorem Hj {T:List (Nat × TI)} (hT:mX C.P T) {o:Oper} {t len:Nat} {ps:Array (Nat × Operand)} {e k:Nat} {ds:List D} {ρ:Operand→Option AV} {τ:Tr}
  (hs:c6 C A a w S μ ν) (hd:∀ t,o.dst=some t→t < C.nt) (ho:o.op=.buildSlice t len ps) (hρ:∀ x y,ρ x=some y→Rel w S μ ν y (a.eval x)) (h:tB T ρ t len ps.toList=some (e,k,ds))
  (h0:τ.v=.d (.sl len (Bh k len ds))) (h1:τ.dst=o.dst) (h2:τ.mem=[]) (h3:τ.fF=[]) :
  o.wp C.P a w (fun a' w'=>∃ S' μ',c6 C (τ.apply A) a' w' S' μ' ν) (fun _ _ _=>False):=by
 obtain ⟨cells,gy,jy,pd,_,hml⟩:=yG hT hρ h
 unfold Oper.wp execOp
 simp only [ho,Sem.run_bind,gy,Result.andThen_ok,Sem.run_pure]
 let S':Nat→Prop:=fun q=>S q∨q=w.heap.size
 have h4:=hs.world (S':=S') (w':=w.alloc (.cells cells e)) (fun _ x=>.inl x) (fun q hq=>hq.elim .inl (fun e=>.inr ⟨by omega,by rw [e]; simp⟩)) (oe w _ _)
 have V3:Rd (w.alloc (.cells cells e)) S' (.sl len (Bh k len ds)) (.slice (some ⟨w.heap.size,0,none⟩) len len):=by
  refine .sl len _ ⟨w.heap.size,0,none⟩ len k (fun i j=>cells.toList.getD (i * k+j) undef) (Nat.le_refl _) hml (.inr rfl) (fun i hi=>(pd.2 i hi).1) (fun i j hi hj=>⟨.inr rfl,?_⟩) (fun i j hi hj=>?_)
  ·have eC:i * k+j < cells.size:=by
    rw [jy]
    calc i * k+j < i * k+k:=by omega
     _=(i+1) * k:=by rw [Nat.add_mul,Nat.one_mul]
     _≤len * k:=Nat.mul_le_mul_right k hi
   rw [gA _ _ _ cells e (0,0) (heap_alloc_new w _)]
   simp [List.getD,eC]
  ·exact ((pd.2 i hi).2 j hj).mono (fun _ x=>.inl x) (fun q hq=>heap_alloc_old w _ (hs.bound q hq))
 have h5:=h4.put (dst:=o.dst) (x:=.d (.sl len (Bh k len ds))) (v:=.slice (some ⟨w.heap.size,0,none⟩) len len) hd (.d V3)
 refine ⟨S',μ,?_⟩
 have e:τ.apply A=A.vI o.dst (.d (.sl len (Bh k len ds))):=by
  unfold Tr.apply M.vI M.put
  rw [h0,h1,h2,h3]
  cases ho:o.dst with
  | none=>simp [look]
  | some d =>
   simp only [look,List.map_nil,List.not_mem_nil,if_false,Option.some.injEq]
   congr 1
   funext t
   by_cases c:d=t
   ·simp [c]
   ·have:¬ t=d:=fun e=>c e.symm
    simp [c,this]
 rw [e]
 exact h5
def L9 (T:List (Nat × TI)) (ρ:Operand→Option AV):Op→Option (AV × Ob)
 | .convert src d x=>(match ρ x,look T src,look T d with
  | some (.d (.v (.string s))),some _,some { kind:=.slice e,.. }=>(match look T e with
   | some { kind:=.int .u8,.. }=>some (.d (.sl s.size fun i=>[.v (.int .u8 (s.data.toList.getD i 0).toNat)]),.pr (s.size≤maxLen))
   | _=>none)
  | _,_,_=>none)
 | _=>none
theorem Rq {T:List (Nat × TI)} (hT:mX C.P T) (hs:c6 C A a w S μ ν) {o:Oper} {ρ:Operand→Option AV} (hρ:∀ x y,ρ x=some y→Rel w S μ ν y (a.eval x)) (hd:∀ t,o.dst=some t→t < C.nt) {v:AV} {ob:Ob} (h:L9 T ρ o.op=some (v,ob)) (bX:ob.den) (need:List (Nat × AV)) (ro:List (Nat × bA)) (gs:List (Nat × Bool)) :
  o.wp C.P a w (fun a' w'=>∃ S' μ',c6 C ((Tr.mk need o.dst v ro [] [] gs).apply A) a' w' S' μ' ν) (fun _ _ _=>False):=by
 unfold L9 at h
 split at h
 ·rename_i src d x ho
  split at h
  ·rename_i s ti e _ _ _ _ hx lf dU
   split at h
   ·rename_i _ _ _ _ he
    simp only [Option.some.injEq,Prod.mk.injEq] at h
    obtain ⟨rfl,rfl⟩:=h
    have bX:s.size≤maxLen:=bX
    have hv:=cJ rfl (hρ _ _ hx)
    obtain ⟨ds,hds⟩:∃ q,C.P.underlying src=some q:=by
     obtain ⟨tj,zj,G⟩:=aD (hT _ _ lf)
     have:=G.kind
     cases hu:C.P.underlying src with
     | some q=>exact ⟨q,rfl⟩
     | none=>cases hk:ti.kind <;> rw [hk] at this <;> simp [dx,hu] at this
    obtain ⟨t1,z1,F1⟩:=aD (hT _ _ dU)
    obtain ⟨t2,z2,F2⟩:=aD (hT _ _ he)
    have gy:=Lib.run_convert_string_bytes (P:=C.P) w src d e s hds (ev F1.kind) (tA F2.kind)
    unfold Oper.wp execOp
    simp only [ho,hv,Sem.run_bind,gy,Result.andThen_ok,Sem.run_pure]
    let S':Nat→Prop:=fun q=>S q∨q=w.heap.size
    have Cf:Kept w (Lib.bytesWorld w e s) (fun _=>False):=⟨rfl,rfl,rfl,by rw [Lib.bytesWorld_size]; omega,fun b hb _=>Lib.bytesWorld_at_old w e s b hb⟩
    have h4:=hs.world (S':=S') (fun _ x=>.inl x) (fun q hq=>hq.elim .inl (fun e'=>.inr ⟨by omega,by rw [e',Lib.bytesWorld_size]; omega⟩)) Cf
    have V3:Rd (Lib.bytesWorld w e s) S' (.sl s.size fun i=>[.v (.int .u8 (s.data.toList.getD i 0).toNat)]) (.slice (some ⟨w.heap.size,0,none⟩) s.size (grownCap w s.size 0 e)):=by
     refine .sl s.size _ ⟨w.heap.size,0,none⟩ _ 1 (fun i _=>.int .u8 (s.data.toList.getD i 0).toNat) (grownCap_ge w s.size 0 e) (grownCap_le_maxLen w s.size 0 e bX) (.inr rfl) (fun i hi=>rfl) (fun i j hi hj=>⟨.inr rfl,?_⟩) (fun i j hi hj=>?_)
     ·obtain rfl:j=0:=by omega
      simp only [Nat.mul_one,Nat.add_zero,Nat.zero_add]
      exact Lib.bytesWorld_cell w e s i hi
     ·obtain rfl:j=0:=by omega
      exact .v _ rfl
    have h5:=h4.put (dst:=o.dst) hd (.d V3)
    refine ⟨S',μ,?_⟩
    have e:(Tr.mk need o.dst (.d (.sl s.size fun i=>[.v (.int .u8 (s.data.toList.getD i 0).toNat)])) ro [] [] gs).apply A=A.vI o.dst (.d (.sl s.size fun i=>[.v (.int .u8 (s.data.toList.getD i 0).toNat)])):=by
     unfold Tr.apply M.vI M.put
     cases ho:o.dst with
     | none=>simp [look]
     | some d =>
      simp only [look,List.map_nil,List.not_mem_nil,if_false,Option.some.injEq]
      congr 1
      funext t
      by_cases c:d=t
      ·simp [c]
      ·have:¬ t=d:=fun e=>c e.symm
       simp [c,this]
    rw [e]
    exact h5
   ·cases h
  ·cases h
 ·cases h
end
section
variable {C : Cx} {A : M} {a : Act} {w : World} {S : Nat → Prop} {μ : Mu} {ν : Nat → Bool}
theorem Ch {P:Program} {t k e:Nat} (h:dx P t (.map k e)=true):P.underlying t=some (.map k e):=by
 simp only [dx] at h
 split at h
 ·rename_i x; simp only [Bool.and_eq_true,beq_iff_eq] at h; obtain ⟨rfl,rfl⟩:=h; exact x
 ·cases h
theorem c6.Ma (h:c6 C A a w S μ ν) {κ g cap:Nat} {b b':bA} {w':World} (hκ:A.lb κ=some b) (hμ:μ κ=some (some (g,cap))) (hk:Kept w w' (fun q=>q=g)) (hb:dK w' S μ b' g cap):c6 C (A.set κ (some b')) a w' S μ ν:=by
 have Uk:=h.mem κ b hκ
 rw [hμ] at Uk
 have su:=Uk.at.not
 have hw:∀ q,S q→w'.heap[q]? = w.heap[q]?:=fun q hq=>hk.block q (h.bound q hq) (fun e=>su (e ▸ hq))
 refine ⟨h.tmps,h.defers,fun t=>(h.dV t).mono (fun _ x=>x) hw (fun _ _ x=>x),fun κ' b'' DJ=>?_,fun κ1 κ2 b1 b2 g' c c' h1 h2 h3 h4=>?_,fun κ' b'' g' c h1 h2=>?_,h.eP,h.fresh,fun q hq=>Nat.lt_of_lt_of_le (h.bound q hq) hk.size,?_⟩
 ·simp only [M.set] at DJ
  by_cases c:κ'=κ
  ·simp only [c,if_true,Option.some.injEq] at DJ
   subst DJ
   rw [c,hμ]
   exact hb.ok
  ·simp only [c,if_false] at DJ
   have hm:=h.mem κ' b'' DJ
   refine hm.mono (fun _ x=>x) hw (fun _ _ x=>x) (fun g' cc e=>?_)
   have hmm:=hm
   rw [e] at hmm
   exact ⟨hk.block g' hmm.at.lt (fun eg=>c (h.inj κ' κ b'' b g' cc cap DJ hκ e (by rw [eg]; exact hμ))),hmm.at.not⟩
 ·have q1:∃ x,A.lb κ1=some x:=by
   simp only [M.set] at h1
   by_cases c:κ1=κ
   ·rw [c]; exact ⟨b,hκ⟩
   ·simp only [c,if_false] at h1; exact ⟨_,h1⟩
  have q2:∃ x,A.lb κ2=some x:=by
   simp only [M.set] at h2
   by_cases c:κ2=κ
   ·rw [c]; exact ⟨b,hκ⟩
   ·simp only [c,if_false] at h2; exact ⟨_,h2⟩
  obtain ⟨x1,q1⟩:=q1
  obtain ⟨x2,q2⟩:=q2
  exact h.inj κ1 κ2 x1 x2 g' c c' q1 q2 h3 h4
 ·have q1:∃ x,A.lb κ'=some x:=by
   simp only [M.set] at h1
   by_cases c:κ'=κ
   ·rw [c]; exact ⟨b,hκ⟩
   ·simp only [c,if_false] at h1; exact ⟨_,h1⟩
  obtain ⟨x1,q1⟩:=q1
  exact h.own κ' x1 g' c q1 h2
 ·refine h.kept.trans hk (fun q hq e=>?_)
  subst e
  rcases h.own κ b q cap hκ hμ with h1 | h1
  ·omega
  ·exact h1
def World.Bi (w:World) (r:Nat) (o:Obj):World:={ w with heap:=w.heap.setIfInBounds r o }
def Mb:Obj→Bool
 | .cells _ _ _=>false
 | _=>true
theorem tC {P:Program} {r:Nat} {o:Obj} (h:w.heap[r]? = some o) (hn:Mb o=true:=by rfl):(getObj r).run P w=.ok o w:=by
 cases o <;> first | (simp [Mb] at hn; done) | simp [getObj,Sem.run,h]
theorem OL {P:Program} {r:Nat} {x:Obj} (o:Obj) (h:w.heap[r]? = some x) (hn:Mb x=true:=by rfl):(setObj r o).run P w=.ok () (World.Bi w r o):=by
 cases x <;> first | (simp [Mb] at hn; done) | simp [setObj,Sem.run,h,World.Bi]
theorem tf (r:Nat) (o:Obj):Kept w (World.Bi w r o) (fun q=>q=r):=⟨rfl,rfl,rfl,by simp [World.Bi],fun q _ hq=>by
 have:¬ r=q:=fun e=>hq e.symm
 simp [World.Bi,Array.getElem?_setIfInBounds,this]⟩
theorem GC {r:Nat} {x:Obj} (o:Obj) (h:w.heap[r]? = some x):(World.Bi w r o).heap[r]? = some o:=by
 have hr:=(Array.getElem?_eq_some_iff.1 h).1
 simp [World.Bi,hr]
def Hk:Value→Value→Bool
 | .int k a,.int k' b=>decide (k=k')&&!(a == b)
 | _,_=>false
theorem Hl {kk:IntKind} {kv:Value}:∀ (es:List MapEntry) (i:Nat),(∀ e,e∈es→Hk kv e.key=true)→(∃ k n,kv=.int k n)→Instr.findNow (.int kk) kv es i=some none
 | [],_,_,_=>rfl
 | e :: es,i,h,hv=>by
  have h1:=h e (by simp)
  obtain ⟨k,n,rfl⟩:=hv
  have ih:=Hl (kk:=kk) es (i+1) (fun x hx=>h x (by simp [hx])) ⟨k,n,rfl⟩
  cases hk:e.key with
  | int k' m =>
   rw [hk] at h1
   simp only [Hk,Bool.and_eq_true,decide_eq_true_eq,Bool.not_eq_true'] at h1
   obtain ⟨rfl,h2⟩:=h1
   simp only [Instr.findNow,Instr.sameNow,hk,if_true,h2]
   exact ih
  | _=>rw [hk] at h1; simp [Hk] at h1
structure R where
 v:AV
 ro:List (Nat × bA)
 mem:List (Nat × bA)
 fF:List (Nat × bA)
 ob:Ob
theorem qn {P:Program} {b:Bool} {kt:TypeId} {ik kk:IntKind} {n:Int} (Tc:P.underlying kt=some (.int ik)) (q:Nat):(Instr.checkKey b (q+1) kt (.int kk n)).run P w=.ok () w:=by
 rw [Instr.checkKey]
 simp [run_underlying Tc]
theorem Hm {P:Program} {t kt et:TypeId} {ik kk:IntKind} {n0:Int} {g clock:Nat} {cur:Array MapEntry} {x:Value} (hu:P.underlying t=some (.map kt et)) (Tc:P.underlying kt=some (.int ik)) (hg:w.heap[g]? = some (.map cur clock)) (hf:Instr.findNow (.int ik) (.int kk n0) cur.toList 0=some none) :
  (Instr.mapUpdate t (.map (some g)) (.int kk n0) x).run P w=.ok () (World.Bi w g (.map (cur.push { key:=.int kk n0,val:=x,born:=clock }) (clock+1))):=by
 unfold Instr.mapUpdate
 simp only [Sem.run_bind,run_underlying hu,Result.andThen_ok,tC hg,qn Tc 9999,Instr.findKey,run_underlying Tc,hf,Sem.run_pure,OL _ hg]
def Hn (T:List (Nat × TI)) (lb:List (Nat × bA)) (ρ:Operand→Option AV) (dst:Option Nat) (quiet:Bool):Op→Option R
 | .makeMap _ none=>(match quiet,dst with
  | false,some d=>some ⟨.vE d,[],[],[(d,.mp 0 fun _=>(.bool false,default))],.tt⟩
  | _,_=>none)
 | .insert t m k x=>(match quiet,dst,ρ m,ρ k,ρ x,look T t with
  | false,none,some (.vE κ),some (.d (.v (.int kk a))),some (.d xd),some { kind:=.map kt _,.. }=>(match look lb κ,look T kt with
   | some (.mp n f),some { kind:=.int _,.. }=>some ⟨.any,[],[(κ,.mp n f)],[(κ,.mp (n+1) fun q=>if q < n then f q else (.int kk a,xd))],.be ((List.range n).all fun i=>Hk (.int kk a) (f i).1) true⟩
   | _,_=>none)
  | _,_,_,_,_,_=>none)
 | .range t m=>(match quiet,dst,ρ m,look T t with
  | false,some d,some (.vE κ),some { kind:=.map _ _,.. }=>(match look lb κ with
   | some (.mp n f)=>bif Nat.beq d κ then none else some ⟨.ptr d 0,[(κ,.mp n f)],[],[(d,.it κ n [])],.tt⟩
   | _=>none)
  | _,_,_,_=>none)
 | .entry it=>(match ρ it with
  | some (.ptr κi 0)=>(match look lb κi with
   | some (.it κ n (i :: s))=>(match look lb κ with
    | some (.mp n' f)=>some ⟨.fL [.d (.v (f i).1),.d (f i).2],[(κi,.it κ n (i :: s)),(κ,.mp n' f)],[],[],(Ob.ne n n').and (.pr (i < n))⟩
    | _=>none)
   | _=>none)
  | _=>none)
 | .slice t x none (some h) none=>(match quiet,dst,ρ x,ρ h,look T t with
  | false,some d,some (.own κ n),some (.d (.v (.int _ hh))),some { kind:=.slice e,.. }=>(match look lb κ,look T e with
   | some (.row e' k n' f),some i=>bif Nat.beq d κ||!Nat.beq e e'||!Nat.beq k i.size then none else some ⟨.own d hh.toNat,[],[(κ,.row e' k n' f)],[(d,.row e' k hh.toNat f)],(Ob.ne n n').and (.pr (0≤hh∧hh≤n))⟩
   | _,_=>none)
  | false,some _,some (.d (.v (.slice none 0 0))),some (.d (.v (.int _ hh))),some { kind:=.slice e,.. }=>(match look T e with
   | some _=>some ⟨.d (.v (.slice none 0 0)),[],[],[],.pr (0≤hh∧hh≤0)⟩
   | none=>none)
  | _,_,_,_,_=>none)
 | .call { callee:=.builtin .cap,args:=xs,argTypes:=ts }=>(match rW ρ xs.toList,ts.toList with
  | some [.d (.v (.slice none 0 0))],[t]=>(match look T t with
   | some { kind:=.slice _,.. }=>some ⟨.d (.v (.int .i64 0)),[],[],[],.tt⟩
   | _=>none)
  | _,_=>none)
 | .call { callee:=.builtin .append,args:=xs,argTypes:=ts }=>(match quiet,dst,rW ρ xs.toList,ts.toList with
  | false,some d,some [.d (.v (.slice none 0 0)),.d (.v (.int .i64 n))],[t,t']=>(match look T t,look T t' with
   | some { kind:=.slice e,.. },some { kind:=.int .i64,.. }=>(match look T e with
    | some i=>some ⟨.own d n.toNat,[],[],[(d,.row e i.size n.toNat fun _=>i.zero)],.pr (0≤n∧n.toNat≤maxLen∧n.toNat * i.bytes≤140737488355328)⟩
    | none=>none)
   | _,_=>none)
  | _,_,_,_=>none)
 | _=>none
theorem OM {o:Oper} {d:Nat} {v:AV} {x:Value} {b:bA} {w1:World} {need:List (Nat × AV)} {ro:List (Nat × bA)} {gs:List (Nat × Bool)} (hs:c6 C A a w S μ ν) (dU:o.dst=some d) (XV:d < C.nt) (hf:jW A d) (hk:d ∉ b.keys)
  (gy:(execOp a.eval o).run C.P w=.ok (.value x) w1) (hk1:Kept w w1 (fun q=>q=w.heap.size)) (hb:∀ c,dK w1 S μ b w.heap.size c) (hv:∀ μ',μ' d=some (some (w.heap.size,0))→Rel w1 S μ' ν v x) :
  o.wp C.P a w (fun a' w'=>∃ S' μ',c6 C ((Tr.mk need (some d) v ro [] [(d,b)] gs).apply A) a' w' S' μ' ν) (fun _ _ _=>False):=by
 unfold Oper.wp
 rw [gy]
 have su:¬ S w.heap.size:=fun h=>by have:=hs.bound _ h; omega
 have h1:=hs.S6 hf (blk:=b) (b:=w.heap.size) (cap:=0) hk hk1 su (fun κ' b' g' c q1 q2 e'=>by
  have:=hs.mem κ' b' q1
  rw [q2] at this
  have:=this.at.lt
  omega) (.inl hs.kept.size) (hb 0)
 have h2:=h1.put (dst:=some d) (x:=v) (v:=x) (fun t ht=>by cases ht; exact XV) (hv _ (by simp [c9]))
 rw [ql]
 exact ⟨S,_,by rw [dU]; exact h2⟩
theorem Mc {T:List (Nat × TI)} (hT:mX C.P T) (hs:c6 C A a w S μ ν) {lb:List (Nat × bA)} {o:Oper} {ρ:Operand→Option AV} (hρ:∀ x y,ρ x=some y→Rel w S μ ν y (a.eval x)) (hd:∀ t,o.dst=some t→t < C.nt) {quiet:Bool} {r:R}
  (h:Hn T lb ρ o.dst quiet o.op=some r) (mi:∀ p,p∈r.ro→A.lb p.1=some p.2) (jZ:∀ p,p∈r.mem→A.lb p.1=some p.2) (bX:r.ob.den) (vG:∀ κ,κ∈(r.fF.map (·.1)).filter (fun k=>!(r.mem.map (·.1)).contains k)→jW A κ) (need:List (Nat × AV)) (gs:List (Nat × Bool)) :
  o.wp C.P a w (fun a' w'=>∃ S' μ',c6 C ((Tr.mk need o.dst r.v r.ro r.mem r.fF gs).apply A) a' w' S' μ' ν) (fun _ _ _=>False):=by
 unfold Hn at h
 split at h
 all_goals rename_i ho
 ·-- makeMap
  split at h
  ·rename_i d dU
   simp only [Option.some.injEq] at h
   subst h
   rw [dU]
   have su:¬ S w.heap.size:=fun h=>by have:=hs.bound _ h; omega
   refine OM hs dU (hd d dU) (vG d (by simp)) (by simp [bA.keys]) (x:=.map (some w.heap.size)) (w1:=w.alloc (.map #[] 0)) ?_ (oe w _ _) (fun c=>⟨#[],heap_alloc_new w _,su,rfl,fun i hi=>absurd hi (by omega)⟩) (fun μ' hμ=>.vE hμ)
   simp [execOp,ho,Instr.makeMap]
  ·cases h
 ·-- insert
  rename_i t m k x
  split at h
  ·rename_i κ kk n0 xd kt _ _ _ _ _ dU hm hk hx ht
   split at h
   ·rename_i n f ik _ _ _ _ hl Yo
    simp only [Option.some.injEq] at h
    subst h
    rw [dU]
    have hκ:=jZ (κ,.mp n f) (by simp)
    have J4:=hs.mem κ _ hκ
    have hv:=hρ _ _ hm
    generalize X0:a.eval m=mv at hv
    cases hv with
    | @vE _ g cap hμ =>
     rw [hμ] at J4
     obtain ⟨cur,hg,su,jy,bW⟩:=J4.at
     obtain ⟨ti,z,F⟩:=aD (hT _ _ ht)
     obtain ⟨tj,zj,G⟩:=aD (hT _ _ Yo)
     have hu:=Ch F.kind
     have Tc:=tA G.kind
     have hkv:=ee (hρ _ _ hk)
     have bX:(List.range n).all (fun i=>Hk (.int kk n0) (f i).1)=true:=bX
     simp only [List.all_eq_true,List.mem_range] at bX
     have pg:Instr.findNow (.int ik) (.int kk n0) cur.toList 0=some none:=Hl _ 0 (fun e he=>by
      obtain ⟨q,hq,rfl⟩:=List.getElem_of_mem he
      have hqn:q < n:=by simpa [jy] using hq
      obtain ⟨e,h1,h2,_⟩:=bW q hqn
      have:cur.toList[q]=e:=by
       have:=Array.getElem?_eq_some_iff.1 h1
       simpa using this.2
      rw [this,h2]
      exact bX q hqn) ⟨kk,n0,rfl⟩
     have gy:(execOp a.eval o).run C.P w=.ok .skip (World.Bi w g (.map (cur.push { key:=.int kk n0,val:=a.eval x,born:=n }) (n+1))):=by
      have h1:=Hm (x:=a.eval x) hu Tc hg pg
      unfold execOp
      rw [ho]
      simp only [X0,hkv,Sem.run_bind,h1,Result.andThen_ok,Sem.run_pure]
     unfold Oper.wp
     rw [gy]
     refine ⟨S,μ,?_⟩
     rw [lR,dU]
     refine hs.Ma hκ hμ (tf g _) ⟨_,GC _ hg,su,by simp [jy],fun i hi=>?_⟩
     have hw:∀ q,S q→(World.Bi w g (.map (cur.push { key:=.int kk n0,val:=a.eval x,born:=n }) (n+1))).heap[q]? = w.heap[q]?:=fun q hq=>(tf g _).block q (hs.bound q hq) (fun e=>su (e ▸ hq))
     by_cases c:i < n
     ·obtain ⟨e,h1,h2,h3,h4,h5⟩:=bW i c
      refine ⟨e,?_,by simp only [c,if_true]; exact h2,h3,h4,by simp only [c,if_true]; exact h5.mono (fun _ x=>x) hw⟩
      rw [Array.getElem?_push,if_neg (by omega)]
      exact h1
     ·obtain rfl:i=n:=by omega
      refine ⟨_,by rw [Array.getElem?_push,if_pos jy.symm],by simp only [c,if_false],rfl,rfl,?_⟩
      simp only [c,if_false]
      exact (iE.1 (hρ _ _ hx)).mono (fun _ x=>x) hw
   ·cases h
  ·cases h
 ·-- range
  rename_i t m
  split at h
  ·rename_i d κ _ _ _ _ _ _ dU hm ht
   split at h
   ·rename_i n f hl
    rw [Bool.cond_eq_ite] at h
    split at h
    ·cases h
    ·rename_i xN
     simp only [Option.some.injEq] at h
     subst h
     rw [dU]
     have hκ:=mi (κ,.mp n f) (by simp)
     have J4:=hs.mem κ _ hκ
     have hv:=hρ _ _ hm
     generalize X0:a.eval m=mv at hv
     cases hv with
     | @vE _ g cap hμ =>
      rw [hμ] at J4
      obtain ⟨cur,hg,aeU,jy,bW⟩:=J4.at
      obtain ⟨ti,z,F⟩:=aD (hT _ _ ht)
      have hu:=Ch F.kind
      have su:¬ S w.heap.size:=fun h=>by have:=hs.bound _ h; omega
      have hdk:d≠κ:=fun e=>by rw [e,Nat.beq_refl] at xN; exact xN rfl
      refine OM hs dU (hd d dU) (vG d (by simp)) (by simp [bA.keys,hdk]) (x:=.pointer (some ⟨w.heap.size,0,none⟩)) (w1:=w.alloc (.mapIter (some g) n #[] n)) ?_ (oe w _ _) (fun c=>⟨g,cap,hμ,heap_alloc_new w _,su⟩) (fun μ' V2=>.ptr V2)
      simp [execOp,ho,X0,Instr.range,run_underlying hu,tC hg]
   ·cases h
  ·cases h
 ·-- entry
  rename_i it
  split at h
  ·rename_i κi X1
   split at h
   ·rename_i κ n i s JQ
    split at h
    ·rename_i n' f hl
     simp only [Option.some.injEq] at h
     subst h
     have bX:((Ob.ne n n').and (.pr (i < n))).den:=bX
     obtain ⟨o1,o2⟩:=Ob.cH bX
     have o1:n=n':=o1
     subst o1
     have o2:i < n:=o2
     have hκi:=mi (κi,.it κ n (i :: s)) (by simp)
     have hκ:=mi (κ,.mp n f) (by simp)
     have hv:=hρ _ _ X1
     generalize Vv:a.eval it=iv at hv
     cases hv with
     | @ptr _ _ gi ci hμi =>
      have Zu:=hs.mem κi _ hκi
      rw [hμi] at Zu
      obtain ⟨mg,c,hμ,hgi,abG⟩:=Zu.at
      have J4:=hs.mem κ _ hκ
      rw [hμ] at J4
      obtain ⟨cur,hg,su,jy,bW⟩:=J4.at
      obtain ⟨e,h1,h2,h3,h4,h5⟩:=bW i o2
      have pg:cur.find? (fun x=>x.born == i)=some e:=by
       rw [Array.find?_eq_some_iff_getElem]
       have hi:i < cur.size:=by omega
       refine ⟨by simp [h4],i,hi,(Array.getElem?_eq_some_iff.1 h1).2,fun j hj=>?_⟩
       obtain ⟨e',q1,_,_,q4,_⟩:=bW j (by omega)
       have:cur[j]=e':=(Array.getElem?_eq_some_iff.1 q1).2
       rw [this,q4]
       simp
       omega
      refine lP (τ:=Tr.mk need o.dst (.fL [.d (.v (f i).1),.d (f i).2]) [(κi,.it κ n (i :: s)),(κ,.mp n f)] [] [] gs) hs hd (x:=.tuple #[e.key,e.val]) ?_ (.fL rfl (fun q hq=>?_)) rfl rfl rfl
      ·simp [execOp,ho,Vv,Instr.entry,tC hgi,tC hg,pg]
      ·match q with
       | 0=>simpa [h2] using gz (w:=w) (S:=S) (μ:=μ) (ν:=ν) h3
       | 1=>simpa using Rel.d (μ:=μ) (ν:=ν) h5
       | q+2=>simp at hq; omega
    ·cases h
   ·cases h
  ·cases h
 ·-- slice
  rename_i t x hh0
  split at h
  ·rename_i d κ n kk hh e _ _ _ _ dU hx Yh ht
   split at h
   ·rename_i e' k n' f i hl Yi
    rw [Bool.cond_eq_ite] at h
    split at h
    ·cases h
    ·rename_i xN
     simp only [Bool.or_eq_true,Bool.not_eq_true',not_or,Bool.not_eq_false] at xN
     simp only [Option.some.injEq] at h
     subst h
     rw [dU]
     have bX:((Ob.ne n n').and (.pr (0≤hh∧hh≤n))).den:=bX
     obtain ⟨o1,o2,o3⟩:=Ob.cH bX
     have o1:n=n':=o1
     subst o1
     have hdk:d≠κ:=fun e=>xN.1.1 (by rw [e,Nat.beq_refl])
     have hκ:=jZ (κ,.row e' k n f) (by simp)
     have J4:=hs.mem κ _ hκ
     obtain ⟨ti,z,F⟩:=aD (hT _ _ ht)
     have hu:=ev F.kind
     obtain ⟨te,ze,G⟩:=aD (hT _ _ Yi)
     have Fv:(sizeOf e).run C.P w=.ok i.size w:=by simp [sizeOf,typeInfo,G.info,G.size]
     have hhv:=ee (hρ _ _ Yh)
     have hf:jW A d:=vG d (by simp [hdk])
     have hv:=hρ _ _ hx
     generalize X2:a.eval x=xv at hv
     have Td:=hs.drop κ
     have hfd:=hf.drop κ
     have q1:∀ (k:IntKind) (i:Int) (y:Nat) (c:BoundsCode),0≤i→i≤y→(Instr.sliceBound (.int k i) y c).run C.P w=.ok i.toNat w:=fun k i y c h0 h1=>run_sliceBound w k i y c h0 h1
     cases hv with
     | @cS _ ad hμ =>
      have adu:hh=0:=by omega
      subst adu
      unfold Oper.wp
      have gy:(execOp a.eval o).run C.P w=.ok (.value (.slice ad 0 0)) w:=by
       simp (disch:=omega) [execOp,ho,X2,hhv,Instr.sliceAt,run_underlying hu,Instr.slice,Instr.sliceBounds,q1,Fv]
      rw [gy]
      have h1:=Td.Hb hfd e' k f
      have h2:=h1.put (dst:=some d) (x:=.own d 0) (v:=.slice ad 0 0) (fun t ht=>by cases ht; exact hd d dU) (.cS (by simp [c9]))
      rw [wW hdk]
      exact ⟨S,_,by rw [dU]; exact h2⟩
     | @own _ _ g cap hμ =>
      rw [hμ] at J4
      have su:=J4.at.not
      obtain ⟨cur,hg,_,h3,h4,h5,h6⟩:=J4.at
      unfold Oper.wp
      have Ur:hh.toNat≤cap:=by omega
      have gy:(execOp a.eval o).run C.P w=.ok (.value (.slice (some ⟨g,0,none⟩) hh.toNat cap)) w:=by
       simp (disch:=omega) [execOp,ho,X2,hhv,Instr.sliceAt,run_underlying hu,Instr.slice,Instr.sliceBounds,q1,Fv,gX]
      rw [gy]
      have h1:=Td.S6 hfd (blk:=.row e' k hh.toNat f) (b:=g) (cap:=cap) (w':=w) (by simp [bA.keys]) (Kept.refl _ _) su (fun κ' b' g' c q1 q2 e'=>by
       simp only [M.set] at q1
       by_cases cc:κ'=κ
       ·simp [cc] at q1
       ·simp only [cc,if_false] at q1
        subst e'
        exact cc (hs.inj κ' κ b' _ g' c cap q1 hκ q2 hμ)) (hs.own κ _ g cap hκ hμ) ⟨cur,hg,su,h3,Ur,h5,fun q hq=>h6 q (by omega)⟩
      have h2:=h1.put (dst:=some d) (x:=.own d hh.toNat) (v:=.slice (some ⟨g,0,none⟩) hh.toNat cap) (fun t ht=>by cases ht; exact hd d dU) (.own (by simp [c9]))
      rw [wW hdk]
      exact ⟨S,_,by rw [dU]; exact h2⟩
   ·cases h
  ·rename_i d kk hh e _ _ _ _ dU hx Yh ht
   split at h
   ·rename_i i Yi
    simp only [Option.some.injEq] at h
    subst h
    have bX:0≤hh∧hh≤0:=bX
    obtain rfl:hh=0:=by omega
    obtain ⟨ti,z,F⟩:=aD (hT _ _ ht)
    have hu:=ev F.kind
    obtain ⟨te,ze,G⟩:=aD (hT _ _ Yi)
    have Fv:(sizeOf e).run C.P w=.ok i.size w:=by simp [sizeOf,typeInfo,G.info,G.size]
    have hhv:=ee (hρ _ _ Yh)
    have X2:=cJ rfl (hρ _ _ hx)
    have q1:∀ (k:IntKind) (i:Int) (y:Nat) (c:BoundsCode),0≤i→i≤y→(Instr.sliceBound (.int k i) y c).run C.P w=.ok i.toNat w:=fun k i y c h0 h1=>run_sliceBound w k i y c h0 h1
    refine lP (τ:=Tr.mk need o.dst (.d (.v (.slice none 0 0))) [] [] [] gs) hs hd (x:=.slice none 0 0) ?_ (gz rfl) rfl rfl rfl
    simp (disch:=omega) [execOp,ho,X2,hhv,Instr.sliceAt,run_underlying hu,Instr.slice,Instr.sliceBounds,q1,Fv]
   ·cases h
  ·cases h
 ·-- cap
  rename_i xs ts
  split at h
  ·rename_i t Yj VT
   split at h
   ·rename_i _ _ _ _ _ ht
    simp only [Option.some.injEq] at h
    subst h
    obtain ⟨ti,z,F⟩:=aD (hT _ _ ht)
    have hu:=ev F.kind
    have lr:=lQ hρ xs.toList _ Yj
    have Zx:xs.map a.eval = #[.slice none 0 0]:=by
     have hl:(xs.map a.eval).toList.length=1:=by simpa using lr.1
     have h0:=lr.2 0 (by simp)
     have h0:=cJ rfl h0
     apply Array.ext'
     rw [Array.toList_map] at hl ⊢
     match hq:xs.toList.map a.eval,hl with
     | [y],_=>rw [hq] at h0; simpa using h0
    have V4:ts = #[t]:=by cases ts; simpa using VT
    refine lP (τ:=Tr.mk need o.dst (.d (.v (.int .i64 0))) [] [] [] gs) hs hd (x:=.int .i64 0) ?_ (gz rfl) rfl rfl rfl
    simp [execOp,ho,resolve,invoke,builtin,Zx,V4,Builtin.cap_,run_underlying hu,goInt]
   ·cases h
  ·cases h
 ·-- append of aeE
  rename_i xs ts
  split at h
  ·rename_i d n t t' dU Yj VT
   split at h
   ·rename_i e _ _ _ _ _ _ _ _ ht ht'
    split at h
    ·rename_i i Yi
     simp only [Option.some.injEq] at h
     subst h
     have bX:0≤n∧n.toNat≤maxLen∧n.toNat * i.bytes≤140737488355328:=bX
     obtain ⟨o1,o2,o3⟩:=bX
     rw [dU]
     obtain ⟨ti,z,F⟩:=aD (hT _ _ ht)
     have hu:=ev F.kind
     obtain ⟨ti',z',F'⟩:=aD (hT _ _ ht')
     have hu':=tA F'.kind
     obtain ⟨te,ze,G⟩:=aD (hT _ _ Yi)
     have lr:=lQ hρ xs.toList _ Yj
     have Zx:xs.map a.eval = #[.slice none 0 0,.int .i64 n]:=by
      have hl:(xs.map a.eval).toList.length=2:=by simpa using lr.1
      have h0:=cJ rfl (lr.2 0 (by simp))
      have h1:=cJ rfl (lr.2 1 (by simp))
      apply Array.ext'
      rw [Array.toList_map] at hl ⊢
      match hq:xs.toList.map a.eval,hl with
      | [y,y'],_=>rw [hq] at h0 h1; simp only [List.getD_cons_zero,List.getD_cons_succ] at h0 h1; rw [h0,h1]
     have V4:ts = #[t,t']:=by cases ts; simpa using VT
     have hml:n≤9223372036854775807:=by have:=o2; simp only [maxLen] at this; omega
     have hwr:IntKind.i64.wrap n=n:=IntWalk.i64_in n ⟨by omega,hml⟩
     obtain ⟨q1,q2⟩:=jX (w:=w) (S:=S) G.XU
     have Yn:ze.cells.size=i.size:=by have:=q1; simp only [Array.length_toList] at this; rw [this,G.Bg]
     have hf:jW A d:=vG d (by simp)
     by_cases h0:n=0
     ·subst h0
      have gy:(execOp a.eval o).run C.P w=.ok (.value (.slice none 0 0)) w:=by
       simp [execOp,ho,resolve,invoke,builtin,Zx,V4,Builtin.append_,run_underlying hu,run_underlying hu',sizeOf,typeInfo,G.info,asInt,asIntOf,hwr]
      unfold Oper.wp
      rw [gy]
      have h1:=hs.Hb hf e i.size (fun _=>i.zero)
      have h2:=h1.put (dst:=some d) (x:=.own d 0) (v:=.slice none 0 0) (fun t ht=>by cases ht; exact hd d dU) (.cS (by simp [c9]))
      rw [ql]
      exact ⟨S,_,by rw [dU]; exact h2⟩
     ·have hn1:0 < n.toNat:=by omega
      have XW:=grownCap_ge w n.toNat 0 e
      have N8:grownCap w n.toNat 0 e≤maxLen:=grownCap_le_maxLen w n.toNat 0 e o2
      have h48:¬ (281474976710656 < Builtin.nextslicecap n.toNat 0 * te.bytes):=by rw [nextslicecap_zero hn1,G.bytes]; omega
      have abH:¬ (281474976710656 < n * (te.bytes:Int)):=by
       rw [G.bytes]
       have h1:((n.toNat * i.bytes:Nat):Int)≤140737488355328:=by omega
       rw [Int.natCast_mul,Int.toNat_of_nonneg o1] at h1
       omega
      have gy:∃ cells:Array Value,(execOp a.eval o).run C.P w=.ok (.value (.slice (some ⟨w.heap.size,0,none⟩) n.toNat (grownCap w n.toNat 0 e))) (w.drew.alloc (.cells cells e))∧cells=Builtin.zeroCells ze.cells n.toNat++Builtin.zeroCells ze.cells (grownCap w n.toNat 0 e - n.toNat):=by
       refine ⟨_,?_,rfl⟩
       have hn0:¬ n.toNat=0:=by omega
       have Yp:¬ n < 0:=by omega
       have hle:¬ n≤0:=by omega
       have h63:¬ (9223372036854775807 < n):=by omega
       have Vw:max n 0=n:=by omega
       by_cases jy:i.size=0
       ·have hz0:ze.cells.size=0:=by omega
        have hze:Builtin.zeroCells ze.cells n.toNat = #[]:=by simp [Builtin.zeroCells,hz0]
        rw [hze]
        simp [execOp,ho,resolve,invoke,builtin,Zx,V4,Builtin.append_,run_underlying hu,run_underlying hu',sizeOf,typeInfo,G.info,asInt,asIntOf,hwr,Yp,hle,h48,abH,h63,Vw,Question.forced,Builtin.firstCells,newRow,grownCap,zeroValue,G.zero,G.size,jy]
       ·simp [execOp,ho,resolve,invoke,builtin,Zx,V4,Builtin.append_,run_underlying hu,run_underlying hu',sizeOf,typeInfo,G.info,asInt,asIntOf,hwr,Yp,hle,h48,abH,h63,Vw,Question.forced,Builtin.firstCells,newRow,grownCap,zeroValue,G.zero,G.size]
        intro hc
        rcases Nat.mul_eq_zero.1 hc with hc | hc
        ·exact absurd hc hn0
        ·exact absurd hc jy
      obtain ⟨cells,gy,Md⟩:=gy
      have Ur:cells.size=grownCap w n.toNat 0 e * i.size:=by
       rw [Md]
       simp only [Array.size_append,size_zeroCells,Yn,← Nat.add_mul]
       congr 1
       omega
      unfold Oper.wp
      rw [gy]
      have su:¬ S w.heap.size:=fun h=>by have:=hs.bound _ h; omega
      have hw:∀ q,S q→(w.drew.alloc (.cells cells e)).heap[q]? = w.heap[q]?:=fun q hq=>heap_alloc_old w.drew _ (hs.bound q hq)
      have h1:=hs.S6 hf (blk:=.row e i.size n.toNat fun _=>i.zero) (b:=w.heap.size) (cap:=grownCap w n.toNat 0 e) (w':=w.drew.alloc (.cells cells e)) (by simp [bA.keys]) ⟨rfl,rfl,rfl,by simp,fun k hk _=>heap_alloc_old w.drew _ hk⟩ su (fun κ' b' g' c q1 q2 e'=>by
       have:=hs.mem κ' b' q1
       rw [q2] at this
       have:=this.at.lt
       omega) (.inl hs.kept.size) ⟨cells,heap_alloc_new w.drew _,su,Ur,XW,N8,fun q hq=>⟨G.Bg,fun j hj=>?_⟩⟩
      ·have h2:=h1.put (dst:=some d) (x:=.own d n.toNat) (v:=.slice (some ⟨w.heap.size,0,none⟩) n.toNat (grownCap w n.toNat 0 e)) (fun t ht=>by cases ht; exact hd d dU) (.own (by simp [c9]))
       rw [ql]
       exact ⟨S,_,by rw [dU]; exact h2⟩
      ·have eC:q * i.size+j < n.toNat * i.size:=by
        calc q * i.size+j < q * i.size+i.size:=by omega
         _=(q+1) * i.size:=by rw [Nat.add_mul,Nat.one_mul]
         _≤n.toNat * i.size:=Nat.mul_le_mul_right _ hq
       have EX:j < ze.cells.size:=by omega
       have Uq:(q * i.size+j) % ze.cells.size=j:=by rw [Yn,Nat.mul_comm,Nat.mul_add_mod,Nat.mod_eq_of_lt hj]
       refine ⟨ze.cells[j],?_,?_⟩
       ·rw [Md,Array.getElem?_append_left (by rw [size_zeroCells,Yn]; exact eC)]
        have JZ:q * i.size+j < n.toNat * ze.cells.size:=by rw [Yn]; exact eC
        simp only [Builtin.zeroCells,Array.getElem?_map,Array.getElem?_range,JZ,if_true,Option.map_some,Uq]
        rw [getElem!_pos ze.cells j EX]
       ·have:=(q2 j (by rw [G.Bg]; exact hj)).mono (S':=S) (w':=w.drew.alloc (.cells cells e)) (fun _ x=>x) hw
        rw [show ze.cells.toList.getD j undef=ze.cells[j] from by simp [List.getD,EX]] at this
        exact this
    ·cases h
   ·cases h
  ·cases h
 ·cases h
theorem Us {T:List (Nat × TI)} {lb:List (Nat × bA)} {ρ:Operand→Option AV} {dst:Option Nat} {quiet:Bool} {op:Op} {r:R} (h:Hn T lb ρ dst quiet op=some r) :
  (∀ p,p∈r.ro→look lb p.1=some p.2)∧(∀ p,p∈r.mem→look lb p.1=some p.2)∧(quiet=true→r.mem=[]∧r.fF=[]):=by
 unfold Hn at h
 have nil:∀ {p:Nat × bA},p∈([]:List (Nat × bA))→look lb p.1=some p.2:=fun h=>by cases h
 have one:∀ {κ:Nat} {b:bA},look lb κ=some b→∀ p,p∈[(κ,b)]→look lb p.1=some p.2:=fun h p hp=>by simp only [List.mem_singleton] at hp; subst hp; exact h
 split at h
 ·split at h
  ·simp only [Option.some.injEq] at h; subst h; exact ⟨fun _=>nil,fun _=>nil,fun hq=>by cases hq⟩
  ·cases h
 ·split at h
  ·split at h
   ·rename_i hl _; simp only [Option.some.injEq] at h; subst h; exact ⟨fun _=>nil,one hl,fun hq=>by cases hq⟩
   ·cases h
  ·cases h
 ·split at h
  ·split at h
   ·rename_i hl
    rw [Bool.cond_eq_ite] at h
    split at h
    ·cases h
    ·simp only [Option.some.injEq] at h; subst h; exact ⟨one hl,fun _=>nil,fun hq=>by cases hq⟩
   ·cases h
  ·cases h
 ·split at h
  ·split at h
   ·rename_i JQ
    split at h
    ·rename_i hl
     simp only [Option.some.injEq] at h; subst h
     exact ⟨fun p hp=>by
      simp only [List.mem_cons,List.not_mem_nil,or_false] at hp
      rcases hp with rfl | rfl
      ·exact JQ
      ·exact hl,fun _=>nil,fun _=>⟨rfl,rfl⟩⟩
    ·cases h
   ·cases h
  ·cases h
 ·split at h
  ·split at h
   ·rename_i hl _
    rw [Bool.cond_eq_ite] at h
    split at h
    ·cases h
    ·simp only [Option.some.injEq] at h; subst h; exact ⟨fun _=>nil,one hl,fun hq=>by cases hq⟩
   ·cases h
  ·split at h
   ·simp only [Option.some.injEq] at h; subst h; exact ⟨fun _=>nil,fun _=>nil,fun hq=>by cases hq⟩
   ·cases h
  ·cases h
 ·split at h
  ·split at h
   ·simp only [Option.some.injEq] at h; subst h; exact ⟨fun _=>nil,fun _=>nil,fun _=>⟨rfl,rfl⟩⟩
   ·cases h
  ·cases h
 ·split at h
  ·split at h
   ·split at h
    ·simp only [Option.some.injEq] at h; subst h; exact ⟨fun _=>nil,fun _=>nil,fun hq=>by cases hq⟩
    ·cases h
   ·cases h
  ·cases h
 ·cases h
end
def Bj:Value→Value→Bool
 | .int k a,.int k' b=>decide (k=k')&&(a == b)
 | _,_=>false
def nj (k:Value):Nat→(Nat→Value × D)→Option Nat
 | 0,_=>none
 | n+1,f=>bif Bj k (f 0).1 then some 0 else (nj k n fun i=>f (i+1)).map (· + 1)
def Ci (k:Value) (n:Nat) (f:Nat→Value × D):Bool:=(nj k n f).isSome
def uC (k:Value) (n:Nat) (f:Nat→Value × D) (z:D):D:=match nj k n f with | some p=>(f p).2 | none=>z
def mpN (k:Value) (n:Nat) (f:Nat→Value × D):Nat:=match nj k n f with | some _=>n | none=>n+1
def V5 (k:Value) (x:D) (n:Nat) (f:Nat→Value × D):Nat→Value × D:=match nj k n f with
 | some p=>fun q=>if q=p then ((f q).1,x) else f q
 | none=>fun q=>if q < n then f q else (k,x)
def Te (P:Program) (t:Nat):Option D:=match P.info? t with
 | some j=>(match j.zero with | some (.int k n)=>some (.v (.int k n)) | some (.bool b)=>some (.v (.bool b)) | _=>none)
 | none=>none
def OO (P:Program) (T:List (Nat × TI)) (lb:List (Nat × bA)) (ρ:Operand→Option AV) (dst:Option Nat) (quiet:Bool):Op→Option R
 | .mapUpdate t m k x=>(match quiet,dst,ρ m,ρ k,ρ x,look T t with
  | false,none,some (.vE κ),some (.d (.v (.int kk a))),some (.d xd),some { kind:=.map kt _,.. }=>(match look lb κ,look T kt with
   | some (.mp n f),some { kind:=.int _,.. }=>some ⟨.any,[],[(κ,.mp n f)],[(κ,.mp (mpN (.int kk a) n f) (V5 (.int kk a) xd n f))],.pr (∀ i,i < n→∃ b,(f i).1=.int kk b)⟩
   | _,_=>none)
  | _,_,_,_,_,_=>none)
 | .lookup t m k ok=>(match ρ m,ρ k,look T t with
  | some (.vE κ),some (.d (.v (.int kk a))),some { kind:=.map kt et,.. }=>(match look lb κ,look T kt,Te P et with
   | some (.mp n f),some { kind:=.int _,.. },some z=>some ⟨bif ok then .fL [.d (uC (.int kk a) n f z),.d (.v (.bool (Ci (.int kk a) n f)))] else .d (uC (.int kk a) n f z),[(κ,.mp n f)],[],[],.pr (∀ i,i < n→∃ b,(f i).1=.int kk b)⟩
   | _,_,_=>none)
  | some (.zN n f),some (.d (.v (.int kk a))),some { kind:=.map kt et,.. }=>(match look T kt,Te P et with
   | some { kind:=.int _,.. },some z=>some ⟨bif ok then .fL [.d (uC (.int kk a) n f z),.d (.v (.bool (Ci (.int kk a) n f)))] else .d (uC (.int kk a) n f z),[],[],[],.pr (∀ i,i < n→∃ b,(f i).1=.int kk b)⟩
   | _,_=>none)
  | _,_,_=>none)
 | _=>none
theorem Bk {k:Value}:∀ {n:Nat} {f:Nat→Value × D},(∀ p,nj k n f=some p→p < n∧Bj k (f p).1=true)∧(nj k n f=none→∀ i,i < n→Bj k (f i).1=false)
 | 0,f=>⟨fun p h=>(by cases h),fun _ i hi=>absurd hi (by omega)⟩
 | n+1,f=>by
  have ih:=Bk (k:=k) (n:=n) (f:=fun i=>f (i+1))
  simp only [nj]
  cases hk:Bj k (f 0).1 with
  | true=>exact ⟨fun p h=>by simp only [cond_true,Option.some.injEq] at h; subst h; exact ⟨by omega,hk⟩,fun h=>(by cases h)⟩
  | false =>
   simp only [cond_false]
   refine ⟨fun p h=>?_,fun h i hi=>?_⟩
   ·cases hq:nj k n (fun i=>f (i+1)) with
    | none=>rw [hq] at h; cases h
    | some q =>
     rw [hq] at h
     simp only [Option.map_some,Option.some.injEq] at h
     subst h
     obtain ⟨h1,h2⟩:=ih.1 q hq
     exact ⟨by omega,h2⟩
   ·have hq:nj k n (fun i=>f (i+1))=none:=by
     cases hq:nj k n (fun i=>f (i+1)) with
     | none=>rfl
     | some q=>rw [hq] at h; cases h
    cases i with
    | zero=>exact hk
    | succ i=>exact ih.2 hq i (by omega)
theorem yH {ik kk:IntKind} {a:Int}:∀ (es:List MapEntry) (f:Nat→Value × D) (j:Nat),(∀ (i:Nat) (h:i < es.length),(es[i]'h).key=(f i).1∧∃ b,(f i).1=.int kk b) →
  Instr.findNow (.int ik) (.int kk a) es j=some (match nj (.int kk a) es.length f with | some p=>(es[p]?).map (fun e=>(p+j,e.val)) | none=>none)
 | [],_,_,_=>rfl
 | e :: es,f,j,h=>by
  obtain ⟨h1,b,h2⟩:=h 0 (by simp)
  have h1:e.key=(f 0).1:=h1
  have ih:=yH (ik:=ik) (kk:=kk) (a:=a) es (fun i=>f (i+1)) (j+1) (fun i hi=>h (i+1) (by simpa using hi))
  simp only [Instr.findNow,Instr.sameNow,h1,h2,if_true,List.length_cons,nj,Bj,decide_true,Bool.true_and]
  cases Zy:(a == b) with
  | true=>simp
  | false =>
   simp only [ih,cond_false]
   cases hq:nj (.int kk a) es.length (fun i=>f (i+1)) with
   | none=>simp
   | some q =>
    simp only [Option.map_some,List.getElem?_cons_succ]
    congr 2
    funext e
    simp; omega
section
variable {C : Cx} {A : M} {a : Act} {w : World} {S : Nat → Prop} {μ : Mu} {ν : Nat → Bool}
theorem V6 {P:Program} {k:IntKind} {n:Int}:(Instr.keyThatStays (.int k n) (.int k n)).run P w=.ok (.int k n) w:=by
 simp [Instr.keyThatStays,Instr.sameBits]
theorem Ho {ok:Bool} {x:D} {b:Bool} {v:Value} (hv:Rel w S μ ν (.d x) v):Rel w S μ ν (bif ok then .fL [.d x,.d (.v (.bool b))] else .d x) (bif ok then .tuple #[v,.bool b] else v):=by
 cases ok with
 | false=>exact hv
 | true =>
  refine .fL rfl (fun q hq=>?_)
  match q with
  | 0=>simpa using hv
  | 1=>simpa using gz (w:=w) (S:=S) (μ:=μ) (ν:=ν) (x:=.bool b) rfl
  | q+2=>simp at hq; omega
theorem Hp {T:List (Nat × TI)} (hT:mX C.P T) {t kt et:Nat} {ik kk:IntKind} {n0:Int} {kv:Value} {z:D} {n g:Nat} {f:Nat→Value × D} {cur:Array MapEntry} {ok:Bool} {s1 b1 s2 b2:Nat} {z1 z2:List D} {q1 q2:Bool}
  (hkv:kv=.int kk n0) (ht:look T t=some { kind:=.map kt et,size:=s1,bytes:=b1,zero:=z1,eq:=q1 }) (Yo:look T kt=some { kind:=.int ik,size:=s2,bytes:=b2,zero:=z2,eq:=q2 }) (hz:Te C.P et=some z) (bX:(Ob.pr (∀ i,i < n→∃ b,(f i).1=.int kk b)).den)
  (hg:w.heap[g]? = some (.map cur n)) (jy:cur.size=n) (bW:∀ i,i < n→∃ e,cur[i]? = some e∧e.key=(f i).1∧scalar e.key=true∧e.born=i∧Rd w S (f i).2 e.val) :
  ∃ v,(Instr.lookup t (.map (some g)) kv ok).run C.P w=.ok (bif ok then .tuple #[v,.bool (Ci (.int kk n0) n f)] else v) w∧Rel w S μ ν (.d (uC (.int kk n0) n f z)) v:=by
 subst hkv
 obtain ⟨ti,z0,F⟩:=aD (hT _ _ ht)
 obtain ⟨tj,zj,G⟩:=aD (hT _ _ Yo)
 have hu:=Ch F.kind
 have Tc:=tA G.kind
 have bX:∀ i,i < n→∃ b,(f i).1=.int kk b:=bX
 have aah:∀ (i:Nat) (h:i < cur.toList.length),(cur.toList[i]'h).key=(f i).1∧∃ b,(f i).1=.int kk b:=fun i hi=>by
  have Q5:i < n:=by simpa [jy] using hi
  obtain ⟨e,h1,h2,_⟩:=bW i Q5
  have:cur.toList[i]=e:=by simpa using (Array.getElem?_eq_some_iff.1 h1).2
  rw [this]
  exact ⟨h2,bX i Q5⟩
 have pg:=yH (ik:=ik) (a:=n0) cur.toList f 0 aah
 have yx:cur.toList.length=n:=by simpa using jy
 rw [yx] at pg
 have hck:=fun q=>qn (w:=w) (P:=C.P) (b:=cur.isEmpty) (kk:=kk) (n:=n0) Tc q
 obtain ⟨zv,hzv,hzr⟩:∃ zv,(zeroValue et).run C.P w=.ok zv w∧Rel w S μ ν (.d z) zv:=by
  unfold Te at hz
  split at hz
  ·rename_i j hj
   split at hz
   ·rename_i k' n' hjz
    simp only [Option.some.injEq] at hz
    subst hz
    exact ⟨.int k' n',by simp only [zeroValue,typeInfo,Sem.run_bind,run_program,Result.andThen_ok,hj,Sem.run_pure,hjz],gz rfl⟩
   ·rename_i b hjz
    simp only [Option.some.injEq] at hz
    subst hz
    exact ⟨.bool b,by simp only [zeroValue,typeInfo,Sem.run_bind,run_program,Result.andThen_ok,hj,Sem.run_pure,hjz],gz rfl⟩
   ·cases hz
  ·cases hz
 cases Fy:nj (.int kk n0) n f with
 | some p =>
  obtain ⟨hp,hpk⟩:=Bk.1 p Fy
  obtain ⟨e,h1,h2,h3,h4,h5⟩:=bW p hp
  have h1l:cur.toList[p]? = some e:=by simpa using h1
  rw [Fy] at pg
  simp only [h1l,Option.map_some,Nat.add_zero] at pg
  refine ⟨e.val,?_,by simp only [uC,Fy]; exact .d h5⟩
  unfold Instr.lookup
  simp only [Sem.run_bind,run_underlying hu,Result.andThen_ok,tC hg,Sem.run_pure,hck 9999,Instr.findKey,run_underlying Tc,pg,Ci,Fy,Option.isSome_some]
  cases ok <;> rfl
 | none =>
  rw [Fy] at pg
  simp only at pg
  refine ⟨zv,?_,by simp only [uC,Fy]; exact hzr⟩
  unfold Instr.lookup
  simp only [Sem.run_bind,run_underlying hu,Result.andThen_ok,tC hg,Sem.run_pure,hck 9999,Instr.findKey,run_underlying Tc,pg,hzv,Ci,Fy,Option.isSome_none]
  cases ok <;> rfl
theorem OP {T:List (Nat × TI)} (hT:mX C.P T) (hs:c6 C A a w S μ ν) {lb:List (Nat × bA)} {o:Oper} {ρ:Operand→Option AV} (hρ:∀ x y,ρ x=some y→Rel w S μ ν y (a.eval x)) (hd:∀ t,o.dst=some t→t < C.nt) {quiet:Bool} {r:R}
  (h:OO C.P T lb ρ o.dst quiet o.op=some r) (mi:∀ p,p∈r.ro→A.lb p.1=some p.2) (jZ:∀ p,p∈r.mem→A.lb p.1=some p.2) (bX:r.ob.den) (need:List (Nat × AV)) (gs:List (Nat × Bool)) :
  o.wp C.P a w (fun a' w'=>∃ S' μ',c6 C ((Tr.mk need o.dst r.v r.ro r.mem r.fF gs).apply A) a' w' S' μ' ν) (fun _ _ _=>False):=by
 unfold OO at h
 split at h
 all_goals rename_i ho
 ·-- an entry is laid
  rename_i t m k x
  split at h
  ·rename_i κ kk n0 xd kt _ _ _ _ _ dU hm hk hx ht
   split at h
   ·rename_i n f ik _ _ _ _ hl Yo
    simp only [Option.some.injEq] at h
    subst h
    rw [dU]
    have hκ:=jZ (κ,.mp n f) (by simp)
    have J4:=hs.mem κ _ hκ
    have hv:=hρ _ _ hm
    generalize X0:a.eval m=mv at hv
    cases hv with
    | @vE _ g cap hμ =>
     rw [hμ] at J4
     obtain ⟨cur,hg,su,jy,bW⟩:=J4.at
     obtain ⟨ti,z,F⟩:=aD (hT _ _ ht)
     obtain ⟨tj,zj,G⟩:=aD (hT _ _ Yo)
     have hu:=Ch F.kind
     have Tc:=tA G.kind
     have hkv:=ee (hρ _ _ hk)
     have bX:∀ i,i < n→∃ b,(f i).1=.int kk b:=bX
     have aah:∀ (i:Nat) (h:i < cur.toList.length),(cur.toList[i]'h).key=(f i).1∧∃ b,(f i).1=.int kk b:=fun i hi=>by
      have Q5:i < n:=by simpa [jy] using hi
      obtain ⟨e,h1,h2,_⟩:=bW i Q5
      have:cur.toList[i]=e:=by simpa using (Array.getElem?_eq_some_iff.1 h1).2
      rw [this]
      exact ⟨h2,bX i Q5⟩
     have pg:=yH (ik:=ik) (a:=n0) cur.toList f 0 aah
     have yx:cur.toList.length=n:=by simpa using jy
     rw [yx] at pg
     have hw:∀ o':Obj,∀ q,S q→(World.Bi w g o').heap[q]? = w.heap[q]?:=fun o' q hq=>(tf g _).block q (hs.bound q hq) (fun e=>su (e ▸ hq))
     have hck:=fun q=>qn (w:=w) (P:=C.P) (b:=false) (kk:=kk) (n:=n0) Tc q
     cases Fy:nj (.int kk n0) n f with
     | some p =>
      obtain ⟨hp,hpk⟩:=Bk.1 p Fy
      obtain ⟨e,h1,h2,h3,h4,h5⟩:=bW p hp
      have abI:e.key=.int kk n0:=by
       obtain ⟨b,hb⟩:=bX p hp
       rw [hb] at hpk h2
       simp only [Bj,decide_true,Bool.true_and,beq_iff_eq] at hpk
       rw [h2,hpk]
      have h1l:cur.toList[p]? = some e:=by simpa using h1
      rw [Fy] at pg
      simp only [h1l,Option.map_some,Nat.add_zero] at pg
      have gy:(execOp a.eval o).run C.P w=.ok .skip (World.Bi w g (.map (cur.modify p fun e=>{ e with key:=.int kk n0,val:=a.eval x }) n)):=by
       unfold execOp
       rw [ho]
       simp only [X0,hkv,Sem.run_bind]
       unfold Instr.mapUpdate
       simp only [Sem.run_bind,run_underlying hu,Result.andThen_ok,tC hg,hck 9999,Instr.findKey,run_underlying Tc,pg,Sem.run_pure,h1,Option.map_some,Option.getD_some,abI,V6,OL _ hg]
      unfold Oper.wp
      rw [gy]
      refine ⟨S,μ,?_⟩
      rw [lR,dU]
      have eN:mpN (.int kk n0) n f=n:=by simp [mpN,Fy]
      rw [eN]
      refine hs.Ma hκ hμ (tf g _) ⟨_,GC _ hg,su,by simp [jy],fun i hi=>?_⟩
      obtain ⟨e',q1,q2,q3,q4,q5⟩:=bW i hi
      have fM:i < cur.size:=by omega
      by_cases c:i=p
      ·subst c
       rw [h1] at q1
       cases q1
       refine ⟨{ e with key:=.int kk n0,val:=a.eval x },?_,?_,rfl,q4,?_⟩
       ·simp [Array.getElem?_modify,h1]
       ·simp only [V5,Fy,if_true]
        rw [← q2,abI]
       ·simp only [V5,Fy,if_true]
        exact (iE.1 (hρ _ _ hx)).mono (fun _ x=>x) (hw _)
      ·refine ⟨e',?_,?_,q3,q4,?_⟩
       ·have c':¬ p=i:=fun e=>c e.symm
        simp [Array.getElem?_modify,c',q1]
       ·simp only [V5,Fy,c,if_false]; exact q2
       ·simp only [V5,Fy,c,if_false]; exact q5.mono (fun _ x=>x) (hw _)
     | none =>
      rw [Fy] at pg
      simp only at pg
      have gy:(execOp a.eval o).run C.P w=.ok .skip (World.Bi w g (.map (cur.push { key:=.int kk n0,val:=a.eval x,born:=n }) (n+1))):=by
       have h1:=Hm (x:=a.eval x) hu Tc hg pg
       unfold execOp
       rw [ho]
       simp only [X0,hkv,Sem.run_bind,h1,Result.andThen_ok,Sem.run_pure]
      unfold Oper.wp
      rw [gy]
      refine ⟨S,μ,?_⟩
      rw [lR,dU]
      have eN:mpN (.int kk n0) n f=n+1:=by simp [mpN,Fy]
      rw [eN]
      refine hs.Ma hκ hμ (tf g _) ⟨_,GC _ hg,su,by simp [jy],fun i hi=>?_⟩
      by_cases c:i < n
      ·obtain ⟨e,h1,h2,h3,h4,h5⟩:=bW i c
       refine ⟨e,?_,by simp only [V5,Fy,c,if_true]; exact h2,h3,h4,by simp only [V5,Fy,c,if_true]; exact h5.mono (fun _ x=>x) (hw _)⟩
       rw [Array.getElem?_push,if_neg (by omega)]
       exact h1
      ·obtain rfl:i=n:=by omega
       refine ⟨_,by rw [Array.getElem?_push,if_pos jy.symm],by simp only [V5,Fy,c,if_false],rfl,rfl,?_⟩
       simp only [V5,Fy,c,if_false]
       exact (iE.1 (hρ _ _ hx)).mono (fun _ x=>x) (hw _)
   ·cases h
  ·cases h
 ·-- an entry is looked up
  rename_i t m k ok
  split at h
  ·rename_i κ kk n0 kt et _ _ _ _ hm hk ht
   split at h
   ·rename_i n f ik _ _ _ _ z hl Yo hz
    simp only [Option.some.injEq] at h
    subst h
    have hκ:=mi (κ,.mp n f) (by simp)
    have J4:=hs.mem κ _ hκ
    have hv:=hρ _ _ hm
    generalize X0:a.eval m=mv at hv
    cases hv with
    | @vE _ g cap hμ =>
     rw [hμ] at J4
     obtain ⟨cur,hg,su,jy,bW⟩:=J4.at
     obtain ⟨v,hrv,hv⟩:=Hp (ok:=ok) hT (ee (hρ _ _ hk)) ht Yo hz bX hg jy bW
     refine lP (τ:=Tr.mk need o.dst (bif ok then .fL [.d (uC (.int kk n0) n f z),.d (.v (.bool (Ci (.int kk n0) n f)))] else .d (uC (.int kk n0) n f z)) [(κ,.mp n f)] [] [] gs) hs hd (x:=bif ok then .tuple #[v,.bool (Ci (.int kk n0) n f)] else v) ?_ (Ho hv) rfl rfl rfl
     simp only [execOp,ho,X0,Sem.run_bind,hrv,Result.andThen_ok,Sem.run_pure]
   ·cases h
  ·rename_i n f kk n0 kt et _ _ _ _ hm hk ht
   split at h
   ·rename_i ik _ _ _ _ z Yo hz
    simp only [Option.some.injEq] at h
    subst h
    have hv:=hρ _ _ hm
    generalize X0:a.eval m=mv at hv
    cases hv with
    | @zN _ _ g hp =>
     obtain ⟨su,cur,hg,jy,bW⟩:=hp
     obtain ⟨v,hrv,hv⟩:=Hp (ok:=ok) hT (ee (hρ _ _ hk)) ht Yo hz bX hg jy bW
     refine lP (τ:=Tr.mk need o.dst (bif ok then .fL [.d (uC (.int kk n0) n f z),.d (.v (.bool (Ci (.int kk n0) n f)))] else .d (uC (.int kk n0) n f z)) [] [] [] gs) hs hd (x:=bif ok then .tuple #[v,.bool (Ci (.int kk n0) n f)] else v) ?_ (Ho hv) rfl rfl rfl
     simp only [execOp,ho,X0,Sem.run_bind,hrv,Result.andThen_ok,Sem.run_pure]
   ·cases h
  ·cases h
 ·cases h
theorem Hq {P:Program} {T:List (Nat × TI)} {lb:List (Nat × bA)} {ρ:Operand→Option AV} {dst:Option Nat} {quiet:Bool} {op:Op} {r:R} (h:OO P T lb ρ dst quiet op=some r) :
  (∀ p,p∈r.ro→look lb p.1=some p.2)∧(∀ p,p∈r.mem→look lb p.1=some p.2)∧(quiet=true→r.mem=[]∧r.fF=[])∧∀ k,k∈r.fF.map (·.1)→k∈r.mem.map (·.1):=by
 unfold OO at h
 have nil:∀ {p:Nat × bA},p∈([]:List (Nat × bA))→look lb p.1=some p.2:=fun h=>by cases h
 have one:∀ {κ:Nat} {b:bA},look lb κ=some b→∀ p,p∈[(κ,b)]→look lb p.1=some p.2:=fun h p hp=>by simp only [List.mem_singleton] at hp; subst hp; exact h
 split at h
 ·split at h
  ·split at h
   ·rename_i hl _; simp only [Option.some.injEq] at h; subst h; exact ⟨fun _=>nil,one hl,fun hq=>(by cases hq),fun k hk=>by simpa using hk⟩
   ·cases h
  ·cases h
 ·split at h
  ·split at h
   ·rename_i hl _ _; simp only [Option.some.injEq] at h; subst h; exact ⟨one hl,fun _=>nil,fun _=>⟨rfl,rfl⟩,fun k hk=>(by cases hk)⟩
   ·cases h
  ·split at h
   ·simp only [Option.some.injEq] at h; subst h; exact ⟨fun _=>nil,fun _=>nil,fun _=>⟨rfl,rfl⟩,fun k hk=>(by cases hk)⟩
   ·cases h
  ·cases h
 ·cases h
end
structure sw where
 n:Nat
 n':Nat
 f:Nat→List D
 f':Nat→List D
 eq:n=n'∧∀ i,i < n→wO (f i) (f' i)
structure OQ where
 x:AV
 y:AV
 le:∀ w S μ ν v,Rel w S μ ν x v→Rel w S μ ν y v
structure Cj where
 n:Nat
 n':Nat
 f:Nat→Value × D
 f':Nat→Value × D
 eq:n=n'∧∀ i,i < n→f i=f' i
inductive zU where
 | flat (res:AV)
 | gen (hand:List Nat) (res:AV) (back:List (Nat × bA))
 | fU (c:sw)
 | rz (c:Cj)
 | cast (d:Nat) (c:OQ)
 | pur (d:Nat)
 | same (κ:Nat) (b':bA)
 | bx (hand:List Nat) (mj:List (Nat × Nat)) (res:AV) (back:List (Nat × bA))
def looks (lb:List (Nat × bA)):List Nat→Option (List (Nat × bA))
 | []=>some []
 | k :: r=>(match look lb k,looks lb r with | some b,some l=>some ((k,b) :: l) | _,_=>none)
def GD (res:AV) (back:List (Nat × bA)):Bool :=
 res.keys.all (fun k=>(back.map (·.1)).contains k)&&back.all (fun p=>p.2.keys.all fun k=>(back.map (·.1)).contains k)
def Me (T:List (Nat × TI)) (lb:List (Nat × bA)) (t:Nat) (ad v:AV):Option R :=
 match look T t,v.cells with
 | some i,some xs=>(match ad with
  | .ptr κ off=>(match look lb κ with
   | some (.box cs)=>bif Nat.beq xs.length i.size&&Nat.ble (off+i.size) cs.length&&uu.ni xs&&xs.all L5 then some ⟨.any,[],[(κ,.box cs)],[(κ,.box (cs.take off++xs++cs.drop (off+i.size)))],.tt⟩ else none
   | _=>none)
  | .wM κ k p off=>(match look lb κ,xO xs with
   | some (.row e k' n f),some ds=>bif Nat.beq k k'&&Nat.beq ds.length i.size&&Nat.ble (off+i.size) k&&ds.all yb then
     some ⟨.any,[],[(κ,.row e k n f)],[(κ,.row e k n fun q=>if q=p then (f p).take off++ds++(f p).drop (off+i.size) else f q)],.pr (p < n)⟩ else none
   | _,_=>none)
  | _=>none)
 | _,_=>none
def V7 (lb:List (Nat × bA)) (k:Nat):AV→Option (Nat × (Nat→List D) × List (Nat × bA) × Ob)
 | .d (.sl m g)=>some (m,g,[],.pr ((∀ i,i < m→(g i).length=k)∧∀ i,i < m→(g i).all yb=true))
 | .d (.v (.slice none 0 0))=>some (0,fun _=>[],[],.tt)
 | .yj m g=>some (m,g,[],.pr ((∀ i,i < m→(g i).length=k)∧∀ i,i < m→(g i).all yb=true))
 | .own κ m=>(match look lb κ with | some (.row e k' m' g)=>bif Nat.beq k k' then some (m,g,[(κ,.row e k' m' g)],(Ob.ne m m').and (.pr (∀ i,i < m→(g i).all yb=true))) else none | _=>none)
 | _=>none
def Hr (T:List (Nat × TI)) (lb:List (Nat × bA)) (dst t:Nat) (dv sv:AV):Option R :=
 match look T t with
 | some { kind:=.slice e,.. }=>(match look T e with
  | some i=>(match V7 lb i.size sv with
   | some (m,g,ro,ob)=>(match dv with
    | .d (.v (.slice none 0 0))=>some ⟨.own dst (0+m),ro,[],[(dst,.row e i.size (0+m) fun q=>if q < 0 then [] else g (q - 0))],ob.and (.pr (0+m≤maxLen∧(0+m) * i.bytes≤140737488355328))⟩
    | .own κ n=>(match look lb κ with
     | some (.row e' k n' f)=>bif Nat.beq e e'&&Nat.beq k i.size&&!Nat.beq dst κ then some ⟨.own dst (n+m),ro,[(κ,.row e' k n' f)],[(dst,.row e i.size (n+m) fun q=>if q < n then f q else g (q - n))],ob.and ((Ob.ne n n').and (.pr (n+m≤maxLen∧(n+m) * i.bytes≤140737488355328)))⟩ else none
     | _=>none)
    | _=>none)
   | none=>none)
  | none=>none)
 | _=>none
def GF (lb:List (Nat × bA)) (κ:Nat):Bool:=match look lb κ with | some (.box _)=>true | _=>false
def V8 (κ:Nat):AV→Bool
 | .ptr k 0=>Nat.beq k κ
 | _=>false
def Yq (args:List AV) (hand:List Nat) (cU:List (Nat × bA)) (mj:List (Nat × Nat)) (res:AV) (back:List (Nat × bA)):Bool :=
 mj.all (fun p=>Nat.ble (p.1+1) args.length&&V8 p.2 (args.getD p.1 default)&&GF cU p.2&&GF back p.2) &&
 back.all (fun q=>(mj.map (·.2)).contains q.1||!hand.contains q.1) &&
 res.keys.all (fun k=>(back.map (·.1)).contains k&&!(mj.map (·.2)).contains k) &&
 back.all (fun q=>q.2.keys.all fun k=>(back.map (·.1)).contains k&&!(mj.map (·.2)).contains k)
def Rs (P:Program) (lb:List (Nat × bA)) (quiet:Bool) (cf:AV) (args:List AV):List zU→Option (R × List zU)
 | .flat res :: jL=>(match cf with
  | .fn f cE=>(match vN lb (args++cE) with
   | some (E2,ro,ob)=>bif fH res then some (⟨res,ro,[],[],ob.and (.pr (gu P f E2 [] res []))⟩,jL) else none
   | none=>none)
  | _=>none)
 | .gen hand res back :: jL=>(match cf with
  | .fn f cE=>(match looks lb hand with
   | some cU=>bif uu.ni (args++cE)&&GD res back&&uu res&&(!quiet||(hand.isEmpty&&back.isEmpty))&&back.all (fun p=>!hand.contains p.1) then some (⟨res,[],cU,back,.pr (gu P f (args++cE) cU res back)⟩,jL) else none
   | none=>none)
  | _=>none)
 | .same κ b' :: jL=>(match cf with
  | .fn f cE=>(match look lb κ with
   | some b=>bif uu.ni (args++cE)&&!quiet then some (⟨.any,[],[(κ,b)],[(κ,b')],.pr (FnS P f (args++cE) κ b b')⟩,jL) else none
   | none=>none)
  | _=>none)
 | .bx hand mj res back :: jL=>(match cf with
  | .fn f cE=>(match looks lb hand with
   | some cU=>bif uu.ni (args++cE)&&Yq (args++cE) hand cU mj res back&&uu res&&!quiet then some (⟨res,[],cU,back,.pr (FnB P f (args++cE) cU res back mj)⟩,jL) else none
   | none=>none)
  | _=>none)
 | _=>none
def Zz (quiet:Bool) (dst:Option Nat) (jL:List zU):Option (List zU) :=
 match quiet with
 | true=>some jL
 | false=>(match dst,jL with
  | some t,.pur d :: r=>bif Nat.beq t d then some r else none
  | _,_=>none)
def OS (P:Program) (T:List (Nat × TI)) (lb:List (Nat × bA)) (ρ:Operand→Option AV) (dst:Option Nat) (quiet:Bool) (jL:List zU) (op:Op):Option (R × List zU) :=
 match op with
 | .alloc t=>(match quiet,dst,look T t with | false,some d,some i=>some (⟨.ptr d 0,[],[],[(d,.box (i.zero.map .d))],.tt⟩,jL) | _,_,_=>none)
 | .box _ x=>(match quiet,dst,ρ x with
  | false,some d,some v=>(match v.cells with
   | some cs=>(match Zz false (some d) jL,xO cs with
    | some sI,some ds=>some (⟨.ref ds,[],[],[],.tt⟩,sI)
    | _,_=>bif uu.ni cs&&!(AV.qe cs).contains d then some (⟨.ptr d 0,[],[],[(d,.box cs)],.tt⟩,jL) else none)
   | none=>none)
  | _,_,_=>none)
 | .buildSlice t len ps=>(match tB T ρ t len ps.toList with
  | some (e,k,ds)=>(match Zz quiet dst jL with
   | some jL=>some (⟨.d (.sl len (Bh k len ds)),[],[],[],.tt⟩,jL)
   | none=>(match quiet,dst with
    | false,some d=>some (⟨.own d len,[],[],[(d,.row e k len (Bh k len ds))],.tt⟩,jL)
    | _,_=>none))
  | none=>none)
 | .store t ad x=>(match quiet,dst,ρ ad,ρ x with
  | false,none,some av,some v=>(match Me T lb t av v with | some r=>some (r,jL) | none=>none)
  | _,_,_,_=>none)
 | .call { callee:=.builtin .append,args:=xs,argTypes:=ts }=>(match quiet,dst,xs.toList,ts.toList with
  | false,some d,[s,x],[t,t']=>(match Nat.beq t t',ρ s,ρ x with
   | true,some dv,some sv=>(match Hr T lb d t dv sv with | some r=>some (r,jL) | none=>none)
   | _,_,_=>none)
  | _,_,_,_=>none)
 | .call { callee:=.value cf,args:=xs,.. }=>(match ρ cf,rW ρ xs.toList with
  | some c,some l=>Rs P lb quiet c l jL
  | _,_=>none)
 | .makeSlice t l c=>(match quiet,dst,look T t,ρ l,ρ c with
  | false,some d,some { kind:=.slice e,.. },some (.d (.v (.int _ n))),some (.d (.v (.int _ m)))=>(match look T e with
   | some i=>some (⟨.own d n.toNat,[],[],[(d,.row e i.size n.toNat fun _=>i.zero)],(Ob.ze n m).and (.pr (0≤n∧n.toNat≤maxLen∧n.toNat * i.bytes≤140737488355328))⟩,jL)
   | none=>none)
  | _,_,_,_,_=>none)
 | op=>(match L9 T ρ op with
  | some (v,ob)=>some (⟨v,[],[],[],ob⟩,jL)
  | none=>(match evV T lb ρ op with | some (v,ro,ob)=>some (⟨v,ro,[],[],ob⟩,jL) | none=>none))
def V9 (T:List (Nat × TI)) (ρ:Operand→Option AV):Op→Option (AV × Ob)
 | .build t ps=>(match look T t,yC ρ ps.toList with
  | some { kind:=.array _ e,zero:=z,.. },some vs=>(match look T e with
   | some ie=>(match G5 (fun q=>some (q * ie.size,ie.size)) (z.map .d) vs with | some cs=>some (Oo cs,.tt) | none=>none)
   | none=>none)
  | _,_=>none)
 | .indexAddr t x i=>(match look T t,ρ x,ρ i with
  | some { kind:=.array n e,.. },some (.ptr κ off),some (.d (.v (.int _ q)))=>(match look T e with | some ie=>some (.ptr κ (off+q.toNat * ie.size),.pr (0≤q∧q < n)) | none=>none)
  | some { kind:=.array n e,.. },some (.ref cs),some (.d (.v (.int _ q)))=>(match look T e with | some ie=>some (.ref (cs.drop (q.toNat * ie.size)),.pr (0≤q∧q < n)) | none=>none)
  | _,_,_=>none)
 | _=>none
def OT (P:Program) (T:List (Nat × TI)) (lb:List (Nat × bA)) (ρ:Operand→Option AV) (dst:Option Nat) (quiet:Bool) (jL:List zU) (op:Op):Option (R × List zU) :=
 match OO P T lb ρ dst quiet op with
 | some r=>some (r,jL)
 | none=>(match Hn T lb ρ dst quiet op with
 | some r=>some (r,jL)
 | none=>(match V9 T ρ op with
 | some (v,ob)=>some (⟨v,[],[],[],ob⟩,jL)
 | none=>OS P T lb ρ dst quiet jL op))
def adv:Op→Bool
 | .buildSlice .. | .slice .. | .store .. | .makeSlice .. | .convert ..=>true
 | .call { callee:=.builtin .append,.. }=>true
 | _=>false
def OU (c:sw) (r:R):Option R :=
 match r.fF with
 | [(κ,.row e k n f)]=>(match r.v with
  | .own κ' m=>bif Nat.beq κ' κ then some ⟨.own κ' c.n',r.ro,r.mem,[(κ,.row e k c.n' c.f')],r.ob.and ((Ob.ne m c.n).and ((Ob.ne n c.n).and (.fe f c.f)))⟩ else none
  | .any=>some ⟨.any,r.ro,r.mem,[(κ,.row e k c.n' c.f')],r.ob.and ((Ob.ne n c.n).and (.fe f c.f))⟩
  | _=>none)
 | []=>(match r.v with
  | .d (.sl n f)=>some ⟨.d (.sl c.n' c.f'),r.ro,r.mem,[],r.ob.and ((Ob.ne n c.n).and (.fe f c.f))⟩
  | _=>none)
 | _=>none
def OV (c:Cj) (r:R):Option R :=
 match r.fF with
 | [(κ,.mp n f)]=>(match r.v with
  | .any=>some ⟨.any,r.ro,r.mem,[(κ,.mp c.n' c.f')],r.ob.and ((Ob.ne n c.n).and (.me f c.f))⟩
  | .vE q=>some ⟨.vE q,r.ro,r.mem,[(κ,.mp c.n' c.f')],r.ob.and ((Ob.ne n c.n).and (.me f c.f))⟩
  | _=>none)
 | _=>none
def ZA (c:OQ) (r:R):R:=⟨c.y,r.ro,r.mem,r.fF,r.ob.and (.ve r.v c.x)⟩
def Wa (P:Program) (T:List (Nat × TI)) (lb:List (Nat × bA)) (ρ:Operand→Option AV) (dst:Option Nat) (quiet:Bool) (jL:List zU) (op:Op):Option (R × List zU) :=
 match OT P T lb ρ dst quiet jL op with
 | some (r,J5)=>(match adv op,J5 with
  | true,.fU c :: Ru=>(match OU c r with | some r'=>some (r',Ru) | none=>some (r,J5))
  | _,.rz c :: Ru=>(match OV c r with | some r'=>some (r',Ru) | none=>some (r,J5))
  | _,.cast d c :: Ru=>(match dst with | some t=>bif Nat.beq t d then some (ZA c r,Ru) else some (r,J5) | none=>some (r,J5))
  | _,_=>some (r,J5))
 | none=>none
section
variable {C : Cx} {A : M} {a : Act} {w : World} {S : Nat → Prop} {μ : Mu} {ν : Nat → Bool}
theorem DQ {lb:List (Nat × bA)}:∀ {ks:List Nat} {l:List (Nat × bA)},looks lb ks=some l→l.map (·.1)=ks
 | [],l,h=>by simp only [looks,Option.some.injEq] at h; subst h; rfl
 | k :: r,l,h=>by
  simp only [looks] at h
  cases h1:look lb k with
  | none=>rw [h1] at h; cases h
  | some b =>
   cases h2:looks lb r with
   | none=>rw [h1,h2] at h; cases h
   | some l' =>
    rw [h1,h2] at h
    simp only [Option.some.injEq] at h
    subst h
    simp [DQ h2]
theorem aai {T:List (Nat × TI)} (hT:mX C.P T) (hs:c6 C A a w S μ ν) {lb:List (Nat × bA)} {o:Oper} {ρ:Operand→Option AV} (hρ:∀ x y,ρ x=some y→Rel w S μ ν y (a.eval x)) (hd:∀ t,o.dst=some t→t < C.nt)
  {v:AV} {ro:List (Nat × bA)} {ob:Ob} (h:evV T lb ρ o.op=some (v,ro,ob)) (mi:∀ p,p∈ro→A.lb p.1=some p.2) (bX:ob.den) (need:List (Nat × AV)) (gs:List (Nat × Bool)) :
  o.wp C.P a w (fun a' w'=>∃ S' μ',c6 C ((Tr.mk need o.dst v ro [] [] gs).apply A) a' w' S' μ' ν) (fun _ _ _=>False):=by
 obtain ⟨x,h1,h2⟩:=Uj hT hs hρ h mi bX
 exact lP hs hd h1 h2 rfl rfl rfl
theorem Mf {o:Oper} {t:TypeId} {ds:List D} {τ:Tr} (hs:c6 C A a w S μ ν) (hd:∀ t,o.dst=some t→t < C.nt) {vs:Array Value}
  (gy:(execOp a.eval o).run C.P w=.ok (.value (.pointer (some ⟨w.heap.size,0,none⟩))) (w.alloc (.cells vs t))) (hr:dy w S μ ν (ds.map .d) vs.toList)
  (h0:τ.v=.ref ds) (h1:τ.dst=o.dst) (h2:τ.mem=[]) (h3:τ.fF=[]) :
  o.wp C.P a w (fun a' w'=>∃ S' μ',c6 C (τ.apply A) a' w' S' μ' ν) (fun _ _ _=>False):=by
 unfold Oper.wp
 rw [gy]
 let S':Nat→Prop:=fun q=>S q∨q=w.heap.size
 have h4:=hs.world (S':=S') (w':=w.alloc (.cells vs t)) (fun _ x=>.inl x) (fun q hq=>hq.elim .inl (fun e=>.inr ⟨by omega,by rw [e]; simp⟩)) (oe w _ _)
 have hl:=hr.1
 simp only [List.length_map,Array.length_toList] at hl
 have V3:∀ ν,Rel (w.alloc (.cells vs t)) S' μ ν (.ref ds) (.pointer (some ⟨w.heap.size,0,none⟩)):=fun ν'=>by
  refine .ref (fun j=>vs.toList.getD j undef) (fun j hj=>⟨.inr rfl,?_⟩) (fun j hj=>?_)
  ·rw [gA _ _ _ vs t (0,0) (heap_alloc_new w _)]
   have eC:j < vs.size:=by omega
   simp [List.getD,eC]
  ·have:=hr.2 j (by simpa using hj)
   rw [jY _ j hj] at this
   exact (iE.1 this).mono (fun _ x=>.inl x) (fun q hq=>heap_alloc_old w _ (hs.bound q hq))
 have h5:=h4.put (dst:=o.dst) (x:=.ref ds) (v:=.pointer (some ⟨w.heap.size,0,none⟩)) hd (V3 ν)
 refine ⟨S',μ,?_⟩
 have e:τ.apply A=A.vI o.dst (.ref ds):=by
  unfold Tr.apply M.vI M.put
  rw [h0,h1,h2,h3]
  cases ho:o.dst with
  | none=>simp [look]
  | some d =>
   simp only [look,List.map_nil,List.not_mem_nil,if_false,Option.some.injEq]
   congr 1
   funext t
   by_cases c:d=t
   ·simp [c]
   ·have:¬ t=d:=fun e=>c e.symm
    simp [c,this]
 rw [e]
 exact h5
theorem OW {T:List (Nat × TI)} (hT:mX C.P T) (hs:c6 C A a w S μ ν) {lb:List (Nat × bA)} {o:Oper} {ρ:Operand→Option AV} (hρ:∀ x y,ρ x=some y→Rel w S μ ν y (a.eval x)) (hd:∀ t,o.dst=some t→t < C.nt) {quiet:Bool} {jL sI:List zU} {r:R}
  (h:OS C.P T lb ρ o.dst quiet jL o.op=some (r,sI)) (mi:∀ p,p∈r.ro→A.lb p.1=some p.2) (jZ:∀ p,p∈r.mem→A.lb p.1=some p.2) (bX:r.ob.den) (vG:∀ κ,κ∈(r.fF.map (·.1)).filter (fun k=>!(r.mem.map (·.1)).contains k)→jW A κ) (need:List (Nat × AV)) (gs:List (Nat × Bool)) :
  o.wp C.P a w (fun a' w'=>∃ S' μ',c6 C ((Tr.mk need o.dst r.v r.ro r.mem r.fF gs).apply A) a' w' S' μ' ν) (fun _ _ _=>False):=by
 unfold OS at h
 split at h
 all_goals rename_i ho
 ·rename_i t0
  split at h
  ·rename_i d i dU hi
   simp only [Option.some.injEq,Prod.mk.injEq] at h
   obtain ⟨rfl,-⟩:=h
   obtain ⟨ti,z,F⟩:=aD (hT _ _ hi)
   obtain ⟨q1,q2⟩:=jX (w:=w) (S:=S) F.XU
   have hz:dy w S μ ν (i.zero.map .d) z.cells.toList:=by
    refine ⟨by simpa using q1,fun j hj=>?_⟩
    simp only [List.length_map] at hj
    rw [jY _ j hj]
    exact .d (q2 j hj)
   have hng:∀ l:List D,uu.ni (l.map AV.d)=true:=fun l=>by induction l with | nil=>rfl | cons x r ih=>simpa [uu.ni,uu] using ih
   have Tf:∀ l:List D,AV.qe (l.map AV.d)=[]:=fun l=>by induction l with | nil=>rfl | cons x r ih=>simpa [AV.qe,AV.keys] using ih
   rw [dU]
   refine OD (t:=t0) hs dU (hd d dU) (vs:=z.cells) ?_ hz (hng _) (vG d (by simp)) (by rw [Tf]; simp)
   simp only [execOp,ho,Instr.alloc,zeroValue,typeInfo,Sem.run_bind,run_program,Result.andThen_ok,F.info,Sem.run_pure,F.zero,newVar,newRow,run_newObj]
   rfl
  ·cases h
 ·rename_i t0 x0
  split at h
  ·rename_i d v dU hx
   split at h
   ·rename_i cs hc
    split at h
    ·rename_i sI ds _ hp
     simp only [Option.some.injEq,Prod.mk.injEq] at h
     obtain ⟨rfl,-⟩:=h
     have ecs:=tz hp
     subst ecs
     refine Mf (t:=t0) (ds:=ds) hs hd ?_ (od hc (hρ _ _ hx)) rfl rfl rfl rfl
     simp only [execOp,ho,Instr.box,newVar,newRow,Sem.run_bind,run_newObj,Result.andThen_ok,Sem.run_pure]
     rfl
    cases hb:(uu.ni cs&&!(AV.qe cs).contains d) with
    | false=>rw [hb] at h; cases h
    | true =>
     rw [hb] at h
     simp only [cond_true,Option.some.injEq,Prod.mk.injEq] at h
     obtain ⟨rfl,-⟩:=h
     simp only [Bool.and_eq_true,Bool.not_eq_true',List.contains_eq_mem,decide_eq_false_iff_not] at hb
     rw [dU]
     refine OD (t:=t0) hs dU (hd d dU) ?_ (od hc (hρ _ _ hx)) hb.1 (vG d (by simp)) hb.2
     simp only [execOp,ho,Instr.box,newVar,newRow,Sem.run_bind,run_newObj,Result.andThen_ok,Sem.run_pure]
     rfl
   ·cases h
  ·cases h
 ·split at h
  ·rename_i e k ds Yr
   split at h
   ·simp only [Option.some.injEq,Prod.mk.injEq] at h
    obtain ⟨rfl,-⟩:=h
    exact Hj hT hs hd ho hρ Yr rfl rfl rfl rfl
   ·split at h
    ·rename_i d dU _
     simp only [Option.some.injEq,Prod.mk.injEq] at h
     obtain ⟨rfl,-⟩:=h
     rw [dU]
     exact Fx hT hs dU (hd d dU) ho hρ Yr (vG d (by simp))
    ·cases h
  ·cases h
 ·split at h
  ·rename_i av v dU Vt hv
   split at h
   ·rename_i r' kj
    simp only [Option.some.injEq,Prod.mk.injEq] at h
    obtain ⟨rfl,-⟩:=h
    rw [dU]
    unfold Me at kj
    split at kj
    ·rename_i i xs hi hc
     split at kj
     ·rename_i κ off
      split at kj
      ·rename_i cs hl
       cases hb:(Nat.beq xs.length i.size&&Nat.ble (off+i.size) cs.length&&uu.ni xs&&xs.all L5) with
       | false=>rw [hb] at kj; cases kj
       | true =>
        rw [hb] at kj
        simp only [Bool.and_eq_true] at hb
        simp only [cond_true,Option.some.injEq] at kj
        subst kj
        exact G9 hs (hT _ _ hi) ho dU (hρ _ _ Vt) (hρ _ _ hv) (jZ (κ,.box cs) (by simp)) hc (Nat.eq_of_beq_eq_true hb.1.1.1) (Nat.le_of_ble_eq_true hb.1.1.2) hb.1.2 hb.2 _
      ·cases kj
     ·rename_i κ k p off
      split at kj
      ·rename_i e k' n f ds hl hp
       cases hb:(Nat.beq k k'&&Nat.beq ds.length i.size&&Nat.ble (off+i.size) k&&ds.all yb) with
       | false=>rw [hb] at kj; cases kj
       | true =>
        rw [hb] at kj
        simp only [Bool.and_eq_true] at hb
        simp only [cond_true,Option.some.injEq] at kj
        subst kj
        exact Hc hs (hT _ _ hi) ho dU (hρ _ _ Vt) (hρ _ _ hv) (jZ (κ,.row e k n f) (by simp)) hc hp (Nat.eq_of_beq_eq_true hb.1.1.2) (Nat.le_of_ble_eq_true hb.1.2) bX hb.2 _
      ·cases kj
     ·cases kj
    ·cases kj
   ·cases h
  ·cases h
 ·rename_i xs ts
  split at h
  ·rename_i d s x t t' dU Yj VT
   split at h
   ·rename_i dv sv htt hdv Ym
    split at h
    ·rename_i r' yk
     simp only [Option.some.injEq,Prod.mk.injEq] at h
     obtain ⟨rfl,-⟩:=h
     rw [dU]
     have e1:=Nat.eq_of_beq_eq_true htt
     subst e1
     have SS:o.op=.call { callee:=.builtin .append,args:=#[s,x],argTypes:=#[t,t] }:=by
      rw [ho]
      congr 2
      ·cases xs; simpa using Yj
      ·cases ts; simpa using VT
     unfold Hr at yk
     split at yk
     ·rename_i e _ _ _ _ hl
      split at yk
      ·rename_i i hi
       split at yk
       ·rename_i m g Lb B3 lf
        have src:B3.den→(∀ p,p∈Lb→A.lb p.1=some p.2)→∃ ys,OE w S i.size m g (a.eval x) ys:=by
         intro Hs adw
         have hr:=hρ _ _ Ym
         unfold V7 at lf
         split at lf
         ·simp only [Option.some.injEq,Prod.mk.injEq] at lf
          obtain ⟨rfl,rfl,rfl,rfl⟩:=lf
          exact OG (iE.1 hr) Hs.1 Hs.2
         ·simp only [Option.some.injEq,Prod.mk.injEq] at lf
          obtain ⟨rfl,rfl,rfl,rfl⟩:=lf
          have:=cJ rfl hr
          exact ⟨[],⟨⟨by simp,fun i hi=>absurd hi (by omega)⟩,fun u hu=>(by cases hu),.inl ⟨this,rfl⟩⟩⟩
         ·simp only [Option.some.injEq,Prod.mk.injEq] at lf
          obtain ⟨rfl,rfl,rfl,rfl⟩:=lf
          generalize a.eval x=xv at hr
          cases hr with
          | yj hd=>exact OG hd Hs.1 Hs.2
         ·rename_i κ m0
          split at lf
          ·rename_i e2 k2 m2 g2 vc
           cases hb:Nat.beq i.size k2 with
           | false=>rw [hb] at lf; cases lf
           | true =>
            rw [hb] at lf
            have e3:=Nat.eq_of_beq_eq_true hb
            simp only [cond_true,Option.some.injEq,Prod.mk.injEq] at lf
            obtain ⟨rfl,rfl,rfl,rfl⟩:=lf
            have Q7:=adw (κ,.row e2 k2 m2 g2) (by simp)
            obtain ⟨o5,o6⟩:=Ob.cH Hs
            rw [← e3,← (show _=_ from o5)] at Q7
            exact Yl hs Q7 hr o6
          ·cases lf
         ·cases lf
        split at yk
        ·simp only [Option.some.injEq] at yk
         subst yk
         obtain ⟨o1,o2,o3⟩:=Ob.cH bX
         obtain ⟨ys,hys⟩:=src o1 mi
         exact E0 hs dU (hd d dU) (hT _ _ hl) rfl (hT _ _ hi) SS (hρ _ _ hdv) (.nil (fun _=>[])) rfl hys o2 o3 (vG d (by simp))
        ·rename_i κ n
         split at yk
         ·rename_i e' k n' f vc
          cases hb:(Nat.beq e e'&&Nat.beq k i.size&&!Nat.beq d κ) with
          | false=>rw [hb] at yk; cases yk
          | true =>
           rw [hb] at yk
           simp only [cond_true,Option.some.injEq] at yk
           subst yk
           simp only [Bool.and_eq_true] at hb
           have e4:=Nat.eq_of_beq_eq_true hb.1.1
           have e5:=Nat.eq_of_beq_eq_true hb.1.2
           obtain ⟨o1,o7⟩:=Ob.cH bX
           obtain ⟨o2,o3,o4⟩:=Ob.cH o7
           have o2:n=n':=o2
           subst e4; subst e5; subst o2
           obtain ⟨ys,hys⟩:=src o1 mi
           have hκ:=jZ (κ,.row e i.size n f) (by simp)
           have xN:d ∉ [κ]:=fun hc=>by
            simp only [List.mem_singleton] at hc
            subst hc
            have:=hb.2
            rw [Nat.beq_refl] at this
            cases this
           exact E0 hs dU (hd d dU) (hT _ _ hl) rfl (hT _ _ hi) SS (hρ _ _ hdv) (.own hκ) rfl hys o3 o4 (vG d (by simpa using xN))
         ·cases yk
        ·cases yk
       ·cases yk
      ·cases yk
     ·cases yk
    ·cases h
   ·cases h
  ·cases h
 ·rename_i cf xs _
  split at h
  ·rename_i c l hc hl
   have lr:=lQ hρ xs.toList l hl
   unfold Rs at h
   split at h
   ·rename_i res Ut
    split at h
    ·rename_i f cE
     split at h
     ·rename_i E2 Lb B3 hb
      cases XX:fH res with
      | false=>rw [XX] at h; cases h
      | true =>
       rw [XX] at h
       simp only [cond_true,Option.some.injEq,Prod.mk.injEq] at h
       obtain ⟨rfl,-⟩:=h
       exact Hg hs hd ho (hρ _ _ hc) lr hb mi (Ob.cH bX).1 (Ob.cH bX).2 XX rfl rfl rfl rfl
     ·cases h
    ·cases h
   ·rename_i hand res back Ut
    split at h
    ·rename_i f cE
     split at h
     ·rename_i cU vc
      cases hb:(uu.ni (l++cE)&&GD res back&&uu res&&(!quiet||(hand.isEmpty&&back.isEmpty))&&back.all (fun p=>!hand.contains p.1)) with
      | false=>rw [hb] at h; cases h
      | true =>
       rw [hb] at h
       simp only [cond_true,Option.some.injEq,Prod.mk.injEq] at h
       obtain ⟨rfl,-⟩:=h
       simp only [Bool.and_eq_true,GD,List.all_eq_true,List.contains_eq_mem,decide_eq_true_eq,Bool.not_eq_true',decide_eq_false_iff_not] at hb
       obtain ⟨⟨⟨⟨h1,h2,h3⟩,h4⟩,h5⟩,h6⟩:=hb
       refine Uo hs hd ho (hρ _ _ hc) lr h1 bX jZ (fun k hk=>vG k ?_) h2 h3
       have Wb:=DQ vc
       simp only [List.mem_filter,Bool.not_eq_true',List.contains_eq_mem,decide_eq_false_iff_not]
       refine ⟨hk,?_⟩
       rw [Wb]
       obtain ⟨p,hp,rfl⟩:=List.mem_map.1 hk
       exact h6 p hp
     ·cases h
    ·cases h
   ·rename_i κ b' Ut
    split at h
    ·rename_i f cE
     split at h
     ·rename_i b vc
      cases hb:(uu.ni (l++cE)&&!quiet) with
      | false=>rw [hb] at h; cases h
      | true =>
       rw [hb] at h
       simp only [cond_true,Option.some.injEq,Prod.mk.injEq] at h
       obtain ⟨rfl,-⟩:=h
       simp only [Bool.and_eq_true] at hb
       exact Hi hs hd ho (hρ _ _ hc) lr hb.1 bX (jZ (κ,b) (by simp))
     ·cases h
    ·cases h
   ·rename_i hand mj res back Ut
    split at h
    ·rename_i f cE
     split at h
     ·rename_i cU vc
      cases hb:(uu.ni (l++cE)&&Yq (l++cE) hand cU mj res back&&uu res&&!quiet) with
      | false=>rw [hb] at h; cases h
      | true =>
       rw [hb] at h
       simp only [cond_true,Option.some.injEq,Prod.mk.injEq] at h
       obtain ⟨rfl,-⟩:=h
       simp only [Bool.and_eq_true,Yq,List.all_eq_true,List.contains_eq_mem,decide_eq_true_eq,Bool.not_eq_true',decide_eq_false_iff_not,Bool.or_eq_true] at hb
       obtain ⟨⟨⟨h1,⟨⟨h2,h3⟩,h4⟩,h5⟩,h6⟩,h7⟩:=hb
       have Wb:=DQ vc
       have box:∀ (lb:List (Nat × bA)) κ,GF lb κ=true→∃ cs,look lb κ=some (.box cs):=fun lb κ h=>by
        unfold GF at h
        split at h
        ·exact ⟨_,by assumption⟩
        ·cases h
       have ptr:∀ κ x,V8 κ x=true→x=.ptr κ 0:=fun κ x h=>by
        unfold V8 at h
        split at h
        ·rw [Nat.eq_of_beq_eq_true h]
        ·cases h
       refine L8 hs hd ho (hρ _ _ hc) lr h1 bX (fun p hp=>?_) jZ (fun k hk hn=>vG k ?_) h4 h5
       ·obtain ⟨⟨⟨a1,a2⟩,a3⟩,a4⟩:=h2 p hp
        exact ⟨Nat.le_of_ble_eq_true a1,ptr _ _ a2,box _ _ a3,box _ _ a4⟩
       ·simp only [List.mem_filter,Bool.not_eq_true',List.contains_eq_mem,decide_eq_false_iff_not]
        refine ⟨hk,?_⟩
        rw [Wb]
        obtain ⟨p,hp,rfl⟩:=List.mem_map.1 hk
        exact (h3 p hp).resolve_left hn
     ·cases h
    ·cases h
   ·cases h
  ·cases h
 ·split at h
  ·rename_i d e _ _ _ _ kl n kc m dU ht hl hc
   split at h
   ·rename_i i hi
    simp only [Option.some.injEq,Prod.mk.injEq] at h
    obtain ⟨rfl,-⟩:=h
    have Hs:((Ob.ze n m).and (.pr (0≤n∧n.toNat≤maxLen∧n.toNat * i.bytes≤140737488355328))).den:=bX
    obtain ⟨o1,o2,o3,o4⟩:=Ob.cH Hs
    have o1:n=m:=o1
    subst o1
    rw [dU]
    exact Up hT hs dU (hd d dU) ho ht rfl hi (ee (hρ _ _ hl)) (ee (hρ _ _ hc)) o2 o3 o4 (vG d (by simp))
   ·cases h
  ·cases h
 ·split at h
  ·rename_i v B3 hv
   simp only [Option.some.injEq,Prod.mk.injEq] at h
   obtain ⟨rfl,-⟩:=h
   exact Rq hT hs hρ hd hv bX need _ gs
  ·split at h
   ·rename_i v Lb B3 hv
    simp only [Option.some.injEq,Prod.mk.injEq] at h
    obtain ⟨rfl,-⟩:=h
    exact aai hT hs hρ hd hv mi bX need gs
   ·cases h
theorem OX {T:List (Nat × TI)} (hT:mX C.P T) {o:Oper} {ρ:Operand→Option AV} (hρ:∀ x y,ρ x=some y→Rel w S μ ν y (a.eval x)) {v:AV} {ob:Ob} (h:V9 T ρ o.op=some (v,ob)) (bX:ob.den) :
  ∃ x,(execOp a.eval o).run C.P w=.ok (.value x) w∧Rel w S μ ν v x:=by
 unfold V9 at h
 split at h
 ·rename_i t ps ho
  split at h
  ·rename_i n e _ _ z _ vs hl hv
   split at h
   ·rename_i ie he
    split at h
    ·rename_i cs Ca
     simp only [Option.some.injEq,Prod.mk.injEq] at h
     obtain ⟨rfl,-⟩:=h
     obtain ⟨ti,zz,F⟩:=aD (hT t _ hl)
     have hu:=wR F.kind
     obtain ⟨te,ze,G⟩:=aD (hT e _ he)
     have jy:(sizeOf e).run C.P w=.ok ie.size w:=by simp [sizeOf,typeInfo,G.info,G.size]
     obtain ⟨q1,q2⟩:=jX (w:=w) (S:=S) F.XU
     have hz:dy w S μ ν (z.map .d) zz.cells.toList:=by
      refine ⟨by simpa using q1,fun i hi=>?_⟩
      simp only [List.length_map] at hi
      rw [jY z i hi]
      exact .d (q2 i hi)
     obtain ⟨v1,v2⟩:=wV hρ ps.toList vs hv
     obtain ⟨G6,hf,hr⟩:=zQ (fun q=>some (q * ie.size,ie.size)) vs (ps.toList.map fun p=>(p.1,a.eval p.2)) (z.map .d) cs zz.cells hz v1 v2 Ca
     refine ⟨.agg G6,?_,zP (by have:=hr.1; simpa using this) (fun i hi=>by rw [cN]; exact hr.2 i hi)⟩
     have Zw:(ps.map fun (i,x)=>(i,a.eval x)).toList=ps.toList.map fun p=>(p.1,a.eval p.2):=by simp
     simp only [execOp,ho,Instr.build,Sem.run_bind,zeroValue,typeInfo,run_program,Result.andThen_ok,F.info,Sem.run_pure,F.zero,run_underlying hu,jy,Zw]
     rw [hf]
     simp
    ·cases h
   ·cases h
  ·cases h
 ·rename_i t x i ho
  split at h
  ·rename_i n e _ _ _ _ κ off kk q hl hx hi
   split at h
   ·rename_i ie he
    simp only [Option.some.injEq,Prod.mk.injEq] at h
    obtain ⟨rfl,rfl⟩:=h
    have bX:0≤q∧q < n:=bX
    obtain ⟨ti,zz,F⟩:=aD (hT t _ hl)
    have hu:=wR F.kind
    obtain ⟨te,ze,G⟩:=aD (hT e _ he)
    have jy:(sizeOf e).run C.P w=.ok ie.size w:=by simp [sizeOf,typeInfo,G.info,G.size]
    have X2:=hρ _ _ hx
    have Vv:=ee (hρ _ _ hi)
    generalize Vt:a.eval x=av at X2
    cases X2 with
    | @ptr _ _ g cap hμ =>
     refine ⟨.pointer (some ⟨g,off+q.toNat * ie.size,none⟩),?_,.ptr hμ⟩
     simp [execOp,ho,Vt,Vv,Instr.indexAt,asIntOf,run_underlying hu,Instr.sureAddr,bX,jy,gX]
   ·cases h
  ·rename_i n e _ _ _ _ cs kk q hl hx hi
   split at h
   ·rename_i ie he
    simp only [Option.some.injEq,Prod.mk.injEq] at h
    obtain ⟨rfl,rfl⟩:=h
    have bX:0≤q∧q < n:=bX
    obtain ⟨ti,zz,F⟩:=aD (hT t _ hl)
    have hu:=wR F.kind
    obtain ⟨te,ze,G⟩:=aD (hT e _ he)
    have jy:(sizeOf e).run C.P w=.ok ie.size w:=by simp [sizeOf,typeInfo,G.info,G.size]
    have X2:=hρ _ _ hx
    have Vv:=ee (hρ _ _ hi)
    generalize Vt:a.eval x=av at X2
    cases X2 with
    | @ref _ b o' fV bW hr =>
     refine ⟨.pointer (some ⟨b,o'+q.toNat * ie.size,none⟩),?_,.ref (fun j=>fV (q.toNat * ie.size+j)) (fun j hj=>?_) (fun j hj=>?_)⟩
     ·simp [execOp,ho,Vt,Vv,Instr.indexAt,asIntOf,run_underlying hu,Instr.sureAddr,bX,jy,gX]
     ·simp only [List.length_drop] at hj
      have:=bW (q.toNat * ie.size+j) (by omega)
      rw [← Nat.add_assoc] at this
      exact this
     ·simp only [List.length_drop] at hj
      have:=hr (q.toNat * ie.size+j) (by omega)
      simpa [List.getD] using this
   ·cases h
  ·cases h
 ·cases h
theorem km {T:List (Nat × TI)} (hT:mX C.P T) (hs:c6 C A a w S μ ν) {lb:List (Nat × bA)} {o:Oper} {ρ:Operand→Option AV} (hρ:∀ x y,ρ x=some y→Rel w S μ ν y (a.eval x)) (hd:∀ t,o.dst=some t→t < C.nt) {quiet:Bool} {jL sI:List zU} {r:R}
  (h:OT C.P T lb ρ o.dst quiet jL o.op=some (r,sI)) (mi:∀ p,p∈r.ro→A.lb p.1=some p.2) (jZ:∀ p,p∈r.mem→A.lb p.1=some p.2) (bX:r.ob.den) (vG:∀ κ,κ∈(r.fF.map (·.1)).filter (fun k=>!(r.mem.map (·.1)).contains k)→jW A κ) (need:List (Nat × AV)) (gs:List (Nat × Bool)) :
  o.wp C.P a w (fun a' w'=>∃ S' μ',c6 C ((Tr.mk need o.dst r.v r.ro r.mem r.fF gs).apply A) a' w' S' μ' ν) (fun _ _ _=>False):=by
 unfold OT at h
 split at h
 ·rename_i r' hm
  simp only [Option.some.injEq,Prod.mk.injEq] at h
  obtain ⟨rfl,-⟩:=h
  exact OP hT hs hρ hd hm mi jZ bX need gs
 split at h
 ·rename_i r' hm
  simp only [Option.some.injEq,Prod.mk.injEq] at h
  obtain ⟨rfl,-⟩:=h
  exact Mc hT hs hρ hd hm mi jZ bX vG need gs
 split at h
 ·rename_i v ob hm
  simp only [Option.some.injEq,Prod.mk.injEq] at h
  obtain ⟨rfl,-⟩:=h
  obtain ⟨x,h1,h2⟩:=OX hT hρ hm bX
  exact lP hs hd h1 h2 rfl rfl rfl
 ·exact OW hT hs hρ hd h mi jZ bX vG need gs
theorem Wc {α:Type} (k:Nat) (x:α) (r:List (Nat × α)) (t:Nat):look ((k,x) :: r) t=if k=t then some x else look r t:=by
 simp only [look]
 cases hb:Nat.beq k t with
 | true=>simp [Nat.eq_of_beq_eq_true hb]
 | false =>
  have:¬ k=t:=fun e=>by rw [e,Nat.beq_refl] at hb; cases hb
  simp [this]
theorem c6.weaken {B:M} (h:c6 C A a w S μ ν) (Q6:∀ t v,Rel w S μ ν (A.sl t) v→Rel w S μ ν (B.sl t) v) (Q7:∀ κ b',B.lb κ=some b'→∃ b,A.lb κ=some b∧∀ y,gW w S μ b y→gW w S μ b' y):c6 C B a w S μ ν:=by
 refine ⟨h.tmps,h.defers,fun t=>Q6 t _ (h.dV t),fun κ b hb=>?_,fun κ κ' b b' g c c' hb mV hm AZ=>?_,fun κ b g c hb hm=>?_,h.eP,h.fresh,h.bound,h.kept⟩
 ·obtain ⟨d,h1,h2⟩:=Q7 κ b hb
  exact h2 _ (h.mem κ d h1)
 ·obtain ⟨d,h1,_⟩:=Q7 κ b hb
  obtain ⟨d',h1',_⟩:=Q7 κ' b' mV
  exact h.inj κ κ' d d' g c c' h1 h1' hm AZ
 ·obtain ⟨d,h1,_⟩:=Q7 κ b hb
  exact h.own κ d g c h1 hm
theorem Wd {e k n n':Nat} {f f':Nat→List D} (hn:n=n') (hf:∀ i,i < n→wO (f i) (f' i)) (y:Option (Option (Nat × Nat))) (h:gW w S μ (.row e k n f) y):gW w S μ (.row e k n' f') y:=by
 subst hn
 cases y with
 | none=>exact h
 | some y =>
  cases y with
  | none=>exact h
  | some gc =>
   obtain ⟨g,c⟩:=gc
   obtain ⟨cur,q1,q2,q3,q4,q5,q6⟩:=h.at
   refine dK.ok ⟨cur,q1,q2,q3,q4,q5,fun i hi=>?_⟩
   obtain ⟨z1,z2⟩:=q6 i hi
   refine ⟨(hf i hi).1 ▸ z1,fun j hj=>?_⟩
   obtain ⟨x,x1,x2⟩:=z2 j hj
   exact ⟨x,x1,(hf i hi).2 j (by omega) _ _ _ x2⟩
theorem Uu {c:sw} {r r':R} (h:OU c r=some r') (bX:r'.ob.den):r.ob.den∧r'.ro=r.ro∧r'.mem=r.mem∧r'.fF.map (·.1)=r.fF.map (·.1) ∧
  ∀ {A:M} {dst:Option Nat} {need:List (Nat × AV)} {gs:List (Nat × Bool)} {a:Act} {w:World} {S:Nat→Prop} {μ:Mu} {ν:Nat→Bool},c6 C ((Tr.mk need dst r.v r.ro r.mem r.fF gs).apply A) a w S μ ν→c6 C ((Tr.mk need dst r'.v r'.ro r'.mem r'.fF gs).apply A) a w S μ ν:=by
 obtain ⟨cn,ce⟩:=c.eq
 obtain ⟨v,ro,mem,fF,ob⟩:=r
 unfold OU at h
 split at h
 ·rename_i κ e k n f jZ
  dsimp only at jZ
  subst jZ
  have blk:n=c.n→f=c.f→∀ {A:M} {dst:Option Nat} {need:List (Nat × AV)} {gs:List (Nat × Bool)} {a:Act} {w:World} {S:Nat→Prop} {μ:Mu} {ν:Nat→Bool} {x y:AV},(∀ v,Rel w S μ ν x v→Rel w S μ ν y v)→c6 C ((Tr.mk need dst x ro mem [(κ,.row e k n f)] gs).apply A) a w S μ ν→c6 C ((Tr.mk need dst y ro mem [(κ,.row e k c.n' c.f')] gs).apply A) a w S μ ν:=by
   intro hn hf A dst need gs a w S μ ν x y hxy hs
   refine hs.weaken (fun t v hv=>?_) (fun κ' b' mV=>?_)
   ·simp only [Tr.apply] at hv ⊢
    split
    ·rename_i hd
     simp only [hd,if_true] at hv
     exact hxy v hv
    ·rename_i hd
     simp only [hd,if_false] at hv
     exact hv
   ·simp only [Tr.apply,Wc] at mV ⊢
    by_cases hk:κ=κ'
    ·subst hk
     simp only [if_true,Option.some.injEq] at mV ⊢
     subst mV
     exact ⟨_,rfl,fun y=>Wd (hn.trans cn) (fun i hi=>by rw [hf]; exact ce i (by omega)) y⟩
    ·simp only [hk,if_false] at mV ⊢
     exact ⟨b',mV,fun _ h=>h⟩
  split at h
  ·rename_i κ' m hv
   dsimp only at hv
   subst hv
   cases hb:Nat.beq κ' κ with
   | false=>rw [hb] at h; cases h
   | true =>
    rw [hb] at h
    simp only [cond_true,Option.some.injEq] at h
    subst h
    obtain ⟨o1,o2⟩:=Ob.cH bX
    obtain ⟨o3,o4⟩:=Ob.cH o2
    obtain ⟨o5,o6⟩:=Ob.cH o4
    have o3:m=c.n:=o3
    refine ⟨o1,rfl,rfl,rfl,fun hs=>blk o5 o6 (fun v hv=>?_) hs⟩
    rw [o3,cn] at hv
    exact hv
  ·rename_i hv
   dsimp only at hv
   subst hv
   simp only [Option.some.injEq] at h
   subst h
   obtain ⟨o1,o2⟩:=Ob.cH bX
   obtain ⟨o5,o6⟩:=Ob.cH o2
   exact ⟨o1,rfl,rfl,rfl,fun hs=>blk o5 o6 (fun v hv=>hv) hs⟩
  ·cases h
 ·rename_i jZ
  dsimp only at jZ
  subst jZ
  split at h
  ·rename_i n f hv
   dsimp only at hv
   subst hv
   simp only [Option.some.injEq] at h
   subst h
   obtain ⟨o1,o2⟩:=Ob.cH bX
   obtain ⟨o5,o6⟩:=Ob.cH o2
   have o5:n=c.n:=o5
   have o6:f=c.f:=o6
   refine ⟨o1,rfl,rfl,rfl,fun hs=>?_⟩
   refine hs.weaken (fun t v hv=>?_) (fun κ' b' mV=>⟨b',mV,fun _ h=>h⟩)
   simp only [Tr.apply] at hv ⊢
   split
   ·rename_i hd
    simp only [hd,if_true] at hv
    exact .d (rV.slc (o5.trans cn) (fun i hi=>by rw [o6]; exact ce i (by omega)) _ _ _ (iE.1 hv))
   ·rename_i hd
    simp only [hd,if_false] at hv
    exact hv
  ·cases h
 ·cases h
theorem ZB {n n':Nat} {f f':Nat→Value × D} (hn:n=n') (hf:∀ i,i < n→f i=f' i) (y:Option (Option (Nat × Nat))) (h:gW w S μ (.mp n f) y):gW w S μ (.mp n' f') y:=by
 subst hn
 cases y with
 | none=>exact h
 | some y =>
  cases y with
  | none=>exact h
  | some gc =>
   obtain ⟨g,c⟩:=gc
   obtain ⟨cur,q1,q2,q3,q4⟩:=h.at
   refine dK.ok ⟨cur,q1,q2,q3,fun i hi=>?_⟩
   rw [← hf i hi]
   exact q4 i hi
theorem Uv {c:Cj} {r r':R} (h:OV c r=some r') (bX:r'.ob.den):r.ob.den∧r'.ro=r.ro∧r'.mem=r.mem∧r'.fF.map (·.1)=r.fF.map (·.1) ∧
  ∀ {A:M} {dst:Option Nat} {need:List (Nat × AV)} {gs:List (Nat × Bool)} {a:Act} {w:World} {S:Nat→Prop} {μ:Mu} {ν:Nat→Bool},c6 C ((Tr.mk need dst r.v r.ro r.mem r.fF gs).apply A) a w S μ ν→c6 C ((Tr.mk need dst r'.v r'.ro r'.mem r'.fF gs).apply A) a w S μ ν:=by
 obtain ⟨cn,ce⟩:=c.eq
 obtain ⟨v,ro,mem,fF,ob⟩:=r
 unfold OV at h
 split at h
 ·rename_i κ n f jZ
  dsimp only at jZ
  subst jZ
  split at h
  ·rename_i hv
   dsimp only at hv
   subst hv
   simp only [Option.some.injEq] at h
   subst h
   obtain ⟨o1,o2⟩:=Ob.cH bX
   obtain ⟨o5,o6⟩:=Ob.cH o2
   have o5:n=c.n:=o5
   have o6:f=c.f:=o6
   refine ⟨o1,rfl,rfl,rfl,fun hs=>?_⟩
   refine hs.weaken (fun t v hv=>hv) (fun κ' b' mV=>?_)
   simp only [Tr.apply,Wc] at mV ⊢
   by_cases hk:κ=κ'
   ·subst hk
    simp only [if_true,Option.some.injEq] at mV ⊢
    subst mV
    exact ⟨_,rfl,fun y=>ZB (o5.trans cn) (fun i hi=>by rw [o6]; exact ce i (by omega)) y⟩
   ·simp only [hk,if_false] at mV ⊢
    exact ⟨b',mV,fun _ h=>h⟩
  ·rename_i hv
   dsimp only at hv
   subst hv
   simp only [Option.some.injEq] at h
   subst h
   obtain ⟨o1,o2⟩:=Ob.cH bX
   obtain ⟨o5,o6⟩:=Ob.cH o2
   have o5:n=c.n:=o5
   have o6:f=c.f:=o6
   refine ⟨o1,rfl,rfl,rfl,fun hs=>?_⟩
   refine hs.weaken (fun t v hv=>hv) (fun κ' b' mV=>?_)
   simp only [Tr.apply,Wc] at mV ⊢
   by_cases hk:κ=κ'
   ·subst hk
    simp only [if_true,Option.some.injEq] at mV ⊢
    subst mV
    exact ⟨_,rfl,fun y=>ZB (o5.trans cn) (fun i hi=>by rw [o6]; exact ce i (by omega)) y⟩
   ·simp only [hk,if_false] at mV ⊢
    exact ⟨b',mV,fun _ h=>h⟩
  ·cases h
 ·cases h
theorem Uw {c:OQ} {r:R} (bX:(ZA c r).ob.den):r.ob.den ∧
  ∀ {A:M} {dst:Option Nat} {need:List (Nat × AV)} {gs:List (Nat × Bool)} {a:Act} {w:World} {S:Nat→Prop} {μ:Mu} {ν:Nat→Bool},c6 C ((Tr.mk need dst r.v r.ro r.mem r.fF gs).apply A) a w S μ ν→c6 C ((Tr.mk need dst c.y r.ro r.mem r.fF gs).apply A) a w S μ ν:=by
 obtain ⟨o1,o2⟩:=Ob.cH bX
 have o2:r.v=c.x:=o2
 refine ⟨o1,fun hs=>?_⟩
 refine hs.weaken (fun t v hv=>?_) (fun κ' b' mV=>⟨b',mV,fun _ h=>h⟩)
 simp only [Tr.apply] at hv ⊢
 split
 ·rename_i hd
  simp only [hd,if_true] at hv
  rw [o2] at hv
  exact c.le _ _ _ _ _ hv
 ·rename_i hd
  simp only [hd,if_false] at hv
  exact hv
theorem Rv {T:List (Nat × TI)} (hT:mX C.P T) (hs:c6 C A a w S μ ν) {lb:List (Nat × bA)} {o:Oper} {ρ:Operand→Option AV} (hρ:∀ x y,ρ x=some y→Rel w S μ ν y (a.eval x)) (hd:∀ t,o.dst=some t→t < C.nt) {quiet:Bool} {jL sI:List zU} {r:R}
  (h:Wa C.P T lb ρ o.dst quiet jL o.op=some (r,sI)) (mi:∀ p,p∈r.ro→A.lb p.1=some p.2) (jZ:∀ p,p∈r.mem→A.lb p.1=some p.2) (bX:r.ob.den) (vG:∀ κ,κ∈(r.fF.map (·.1)).filter (fun k=>!(r.mem.map (·.1)).contains k)→jW A κ) (need:List (Nat × AV)) (gs:List (Nat × Bool)) :
  o.wp C.P a w (fun a' w'=>∃ S' μ',c6 C ((Tr.mk need o.dst r.v r.ro r.mem r.fF gs).apply A) a' w' S' μ' ν) (fun _ _ _=>False):=by
 unfold Wa at h
 split at h
 ·rename_i r0 J5 h0
  split at h
  ·rename_i c Ru _
   split at h
   ·rename_i r' hn
    simp only [Option.some.injEq,Prod.mk.injEq] at h
    obtain ⟨rfl,-⟩:=h
    obtain ⟨o1,e1,e2,e3,da⟩:=Uu (C:=C) hn bX
    rw [e3,e2] at vG
    rw [e1] at mi
    rw [e2] at jZ
    exact Oper.wp_mono (fun a' w' hh=>let ⟨S',μ',hh⟩:=hh; ⟨S',μ',da hh⟩) (km hT hs hρ hd h0 mi jZ o1 vG need gs)
   ·simp only [Option.some.injEq,Prod.mk.injEq] at h
    obtain ⟨rfl,-⟩:=h
    exact km hT hs hρ hd h0 mi jZ bX vG need gs
  ·split at h
   ·rename_i r' hn
    simp only [Option.some.injEq,Prod.mk.injEq] at h
    obtain ⟨rfl,-⟩:=h
    obtain ⟨o1,e1,e2,e3,da⟩:=Uv (C:=C) hn bX
    rw [e3,e2] at vG
    rw [e1] at mi
    rw [e2] at jZ
    exact Oper.wp_mono (fun a' w' hh=>let ⟨S',μ',hh⟩:=hh; ⟨S',μ',da hh⟩) (km hT hs hρ hd h0 mi jZ o1 vG need gs)
   ·simp only [Option.some.injEq,Prod.mk.injEq] at h
    obtain ⟨rfl,-⟩:=h
    exact km hT hs hρ hd h0 mi jZ bX vG need gs
  ·split at h
   ·generalize Nat.beq _ _=bb at h
    cases bb with
    | false =>
     simp only [cond_false,Option.some.injEq,Prod.mk.injEq] at h
     obtain ⟨rfl,-⟩:=h
     exact km hT hs hρ hd h0 mi jZ bX vG need gs
    | true =>
     simp only [cond_true,Option.some.injEq,Prod.mk.injEq] at h
     obtain ⟨rfl,-⟩:=h
     obtain ⟨o1,da⟩:=Uw (C:=C) bX
     exact Oper.wp_mono (fun a' w' hh=>let ⟨S',μ',hh⟩:=hh; ⟨S',μ',da hh⟩) (km hT hs hρ hd h0 mi jZ o1 vG need gs)
   ·simp only [Option.some.injEq,Prod.mk.injEq] at h
    obtain ⟨rfl,-⟩:=h
    exact km hT hs hρ hd h0 mi jZ bX vG need gs
  ·simp only [Option.some.injEq,Prod.mk.injEq] at h
   obtain ⟨rfl,-⟩:=h
   exact km hT hs hρ hd h0 mi jZ bX vG need gs
 ·cases h
end
def Ys (q p:List (Nat × Bool)):Bool:=q.all fun y=>p.any fun z=>Nat.beq y.1 z.1&&(y.2 == z.2)

def aaj (p:List (Nat × Bool)):AV→Option AV
  | .g q a=>bif Ys q p then some a else none
  | x=>some x

def OY (need:List (Nat × AV)) (p:List (Nat × Bool)):Operand→Option AV
  | .tmp t=>(match look need t with | some x=>aaj p x | none=>none)
  | .const v=>ofConst v
  | .func f=>some (.fn f [])
  | .global g=>(match look yp.gl g with | some cs=>some (.ref cs) | none=>none)

def We:AV→Option (List (Nat × Bool) × Bool)
  | .d (.v (.bool e))=>some ([],e)
  | .g q (.d (.v (.bool e)))=>some (q,e)
  | _=>none

structure St where
  sl:List (Nat × AV)
  lb:List (Nat × bA)

def St.get (sl:List (Nat × AV)) (t:Nat):AV:=match look sl t with | some x=>x | none=>.any

def St.fN (st:St):M:={ sl:=St.get st.sl,lb:=look st.lb }

def slotsOf:List Operand→List Nat
  | []=>[]
  | .tmp t :: r=>t :: slotsOf r
  | _ :: r=>slotsOf r

def qo (sl:List (Nat × AV)):List Nat→List (Nat × AV)
  | []=>[]
  | t :: r=>(t,St.get sl t) :: qo sl r

/-- a bool on abJ others aeV is aeF -/
def Ux (gl:List (Nat × Bool)) (s:Nat) (e:Bool):List (Nat × Bool) × Ob :=
  match look gl s with
  | some e'=>(gl,.be e e')
  | none=>(gl++[(s,e)],.tt)

def Mg (gl:List (Nat × Bool)):List Nat→List (Nat × Bool)
  | []=>[]
  | s :: r=>(match look gl s with | some e=>(s,e) :: Mg gl r | none=>Mg gl r)

def yI (gl:List (Nat × Bool)):List (Nat × Bool)→Ob→Ob
  | [],ob=>ob
  | (s,w) :: r,ob=>(match look gl s with | some e=>(yI gl r ob).imp e w | none=>yI gl r ob)

def Ck (p:List (Nat × Bool)) (v:AV):AV:=match p with | []=>v | _ :: _=>.g p v

def zV (ops:Array Oper) (j:Nat):Option Nat:=match ops[j]? with | some o=>o.dst | none=>none

/-- Ol aeG on abJ an operation aeH -/
def pathOf (nt:Nat) (ops:Array Oper) (sl:List (Nat × AV)) (gl:List (Nat × Bool)):Option (Nat × Bool)→Option (List (Nat × Bool) × List Nat × List (Nat × Bool) × Ob)
  | none=>some ([],[],gl,.tt)
  | some (j,want)=>(match zV ops j with
    | some s=>bif Nat.ble (s+1) nt then (match We (St.get sl s) with
      | some (q,e)=>(match Ux gl s e with | (OZ,ob)=>some (q++[(s,want)],[s],OZ,ob))
      | none=>none) else none
    | none=>none)

def Wf (need:List (Nat × AV)) (p:List (Nat × Bool)) (c x y:Operand):Option (Nat × Bool × Bool × Bool) :=
  match c with
  | .tmp s=>(match OY need p c,OY need ((s,true) :: p) x,OY need ((s,false) :: p) y with
    | some (.d (.v (.bool e))),some (.d (.v (.bool ex))),some (.d (.v (.bool ey)))=>some (s,e,ex,ey)
    | _,_,_=>none)
  | _=>none

def Rw (P:Program) (T:List (Nat × TI)) (nt:Nat) (ops:Array Oper) (st:St) (gl:List (Nat × Bool)) (jL:List zU) (o:Oper):Option (Tr × List (Nat × Bool) × List zU × Ob) :=
  match pathOf nt ops st.sl gl o.guard,(match o.dst with | some d=>Nat.ble (d+1) nt | none=>true) with
  | some (p,ss,Wg,Aw),true =>
    (match o.op with
    | .pick c x y=>(match Wf (qo st.sl (ss++slotsOf [c,x,y])) p c x y with
      | some (s,e,ex,ey)=>(match Ux Wg s e with
        | (gl2,Fw)=>some (⟨qo st.sl (ss++slotsOf [c,x,y]),o.dst,Ck p (.d (.v (.bool (bif e then ex else ey)))),[],[],[],Mg gl2 (s :: p.map (·.1))⟩,gl2,jL,Aw.and Fw))
      | none=>none)
    | op=>(match Wa P T st.lb (OY (qo st.sl (ss++slotsOf op.operands.toList)) p) o.dst (!p.isEmpty) jL op with
      | some (r,sI)=>some (⟨qo st.sl (ss++slotsOf op.operands.toList),o.dst,Ck p r.v,r.ro,r.mem,r.fF,Mg Wg (p.map (·.1))⟩,Wg,sI,Aw.and (yI Wg p r.ob))
      | none=>none))
  | _,_=>none

def aP {α:Type} (ks:List Nat):List (Nat × α)→List (Nat × α)
  | []=>[]
  | (k,x) :: r=>bif ks.any (fun q=>Nat.beq q k) then aP ks r else (k,x) :: aP ks r

def St.apply (st:St) (τ:Tr):St :=
  { sl:=match τ.dst with | some d=>(d,τ.v) :: aP [d] st.sl | none=>st.sl
    lb:=match τ.mem,τ.fF with | [],[]=>st.lb | m,m'=>m'++aP (m.map (·.1)) st.lb }

def O0 (P:Program) (T:List (Nat × TI)) (nt:Nat) (ops:Array Oper):List Oper→St→List (Nat × Bool)→List zU→Option (List Tr × St × List (Nat × Bool) × List zU × Ob)
  | [],st,gl,jL=>some ([],st,gl,jL,.tt)
  | o :: r,st,gl,jL=>(match Rw P T nt ops st gl jL o with
    | some (τ,OZ,sI,ob)=>(match O0 P T nt ops r (st.apply τ) OZ sI with
      | some (l,st',adx,abK,B3)=>some (τ :: l,st',adx,abK,ob.and B3)
      | none=>none)
    | none=>none)

def Mh (st:St) (κ:Nat):Bool:=st.sl.all (fun p=>!p.2.keys.any (fun k=>Nat.beq k κ))&&st.lb.all (fun p=>!Nat.beq p.1 κ&&!p.2.keys.any (fun k=>Nat.beq k κ))

def ZC (keep:Option (List Nat)) (t:Nat):Bool:=match keep with | some l=>l.any (fun k=>Nat.beq k t) | none=>true

def Wh (draw:Bool) (ops:Array Oper) (uq:List Tr):Bool:=match draw with | true=>Oh ops uq | false=>yu uq

def xP (keep:Option (List Nat)):List (Nat × AV)→List (Nat × AV)
  | []=>[]
  | (t,x) :: r=>bif uu x&&ZC keep t then (t,x) :: xP keep r else xP keep r

def tg:List (Nat × AV)→Bool
  | []=>true
  | (t,_) :: r=>r.all (fun p=>!Nat.beq p.1 t)&&tg r

/-- a region: Ol state behind it,and Z9 adh hold -/
def ph (P:Program) (T:List (Nat × TI)) (nt:Nat) (ops:Array Oper) (draw:Bool) (keep:Option (List Nat)) (st:St) (jL:List zU):Option (St × Ob) :=
  match O0 P T nt ops ops.toList st [] jL with
  | some (uq,st',_,[],ob)=>bif Wh draw ops uq&&uq.all (fun τ=>τ.created.all (Mh st))&&tg st'.sl then some (⟨xP keep st'.sl,st'.lb⟩,ob) else none
  | _=>none

/-! abl -/

theorem bH {α:Type} (k:Nat) (x:α) (r:List (Nat × α)) (t:Nat):look ((k,x) :: r) t=if k=t then some x else look r t:=by
  simp only [look]
  cases hb:Nat.beq k t with
  | true=>simp [Nat.eq_of_beq_eq_true hb]
  | false =>
    have:¬ k=t:=fun e=>by rw [e,Nat.beq_refl] at hb; cases hb
    simp [this]

theorem uD {α:Type} (l r:List (Nat × α)) (t:Nat):look (l++r) t=match look l t with | some x=>some x | none=>look r t:=by
  induction l with
  | nil=>rfl
  | cons p l ih =>
    obtain ⟨k,x⟩:=p
    simp only [List.cons_append,bH]
    split
    · rfl
    · exact ih

theorem lT {α:Type} (ks:List Nat) (l:List (Nat × α)) (t:Nat):look (aP ks l) t=if t∈ks then none else look l t:=by
  induction l with
  | nil=>simp [aP,look]
  | cons p l ih =>
    obtain ⟨k,x⟩:=p
    simp only [aP]
    cases hb:ks.any (fun q=>Nat.beq q k) with
    | true =>
      simp only [cond_true]
      rw [ih,bH]
      have hk:k∈ks:=by
        obtain ⟨q,hq,he⟩:=List.any_eq_true.1 hb
        rw [← Nat.eq_of_beq_eq_true he]
        exact hq
      by_cases c:k=t
      · subst c; simp [hk]
      · simp [c]
    | false =>
      simp only [cond_false,bH]
      have hk:k ∉ ks:=fun hc=>by
        have:ks.any (fun q=>Nat.beq q k)=true:=List.any_eq_true.2 ⟨k,hc,Nat.beq_refl k⟩
        rw [this] at hb
        cases hb
      by_cases c:k=t
      · subst c; simp [hk]
      · simp only [c,if_false]
        exact ih

theorem GG (d:Nat) (v:AV) (sl:List (Nat × AV)) (t:Nat):St.get ((d,v) :: aP [d] sl) t=if d=t then v else St.get sl t:=by
  unfold St.get
  rw [bH]
  by_cases c:d=t
  · simp [c]
  · simp only [c,if_false]
    rw [lT]
    have:t ∉ [d]:=by simp; exact fun e=>c e.symm
    simp [this]

theorem St.Uy (st:St) (τ:Tr):(st.apply τ).fN=τ.apply st.fN:=by
  unfold St.apply St.fN Tr.apply
  have e1:(St.get (match τ.dst with | some d=>(d,τ.v) :: aP [d] st.sl | none=>st.sl))=fun t=>if τ.dst=some t then τ.v else St.get st.sl t:=by
    funext t
    cases hd:τ.dst with
    | none=>simp
    | some d =>
      simp only [Option.some.injEq]
      exact GG d τ.v st.sl t
  have e2:look (match τ.mem,τ.fF with | [],[]=>st.lb | m,m'=>m'++aP (m.map (·.1)) st.lb)=fun k=>match look τ.fF k with | some b=>some b | none=>if k∈τ.mem.map (·.1) then none else look st.lb k:=by
    funext k
    split
    · rename_i h1 h2
      simp [h1,h2,look]
    · rw [uD,lT]
      cases look τ.fF k <;> simp
  show M.mk (St.get _) (look _)=_
  rw [e1,e2]
  rfl

/-! Ol blocks VH an operation names are aeI VH it has looked up -/

theorem E3 {lb:List (Nat × bA)} {x:AV} {cs:List AV} {ro:List (Nat × bA)} {ob:Ob} (h:pb lb x=some (cs,ro,ob)):∀ p,p∈ro→look lb p.1=some p.2:=by
  unfold pb at h
  split at h
  · split at h
    · rename_i hl
      simp only [Option.some.injEq,Prod.mk.injEq] at h
      obtain ⟨-,rfl,-⟩:=h
      intro p hp
      simp only [List.mem_singleton] at hp
      subst hp
      exact hl
    · cases h
  · rename_i key k i off
    split at h
    · rename_i e k' n f hl
      cases hb:Nat.beq k k' with
      | false=>rw [hb] at h; cases h
      | true =>
        rw [hb] at h
        simp only [cond_true,Option.some.injEq,Prod.mk.injEq] at h
        obtain ⟨-,rfl,-⟩:=h
        intro p hp
        simp only [List.mem_singleton] at hp
        subst hp
        exact hl
    · cases h
  · simp only [Option.some.injEq,Prod.mk.injEq] at h
    obtain ⟨-,rfl,-⟩:=h
    intro p hp
    cases hp
  · cases h

theorem bP {lb ro:List (Nat × bA)} (h:ro=[]):∀ p,p∈ro→look lb p.1=some p.2:=fun p hp=>by subst h; cases hp

theorem aak {T:List (Nat × TI)} {lb:List (Nat × bA)} {ρ:Operand→Option AV} {o:Op} {v:AV} {ro:List (Nat × bA)} {ob:Ob} (h:evV T lb ρ o=some (v,ro,ob)):∀ p,p∈ro→look lb p.1=some p.2:=by
  have Rx:∀ {x:AV},ok x=some (v,ro,ob)→ro=[]:=fun h=>by simp only [ok,Option.some.injEq,Prod.mk.injEq] at h; exact h.2.1.symm
  unfold evV at h
  split at h
  · split at h
    · exact bP (Rx h)
    · cases h
  · split at h
    · exact bP (Rx h)
    · cases h
  · split at h
    · split at h
      · rename_i hc
        split at h
        · simp only [Option.some.injEq,Prod.mk.injEq] at h
          obtain ⟨-,rfl,-⟩:=h
          exact E3 hc
        · cases h
      · cases h
    · cases h
  · split at h
    · unfold Gy at h
      split at h
      · split at h <;> first | exact bP (Rx h) | cases h
      · cases h
    · cases h
  · split at h
    · unfold L4 at h
      split at h
      · split at h
        · split at h
          · split at h
            · exact bP (Rx h)
            · cases h
          · cases h
        · cases h
      · cases h
    · cases h
  · split at h
    · unfold uB at h
      split at h
      · split at h
        · split at h
          · rename_i ie _ n _ m f _ _ _
            generalize hb:Nat.beq _ _=bb at h
            cases bb with
            | false=>cases h
            | true =>
              simp only [cond_true,Option.some.injEq,Prod.mk.injEq] at h
              exact bP h.2.1.symm
          · simp only [Option.some.injEq,Prod.mk.injEq] at h
            exact bP h.2.1.symm
          · cases h
        · cases h
      · cases h
    · cases h
  · split at h
    · unfold Gz at h
      split at h
      · simp only [Option.some.injEq,Prod.mk.injEq] at h
        exact bP h.2.1.symm
      · cases h
    · cases h
  · split at h
    · unfold SX at h
      split at h
      · split at h
        · simp only [Option.some.injEq,Prod.mk.injEq] at h
          exact bP h.2.1.symm
        · simp only [Option.some.injEq,Prod.mk.injEq] at h
          exact bP h.2.1.symm
        · cases h
      · split at h
        · simp only [Option.some.injEq,Prod.mk.injEq] at h
          exact bP h.2.1.symm
        · cases h
      · split at h
        · exact bP (Rx h)
        · cases h
      · cases h
    · cases h
  · split at h
    · unfold Yf at h
      split at h <;> first | exact bP (Rx h) | cases h
    · cases h
  · split at h
    · unfold Ri at h
      split at h
      · exact bP (Rx h)
      · cases h
    · cases h
  · split at h
    · unfold zR at h
      split at h
      · split at h
        · exact bP (Rx h)
        · cases h
      · cases h
    · cases h
  · unfold GA at h
    split at h
    · split at h
      · split at h
        · exact bP (Rx h)
        · cases h
      · cases h
    · cases h
  · split at h
    · exact bP (Rx h)
    · cases h
  · split at h
    · unfold GB at h
      split at h
      · unfold wT at h
        split at h <;> first | exact bP (Rx h) | (simp only [Option.some.injEq,Prod.mk.injEq] at h; exact bP h.2.1.symm) | cases h
      · split at h
        · unfold zS at h
          split at h <;> first | (simp only [Option.some.injEq,Prod.mk.injEq] at h; exact bP h.2.1.symm) | cases h
        · cases h
      · split at h
        · unfold wU at h
          split at h
          · generalize (_&&_&&_:Bool)=bb at h
            cases bb with
            | false=>cases h
            | true=>exact bP (Rx h)
          · cases h
        · cases h
      · cases h
    · cases h
  · split at h
    · unfold SY at h
      split at h <;> first | exact bP (Rx h) | cases h
    · cases h
  · split at h
    · unfold DH at h
      split at h
      · split at h
        · exact bP (Rx h)
        · cases h
      · cases h
    · cases h
  · split at h
    · unfold DH at h
      split at h
      · split at h
        · exact bP (Rx h)
        · cases h
      · cases h
    · cases h
  · cases h

theorem Tg {lb:List (Nat × bA)} {x:AV} {y:D} {ro:List (Nat × bA)} {ob:Ob} (h:L6 lb x=some (y,ro,ob)):∀ p,p∈ro→look lb p.1=some p.2:=by
  unfold L6 at h
  split at h
  · simp only [Option.some.injEq,Prod.mk.injEq] at h
    exact bP h.2.1.symm
  · simp only [Option.some.injEq,Prod.mk.injEq] at h
    exact bP h.2.1.symm
  · split at h
    · rename_i hl
      simp only [Option.some.injEq,Prod.mk.injEq] at h
      obtain ⟨-,rfl,-⟩:=h
      intro p hp
      simp only [List.mem_singleton] at hp
      subst hp
      exact hl
    · cases h
  · cases h

theorem Ht {lb:List (Nat × bA)}:∀ {xs:List AV} {ys:List D} {ro:List (Nat × bA)} {ob:Ob},AY lb xs=some (ys,ro,ob)→∀ p,p∈ro→look lb p.1=some p.2
  | [],ys,ro,ob,h=>by simp only [AY,Option.some.injEq,Prod.mk.injEq] at h; exact bP h.2.1.symm
  | x :: r,ys,ro,ob,h=>by
    simp only [AY] at h
    split at h
    · rename_i h1 h2
      simp only [Option.some.injEq,Prod.mk.injEq] at h
      obtain ⟨-,rfl,-⟩:=h
      intro p hp
      rcases List.mem_append.1 hp with hp | hp
      · exact Tg h1 p hp
      · exact Ht h2 p hp
    · cases h

theorem O1 {lb:List (Nat × bA)} {x y:AV} {ro:List (Nat × bA)} {ob:Ob} (h:yF lb x=some (y,ro,ob)):∀ p,p∈ro→look lb p.1=some p.2:=by
  unfold yF at h
  split at h
  · simp only [Option.some.injEq,Prod.mk.injEq] at h
    exact bP h.2.1.symm
  · split at h
    · rename_i hl
      split at h
      · rename_i hb
        simp only [Option.some.injEq,Prod.mk.injEq] at h
        obtain ⟨-,rfl,-⟩:=h
        intro p hp
        rcases List.mem_cons.1 hp with rfl | hp
        · exact hl
        · exact Ht hb p hp
      · cases h
    · cases h
  · split at h
    · rename_i hb
      simp only [Option.some.injEq,Prod.mk.injEq] at h
      obtain ⟨-,rfl,-⟩:=h
      exact Ht hb
    · cases h
  · split at h
    · rename_i hl
      simp only [Option.some.injEq,Prod.mk.injEq] at h
      obtain ⟨-,rfl,-⟩:=h
      intro p hp
      simp only [List.mem_singleton] at hp
      subst hp
      exact hl
    · simp only [Option.some.injEq,Prod.mk.injEq] at h
      exact bP h.2.1.symm
    · cases h
  · simp only [Option.some.injEq,Prod.mk.injEq] at h
    exact bP h.2.1.symm
  · split at h
    · rename_i hb
      simp only [Option.some.injEq,Prod.mk.injEq] at h
      obtain ⟨-,rfl,-⟩:=h
      exact Tg hb
    · cases h

theorem Le {lb:List (Nat × bA)}:∀ {xs ys:List AV} {ro:List (Nat × bA)} {ob:Ob},wX lb xs=some (ys,ro,ob)→∀ p,p∈ro→look lb p.1=some p.2
  | [],ys,ro,ob,h=>by simp only [wX,Option.some.injEq,Prod.mk.injEq] at h; exact bP h.2.1.symm
  | x :: r,ys,ro,ob,h=>by
    simp only [wX] at h
    split at h
    · rename_i h1 h2
      simp only [Option.some.injEq,Prod.mk.injEq] at h
      obtain ⟨-,rfl,-⟩:=h
      intro p hp
      rcases List.mem_append.1 hp with hp | hp
      · exact O1 h1 p hp
      · exact Le h2 p hp
    · cases h

theorem Yt {lb:List (Nat × bA)} {x y:AV} {ro:List (Nat × bA)} {ob:Ob} (h:yc lb x=some (y,ro,ob)):∀ p,p∈ro→look lb p.1=some p.2:=by
  unfold yc at h
  split at h
  · split at h
    · rename_i hb
      simp only [Option.some.injEq,Prod.mk.injEq] at h
      obtain ⟨-,rfl,-⟩:=h
      exact Le hb
    · cases h
  · exact O1 h

theorem Hu {lb:List (Nat × bA)}:∀ {xs ys:List AV} {ro:List (Nat × bA)} {ob:Ob},vN lb xs=some (ys,ro,ob)→∀ p,p∈ro→look lb p.1=some p.2
  | [],ys,ro,ob,h=>by simp only [vN,Option.some.injEq,Prod.mk.injEq] at h; exact bP h.2.1.symm
  | x :: r,ys,ro,ob,h=>by
    simp only [vN] at h
    split at h
    · rename_i h1 h2
      simp only [Option.some.injEq,Prod.mk.injEq] at h
      obtain ⟨-,rfl,-⟩:=h
      intro p hp
      rcases List.mem_append.1 hp with hp | hp
      · exact Yt h1 p hp
      · exact Hu h2 p hp
    · cases h

theorem Bl {lb:List (Nat × bA)}:∀ {ks:List Nat} {l:List (Nat × bA)},looks lb ks=some l→∀ p,p∈l→look lb p.1=some p.2
  | [],l,h=>by simp only [looks,Option.some.injEq] at h; exact bP h.symm
  | k :: r,l,h=>by
    simp only [looks] at h
    split at h
    · rename_i h1 h2
      simp only [Option.some.injEq] at h
      subst h
      intro p hp
      rcases List.mem_cons.1 hp with rfl | hp
      · exact h1
      · exact Bl h2 p hp
    · cases h

theorem O2 {P:Program} {T:List (Nat × TI)} {lb:List (Nat × bA)} {ρ:Operand→Option AV} {dst:Option Nat} {quiet:Bool} {jL sI:List zU} {op:Op} {r:R} (h:OS P T lb ρ dst quiet jL op=some (r,sI)) :
    (∀ p,p∈r.ro→look lb p.1=some p.2)∧(∀ p,p∈r.mem→look lb p.1=some p.2)∧(quiet=true→r.mem=[]∧r.fF=[]):=by
  have one:∀ {κ:Nat} {b:bA},look lb κ=some b→∀ p,p∈[(κ,b)]→look lb p.1=some p.2:=fun hl p hp=>by
    simp only [List.mem_singleton] at hp
    subst hp
    exact hl
  unfold OS at h
  split at h
  · split at h
    · simp only [Option.some.injEq,Prod.mk.injEq] at h
      obtain ⟨rfl,-⟩:=h
      exact ⟨bP rfl,bP rfl,fun hq=>(by cases hq)⟩
    · cases h
  · split at h
    · split at h
      · split at h
        · simp only [Option.some.injEq,Prod.mk.injEq] at h
          obtain ⟨rfl,-⟩:=h
          exact ⟨bP rfl,bP rfl,fun hq=>(by cases hq)⟩
        generalize (uu.ni _&&_)=bb at h
        cases bb with
        | false=>cases h
        | true =>
          simp only [cond_true,Option.some.injEq,Prod.mk.injEq] at h
          obtain ⟨rfl,-⟩:=h
          exact ⟨bP rfl,bP rfl,fun hq=>(by cases hq)⟩
      · cases h
    · cases h
  · split at h
    · split at h
      · simp only [Option.some.injEq,Prod.mk.injEq] at h
        obtain ⟨rfl,-⟩:=h
        exact ⟨bP rfl,bP rfl,fun _=>⟨rfl,rfl⟩⟩
      · split at h
        · simp only [Option.some.injEq,Prod.mk.injEq] at h
          obtain ⟨rfl,-⟩:=h
          exact ⟨bP rfl,bP rfl,fun hq=>(by cases hq)⟩
        · cases h
    · cases h
  · split at h
    · split at h
      · rename_i r' kj
        simp only [Option.some.injEq,Prod.mk.injEq] at h
        obtain ⟨rfl,-⟩:=h
        refine ⟨?_,?_,fun hq=>(by cases hq)⟩
        all_goals
          unfold Me at kj
          split at kj
          · rename_i i xs hi hc
            split at kj
            · rename_i κ off
              split at kj
              · rename_i cs hl
                generalize (Nat.beq _ _&&_&&_&&_)=bb at kj
                cases bb with
                | false=>cases kj
                | true =>
                  simp only [cond_true,Option.some.injEq] at kj
                  subst kj
                  first | exact one hl | exact bP rfl
              · cases kj
            · split at kj
              · rename_i e k' n f ds hl hp
                generalize hb:(Nat.beq _ k'&&_&&_&&_)=bb at kj
                cases bb with
                | false=>cases kj
                | true =>
                  simp only [Bool.and_eq_true] at hb
                  have ek:=Nat.eq_of_beq_eq_true hb.1.1.1
                  subst ek
                  simp only [cond_true,Option.some.injEq] at kj
                  subst kj
                  first | exact one hl | exact bP rfl
              · cases kj
            · cases kj
          · cases kj
      · cases h
    · cases h
  · split at h
    · split at h
      · split at h
        · rename_i r' yk
          simp only [Option.some.injEq,Prod.mk.injEq] at h
          obtain ⟨rfl,-⟩:=h
          have main:(∀ p,p∈r'.ro→look lb p.1=some p.2)∧(∀ p,p∈r'.mem→look lb p.1=some p.2):=by
            unfold Hr at yk
            split at yk
            · split at yk
              · rename_i i hi
                split at yk
                · rename_i m g ro ob lf
                  have mi:∀ p,p∈ro→look lb p.1=some p.2:=by
                    unfold V7 at lf
                    split at lf
                    · simp only [Option.some.injEq,Prod.mk.injEq] at lf
                      exact bP lf.2.2.1.symm
                    · simp only [Option.some.injEq,Prod.mk.injEq] at lf
                      exact bP lf.2.2.1.symm
                    · simp only [Option.some.injEq,Prod.mk.injEq] at lf
                      exact bP lf.2.2.1.symm
                    · split at lf
                      · rename_i hl
                        generalize hb:Nat.beq _ _=bb at lf
                        cases bb with
                        | false=>cases lf
                        | true =>
                          simp only [cond_true,Option.some.injEq,Prod.mk.injEq] at lf
                          obtain ⟨-,-,rfl,-⟩:=lf
                          exact one hl
                      · cases lf
                    · cases lf
                  split at yk
                  · simp only [Option.some.injEq] at yk
                    subst yk
                    exact ⟨mi,bP rfl⟩
                  · split at yk
                    · rename_i hl
                      generalize (Nat.beq _ _&&_&&_)=bb at yk
                      cases bb with
                      | false=>cases yk
                      | true =>
                        simp only [cond_true,Option.some.injEq] at yk
                        subst yk
                        exact ⟨mi,one hl⟩
                    · cases yk
                  · cases yk
                · cases yk
              · cases yk
            · cases yk
          exact ⟨main.1,main.2,fun hq=>(by cases hq)⟩
        · cases h
      · cases h
    · cases h
  · split at h
    · unfold Rs at h
      split at h
      · split at h
        · split at h
          · rename_i hb
            generalize fH _=bb at h
            cases bb with
            | false=>cases h
            | true =>
              simp only [cond_true,Option.some.injEq,Prod.mk.injEq] at h
              obtain ⟨rfl,-⟩:=h
              exact ⟨Hu hb,bP rfl,fun _=>⟨rfl,rfl⟩⟩
          · cases h
        · cases h
      · rename_i hand res back Ut
        split at h
        · split at h
          · rename_i cU vc
            generalize hb:(uu.ni _&&GD res back&&uu res&&(!quiet||(hand.isEmpty&&back.isEmpty))&&back.all (fun p=>!hand.contains p.1))=bb at h
            cases bb with
            | false=>cases h
            | true =>
              simp only [cond_true,Option.some.injEq,Prod.mk.injEq] at h
              obtain ⟨rfl,-⟩:=h
              simp only [Bool.and_eq_true,Bool.or_eq_true,Bool.not_eq_true',List.isEmpty_iff] at hb
              refine ⟨bP rfl,Bl vc,fun hq=>?_⟩
              rcases hb.1.2 with h1 | ⟨h1,h2⟩
              · rw [hq] at h1; cases h1
              · subst h1; subst h2
                simp only [looks,Option.some.injEq] at vc
                exact ⟨vc.symm,rfl⟩
          · cases h
        · cases h
      · rename_i κ b' Ut
        split at h
        · split at h
          · rename_i b vc
            generalize hb:(uu.ni _&&!quiet)=bb at h
            cases bb with
            | false=>cases h
            | true =>
              simp only [cond_true,Option.some.injEq,Prod.mk.injEq] at h
              obtain ⟨rfl,-⟩:=h
              simp only [Bool.and_eq_true,Bool.not_eq_true'] at hb
              refine ⟨bP rfl,fun p hp=>?_,fun hq=>?_⟩
              · have:p=(κ,b):=by simpa using hp
                subst this
                exact vc
              · rw [hq] at hb; cases hb.2
          · cases h
        · cases h
      · rename_i hand mj res back Ut
        split at h
        · split at h
          · rename_i cU vc
            generalize hb:(uu.ni _&&Yq _ hand cU mj res back&&uu res&&!quiet)=bb at h
            cases bb with
            | false=>cases h
            | true =>
              simp only [cond_true,Option.some.injEq,Prod.mk.injEq] at h
              obtain ⟨rfl,-⟩:=h
              simp only [Bool.and_eq_true,Bool.not_eq_true'] at hb
              exact ⟨bP rfl,Bl vc,fun hq=>by rw [hq] at hb; cases hb.2⟩
          · cases h
        · cases h
      · cases h
    · cases h
  · split at h
    · split at h
      · simp only [Option.some.injEq,Prod.mk.injEq] at h
        obtain ⟨rfl,-⟩:=h
        exact ⟨bP rfl,bP rfl,fun hq=>(by cases hq)⟩
      · cases h
    · cases h
  · split at h
    · simp only [Option.some.injEq,Prod.mk.injEq] at h
      obtain ⟨rfl,-⟩:=h
      exact ⟨bP rfl,bP rfl,fun _=>⟨rfl,rfl⟩⟩
    · split at h
      · rename_i hv
        simp only [Option.some.injEq,Prod.mk.injEq] at h
        obtain ⟨rfl,-⟩:=h
        exact ⟨aak hv,bP rfl,fun _=>⟨rfl,rfl⟩⟩
      · cases h

theorem O3 {P:Program} {T:List (Nat × TI)} {lb:List (Nat × bA)} {ρ:Operand→Option AV} {dst:Option Nat} {quiet:Bool} {jL sI:List zU} {op:Op} {r:R} (h:OT P T lb ρ dst quiet jL op=some (r,sI)) :
    (∀ p,p∈r.ro→look lb p.1=some p.2)∧(∀ p,p∈r.mem→look lb p.1=some p.2)∧(quiet=true→r.mem=[]∧r.fF=[]):=by
  unfold OT at h
  split at h
  · rename_i hm
    simp only [Option.some.injEq,Prod.mk.injEq] at h
    obtain ⟨rfl,-⟩:=h
    exact ⟨(Hq hm).1,(Hq hm).2.1,(Hq hm).2.2.1⟩
  split at h
  · rename_i hm
    simp only [Option.some.injEq,Prod.mk.injEq] at h
    obtain ⟨rfl,-⟩:=h
    exact Us hm
  split at h
  · simp only [Option.some.injEq,Prod.mk.injEq] at h
    obtain ⟨rfl,-⟩:=h
    exact ⟨bP rfl,bP rfl,fun _=>⟨rfl,rfl⟩⟩
  · exact O2 h

theorem Ry {c:sw} {r r':R} (h:OU c r=some r'):r'.ro=r.ro∧r'.mem=r.mem∧(r.fF=[]→r'.fF=[]):=by
  unfold OU at h
  split at h
  · rename_i hm
    have nn:∀ {x:List (Nat × bA)},r.fF=[]→x=[]:=fun e=>by rw [hm] at e; cases e
    split at h
    · generalize Nat.beq _ _=bb at h
      cases bb with
      | false=>cases h
      | true =>
        simp only [cond_true,Option.some.injEq] at h
        subst h
        exact ⟨rfl,rfl,nn⟩
    · simp only [Option.some.injEq] at h
      subst h
      exact ⟨rfl,rfl,nn⟩
    · cases h
  · split at h
    · simp only [Option.some.injEq] at h
      subst h
      exact ⟨rfl,rfl,fun _=>rfl⟩
    · cases h
  · cases h

theorem Rz {c:Cj} {r r':R} (h:OV c r=some r'):r'.ro=r.ro∧r'.mem=r.mem∧(r.fF=[]→r'.fF=[]):=by
  unfold OV at h
  split at h
  · rename_i hm
    split at h
    · simp only [Option.some.injEq] at h
      subst h
      exact ⟨rfl,rfl,fun e=>by rw [hm] at e; cases e⟩
    · simp only [Option.some.injEq] at h
      subst h
      exact ⟨rfl,rfl,fun e=>by rw [hm] at e; cases e⟩
    · cases h
  · cases h

theorem RA {P:Program} {T:List (Nat × TI)} {lb:List (Nat × bA)} {ρ:Operand→Option AV} {dst:Option Nat} {quiet:Bool} {jL sI:List zU} {op:Op} {r:R} (h:Wa P T lb ρ dst quiet jL op=some (r,sI)) :
    (∀ p,p∈r.ro→look lb p.1=some p.2)∧(∀ p,p∈r.mem→look lb p.1=some p.2)∧(quiet=true→r.mem=[]∧r.fF=[]):=by
  unfold Wa at h
  split at h
  · rename_i r0 J5 h0
    obtain ⟨q1,q2,q3⟩:=O3 h0
    split at h
    · split at h
      · rename_i r' hn
        simp only [Option.some.injEq,Prod.mk.injEq] at h
        obtain ⟨rfl,-⟩:=h
        obtain ⟨e1,e2,e3⟩:=Ry hn
        rw [e1,e2]
        exact ⟨q1,q2,fun hq=>⟨(q3 hq).1,e3 (q3 hq).2⟩⟩
      · simp only [Option.some.injEq,Prod.mk.injEq] at h
        obtain ⟨rfl,-⟩:=h
        exact ⟨q1,q2,q3⟩
    · split at h
      · rename_i r' hn
        simp only [Option.some.injEq,Prod.mk.injEq] at h
        obtain ⟨rfl,-⟩:=h
        obtain ⟨e1,e2,e3⟩:=Rz hn
        rw [e1,e2]
        exact ⟨q1,q2,fun hq=>⟨(q3 hq).1,e3 (q3 hq).2⟩⟩
      · simp only [Option.some.injEq,Prod.mk.injEq] at h
        obtain ⟨rfl,-⟩:=h
        exact ⟨q1,q2,q3⟩
    · split at h
      · generalize Nat.beq _ _=bb at h
        cases bb with
        | false =>
          simp only [cond_false,Option.some.injEq,Prod.mk.injEq] at h
          obtain ⟨rfl,-⟩:=h
          exact ⟨q1,q2,q3⟩
        | true =>
          simp only [cond_true,Option.some.injEq,Prod.mk.injEq] at h
          obtain ⟨rfl,-⟩:=h
          exact ⟨q1,q2,q3⟩
      · simp only [Option.some.injEq,Prod.mk.injEq] at h
        obtain ⟨rfl,-⟩:=h
        exact ⟨q1,q2,q3⟩
    · simp only [Option.some.injEq,Prod.mk.injEq] at h
      obtain ⟨rfl,-⟩:=h
      exact ⟨q1,q2,q3⟩
  · cases h

def tD (ν:Nat→Bool) (p:List (Nat × Bool)):Prop:=∀ y,y∈p→ν y.1=y.2

theorem RB {ν:Nat→Bool} {q p:List (Nat × Bool)} (h:Ys q p=true) (hp:tD ν p):tD ν q:=by
  intro y hy
  simp only [Ys,List.all_eq_true,List.any_eq_true,Bool.and_eq_true,beq_iff_eq] at h
  obtain ⟨z,hz,h1,h2⟩:=h y hy
  have:=hp z hz
  rw [Nat.eq_of_beq_eq_true h1,h2]
  exact this

section
variable {C : Cx} {A : M} {a : Act} {w : World} {S : Nat → Prop} {μ : Mu} {ν : Nat → Bool}

theorem Cl (VP:jz w S) {need:List (Nat × AV)} {p:List (Nat × Bool)} (Hv:∀ q,q∈need→Rel w S μ ν q.2 (a.tmps.getD q.1 undef)) (hp:tD ν p) (x:Operand) (y:AV) (h:OY need p x=some y):Rel w S μ ν y (a.eval x):=by
  cases x with
  | tmp t =>
    simp only [OY] at h
    cases hl:look need t with
    | none=>rw [hl] at h; cases h
    | some z =>
      rw [hl] at h
      have hr:=Hv (t,z) (iV hl)
      show Rel w S μ ν y (a.tmps.getD t undef)
      simp only at h hr
      cases z with
      | g q b =>
        simp only [aaj] at h
        cases hs:Ys q p with
        | false=>rw [hs] at h; cases h
        | true =>
          rw [hs] at h
          simp only [cond_true,Option.some.injEq] at h
          subst h
          cases hr with
          | g h1 _=>exact h1 (RB hs hp)
      | _=>simp only [aaj,Option.some.injEq] at h; subst h; exact hr
  | const v=>exact Om h
  | func f =>
    simp only [OY,Option.some.injEq] at h
    subst h
    exact .fn rfl (fun i hi=>absurd hi (by simp))
  | global g =>
    simp only [OY] at h
    cases hl:look (yp.gl) g with
    | none=>rw [hl] at h; cases h
    | some cs =>
      rw [hl] at h
      simp only [Option.some.injEq] at h
      subst h
      obtain ⟨fV,h1,h2⟩:=VP (g,cs) (iV hl)
      exact .ref fV h1 h2

theorem Hw {sl:List (Nat × AV)}:∀ {ts:List Nat} {q:Nat × AV},q∈qo sl ts→q.2=St.get sl q.1∧q.1∈ts
  | t :: r,q,h=>by
    rcases List.mem_cons.1 h with rfl | h'
    · exact ⟨rfl,List.mem_cons_self⟩
    · obtain ⟨h1,h2⟩:=Hw h'
      exact ⟨h1,List.mem_cons_of_mem _ h2⟩

theorem DR {sl:List (Nat × AV)}:∀ {ts:List Nat} {s:Nat},s∈ts→(s,St.get sl s)∈qo sl ts
  | t :: r,s,h=>by
    rcases List.mem_cons.1 h with rfl | h'
    · exact List.mem_cons_self
    · exact List.mem_cons_of_mem _ (DR h')

theorem Cm {gl:List (Nat × Bool)}:∀ {ss:List Nat} {q:Nat × Bool},q∈Mg gl ss→look gl q.1=some q.2
  | s :: r,q,h=>by
    simp only [Mg] at h
    cases hl:look gl s with
    | none=>rw [hl] at h; exact Cm h
    | some e =>
      rw [hl] at h
      rcases List.mem_cons.1 h with rfl | h'
      · exact hl
      · exact Cm h'

theorem yJ {gl:List (Nat × Bool)} {ob:Ob}:∀ {p:List (Nat × Bool)},(yI gl p ob).den→(∀ s e,s∈p.map (·.1)→look gl s=some e→ν s=e)→tD ν p→ob.den
  | [],h,_,_=>h
  | (s,w) :: r,h,hg,hp=>by
    simp only [yI] at h
    have hr:∀ s e,s∈r.map (·.1)→look gl s=some e→ν s=e:=fun s e hs=>hg s e (by simp only [List.map_cons,List.mem_cons]; exact .inr hs)
    have Yg:tD ν r:=fun y hy=>hp y (List.mem_cons_of_mem _ hy)
    cases hl:look gl s with
    | none=>rw [hl] at h; exact yJ h hr Yg
    | some e =>
      rw [hl] at h
      exact yJ (Ob.Ye h (by rw [← hg s e (by simp) hl]; exact hp (s,w) List.mem_cons_self)) hr Yg

theorem Lf {gl OZ:List (Nat × Bool)} {s:Nat} {e:Bool} {ob:Ob} (h:Ux gl s e=(OZ,ob)) (bX:ob.den):look OZ s=some e∧∀ t x,look gl t=some x→look OZ t=some x:=by
  unfold Ux at h
  cases hl:look gl s with
  | some e' =>
    rw [hl] at h
    simp only [Prod.mk.injEq] at h
    obtain ⟨rfl,rfl⟩:=h
    simp only [Ob.den] at bX
    exact ⟨by rw [hl,bX],fun t x h=>h⟩
  | none =>
    rw [hl] at h
    simp only [Prod.mk.injEq] at h
    obtain ⟨rfl,rfl⟩:=h
    refine ⟨by rw [uD,hl]; simp [look],fun t x ht=>by rw [uD,ht]⟩

theorem O4 {ops:Array Oper} {j s:Nat} (hj:zV ops j=some s) (eC:s < a.tmps.size):yielded ops a.tmps j=match a.tmps.getD s undef with | .bool b=>some b | _=>none:=by
  unfold zV at hj
  cases ho:ops[j]? with
  | none=>rw [ho] at hj; cases hj
  | some o =>
    rw [ho] at hj
    simp only at hj
    unfold yielded
    rw [ho]
    simp only [Option.bind_some,hj,Array.getElem?_eq_getElem eC]
    have e:a.tmps.getD s undef=a.tmps[s]:=by simp [Array.getD,eC]
    rw [e]
    cases a.tmps[s] <;> rfl


theorem O5 {p:List (Nat × Bool)} {v:AV} {x:Value} (hp:tD ν p) (h:Rel w S μ ν v x):Rel w S μ ν (Ck p v) x:=by
  cases p with
  | nil=>exact h
  | cons y r=>exact .g (fun _=>h) (fun hn=>absurd hp hn)

/-- Ol same aal,with Th name for its result -/
theorem c6.rename {τ τ':Tr} {a':Act} {w':World} {S':Nat→Prop} {μ':Mu} (h:c6 C (τ.apply A) a' w' S' μ' ν) (hd:τ'.dst=τ.dst) (hm:τ'.mem=τ.mem) (AZ:τ'.fF=τ.fF) (hv:∀ x,Rel w' S' μ' ν τ.v x→Rel w' S' μ' ν τ'.v x):c6 C (τ'.apply A) a' w' S' μ' ν:=by
  have e:(τ'.apply A).lb=(τ.apply A).lb:=by simp only [Tr.apply,hm,AZ]
  refine ⟨h.tmps,h.defers,fun t=>?_,by rw [e]; exact h.mem,by rw [e]; exact h.inj,by rw [e]; exact h.own,h.eP,h.fresh,h.bound,h.kept⟩
  have h0:=h.dV t
  simp only [Tr.apply,hd] at h0 ⊢
  split
  · rename_i c
    simp only [c,if_true] at h0
    exact hv _ h0
  · rename_i c
    simp only [c,if_false] at h0
    exact h0

theorem Mi {T:List (Nat × TI)} (hT:mX C.P T) {ops:Array Oper} {st:St} {gl OZ:List (Nat × Bool)} {jL sI:List zU} {o:Oper} {τ:Tr} {ob:Ob}
    (h:Rw C.P T C.nt ops st gl jL o=some (τ,OZ,sI,ob)) (bX:ob.den) (hν:∀ s e,look OZ s=some e→ν s=e) :
    Gx C ν ops o τ∧(∀ p,p∈τ.gs→ν p.1=p.2)∧En τ st.fN∧∀ t x,look gl t=some x→look OZ t=some x:=by
  unfold Rw at h
  split at h
  case h_2=>cases h
  rename_i p ss Wg Aw tE dU
  have hd:∀ t,o.dst=some t→t < C.nt:=fun t ht=>by
    rw [ht] at dU
    simp only at dU
    exact Nat.lt_of_succ_le (Nat.le_of_ble_eq_true dU)
  -- Ol path
  have path:Aw.den→(∀ s e,look Wg s=some e→ν s=e)→(∀ t x,look gl t=some x→look Wg t=some x) ∧
      ∀ (A:M) (a:Act) (w:World) (S:Nat→Prop) (μ:Mu),c6 C A a w S μ ν→(∀ s,s∈ss→A.sl s=St.get st.sl s)→(Region.wanted o (yielded ops a.tmps)=true→tD ν p)∧(Region.wanted o (yielded ops a.tmps)=false→p≠[]∧¬ tD ν p):=by
    intro yK hν1
    unfold pathOf at tE
    split at tE
    · rename_i hg
      simp only [Option.some.injEq,Prod.mk.injEq] at tE
      obtain ⟨rfl,rfl,rfl,rfl⟩:=tE
      refine ⟨fun _ _ h=>h,fun A a w S μ hs _=>⟨fun _ y hy=>(by cases hy),fun hw=>?_⟩⟩
      simp [Region.wanted,hg] at hw
    · rename_i j want hg
      split at tE
      · rename_i s Uf
        cases hnt:Nat.ble (s+1) C.nt with
        | false=>rw [hnt] at tE; cases tE
        | true =>
        rw [hnt] at tE
        simp only [cond_true] at tE
        split at tE
        · rename_i q e hbo
          generalize RC:Ux gl s e=rg at tE
          obtain ⟨gl2,Fw⟩:=rg
          simp only [Option.some.injEq,Prod.mk.injEq] at tE
          obtain ⟨rfl,rfl,rfl,rfl⟩:=tE
          obtain ⟨g1,g2⟩:=Lf RC yK
          refine ⟨g2,fun A a w S μ hs hss=>?_⟩
          have hνs:=hν1 s e g1
          have hsA:=hss s (by simp)
          have hr:=hs.dV s
          rw [hsA] at hr
          have eC:s < a.tmps.size:=by rw [hs.tmps]; exact Nat.lt_of_succ_le (Nat.le_of_ble_eq_true hnt)
          have hy:=O4 (a:=a) Uf eC
          have abL:Region.wanted o (yielded ops a.tmps)=((match a.tmps.getD s undef with | .bool b=>some b | _=>none) == some want):=by
            unfold Region.wanted
            rw [hg]
            simp only [hy]
          rw [abL]
          unfold We at hbo
          split at hbo
          · rename_i Rp
            simp only [Option.some.injEq,Prod.mk.injEq] at hbo
            obtain ⟨rfl,rfl⟩:=hbo
            rw [Rp] at hr
            have:=nh hr
            rw [this]
            refine ⟨fun hw y hy=>?_,fun hw=>⟨by simp,fun hh=>?_⟩⟩
            · simp only [List.nil_append,List.mem_singleton] at hy
              subst hy
              simp only [beq_iff_eq,Option.some.injEq] at hw
              rw [hνs,hw]
            · have:=hh (s,want) (by simp)
              rw [hνs] at this
              simp [this] at hw
          · rename_i Rp
            simp only [Option.some.injEq,Prod.mk.injEq] at hbo
            obtain ⟨rfl,rfl⟩:=hbo
            rw [Rp] at hr
            generalize a.tmps.getD s undef=xv at hr ⊢
            cases hr with
            | g h1 h0 =>
              rename_i q0 e0
              by_cases hq:tD ν q0
              · have:=nh (h1 hq)
                rw [this]
                refine ⟨fun hw y hy=>?_,fun hw=>⟨by simp,fun hh=>?_⟩⟩
                · rcases List.mem_append.1 hy with hy | hy
                  · exact hq y hy
                  · simp only [List.mem_singleton] at hy
                    subst hy
                    simp only [beq_iff_eq,Option.some.injEq] at hw
                    rw [hνs,hw]
                · have:=hh (s,want) (by simp)
                  rw [hνs] at this
                  simp [this] at hw
              · have:=h0 hq
                rw [this]
                refine ⟨fun hw=>?_,fun _=>⟨by simp,fun hh=>hq (fun y hy=>hh y (List.mem_append.2 (.inl hy)))⟩⟩
                simp [undef] at hw
          · cases hbo
        · cases tE
      · cases tE
  have enN:∀ (ts:List Nat) (τ:Tr),τ.need=qo st.sl ts→(∀ p,p∈τ.ro→st.fN.lb p.1=some p.2)→(∀ p,p∈τ.mem→st.fN.lb p.1=some p.2)→En τ st.fN:=fun ts τ hn h1 h2 =>
    ⟨fun q hq=>by rw [hn] at hq; exact (Hw hq).1.symm,h1,h2⟩
  split at h
  · -- pick
    rename_i c x y wP
    split at h
    · rename_i s e ex ey Cn
      generalize RC:Ux Wg s e=rg at h
      obtain ⟨gl2,Fw⟩:=rg
      simp only [Option.some.injEq,Prod.mk.injEq] at h
      obtain ⟨rfl,rfl,rfl,rfl⟩:=h
      obtain ⟨yK,Ax⟩:=Ob.cH bX
      obtain ⟨r1,r2⟩:=Lf RC Ax
      obtain ⟨Wi,aam⟩:=path yK (fun s' e' hl=>hν s' e' (r2 s' e' hl))
      refine ⟨?_,fun q hq=>hν _ _ (Cm hq),enN _ _ rfl (fun p hp=>by cases hp) (fun p hp=>by cases hp),fun t x h=>r2 t x (Wi t x h)⟩
      intro A a w S μ hs VG _ _
      have hA:∀ t,t∈ss++slotsOf [c,x,y]→A.sl t=St.get st.sl t:=fun t ht=>VG.need (t,St.get st.sl t) (DR ht)
      obtain ⟨p1,p0⟩:=aam A a w S μ hs (fun s' vK=>hA s' (List.mem_append.2 (.inl vK)))
      have Hv:∀ q,q∈qo st.sl (ss++slotsOf [c,x,y])→Rel w S μ ν q.2 (a.tmps.getD q.1 undef):=fun q hq=>by
        have:=hs.dV q.1
        rw [VG.need q hq] at this
        exact this
      split
      · rename_i hw
        have hp:=p1 hw
        have hνs:ν s=e:=hν s e r1
        unfold Wf at Cn
        cases c with
        | tmp s' =>
          simp only at Cn
          split at Cn
          · rename_i e' ex' ey' h1 h2 h3
            simp only [Option.some.injEq,Prod.mk.injEq] at Cn
            obtain ⟨rfl,rfl,rfl,rfl⟩:=Cn
            have hc:=nh (Cl hs.yt Hv hp _ _ h1)
            refine lP (x:=.bool (bif e' then ex' else ey')) hs hd ?_ (O5 hp (gz rfl)) rfl rfl rfl
            simp only [execOp,wP,hc,asBool,Sem.run_bind,Sem.run_pure,Result.andThen_ok]
            cases e' with
            | true =>
              have hpx:tD ν ((s',true) :: p):=fun y hy=>by
                rcases List.mem_cons.1 hy with rfl | hy
                · exact hνs
                · exact hp y hy
              have hx:=nh (Cl hs.yt Hv hpx _ _ h2)
              simp [hx]
            | false =>
              have hpy:tD ν ((s',false) :: p):=fun y hy=>by
                rcases List.mem_cons.1 hy with rfl | hy
                · exact hνs
                · exact hp y hy
              have hx:=nh (Cl hs.yt Hv hpy _ _ h3)
              simp [hx]
          · cases Cn
        | const=>cases Cn
        | global=>cases Cn
        | func=>cases Cn
      · rename_i hw
        obtain ⟨xN,hnp⟩:=p0 (by simpa using hw)
        refine ⟨S,μ,?_⟩
        have hr:Rel w S μ ν (Ck p (.d (.v (.bool (bif e then ex else ey))))) undef:=by
          cases p with
          | nil=>exact absurd rfl xN
          | cons y r=>exact .g (fun hh=>absurd hh hnp) (fun _=>rfl)
        have h5:=hs.put (dst:=o.dst) hd hr
        have e0:(Tr.mk (qo st.sl (ss++slotsOf [c,x,y])) o.dst (Ck p (.d (.v (.bool (bif e then ex else ey))))) [] [] [] (Mg gl2 (s :: p.map (·.1)))).apply A=A.vI o.dst (Ck p (.d (.v (.bool (bif e then ex else ey))))):=by
          unfold Tr.apply M.vI M.put
          cases hdd:o.dst with
          | none=>simp [look]
          | some d =>
            simp only [look,List.map_nil,List.not_mem_nil,if_false,Option.some.injEq]
            congr 1
            funext t
            by_cases cc:d=t
            · simp [cc]
            · have:¬ t=d:=fun e=>cc e.symm
              simp [cc,this]
        rw [e0]
        exact h5
    · cases h
  · rename_i op0 hnp
    split at h
    · rename_i r J5 hev
      simp only [Option.some.injEq,Prod.mk.injEq] at h
      obtain ⟨rfl,rfl,rfl,rfl⟩:=h
      obtain ⟨yK,Ax⟩:=Ob.cH bX
      obtain ⟨Wi,aam⟩:=path yK hν
      have Wj:(∀ p,p∈r.ro→look st.lb p.1=some p.2)∧(∀ p,p∈r.mem→look st.lb p.1=some p.2)∧(p≠[]→r.mem=[]∧r.fF=[]):=by
        obtain ⟨q1,q2,q3⟩:=RA hev
        exact ⟨q1,q2,fun xN=>q3 (by cases p with | nil=>exact absurd rfl xN | cons _ _=>rfl)⟩
      refine ⟨?_,fun q hq=>hν _ _ (Cm hq),enN _ _ rfl Wj.1 Wj.2.1,Wi⟩
      intro A a w S μ hs VG vG _
      have hA:∀ t,t∈ss++slotsOf o.op.operands.toList→A.sl t=St.get st.sl t:=fun t ht=>VG.need (t,St.get st.sl t) (DR ht)
      obtain ⟨p1,p0⟩:=aam A a w S μ hs (fun s' vK=>hA s' (List.mem_append.2 (.inl vK)))
      have Hv:∀ q,q∈qo st.sl (ss++slotsOf o.op.operands.toList)→Rel w S μ ν q.2 (a.tmps.getD q.1 undef):=fun q hq=>by
        have:=hs.dV q.1
        rw [VG.need q hq] at this
        exact this
      split
      · rename_i hw
        have hp:=p1 hw
        have ady:r.ob.den:=yJ Ax (fun s e _ hl=>hν s e hl) hp
        have:=Rv hT hs (fun x y hxy=>Cl hs.yt Hv hp x y hxy) hd hev VG.ro VG.mem ady (fun κ hκ=>vG κ hκ) (qo st.sl (ss++slotsOf o.op.operands.toList)) (Mg Wg (p.map (·.1)))
        refine Oper.wp_mono (fun a' w' hh=>?_) this
        obtain ⟨S',μ',da⟩:=hh
        exact ⟨S',μ',da.rename rfl rfl rfl (fun x hx=>O5 hp hx)⟩
      · rename_i hw
        obtain ⟨xN,adz⟩:=p0 (by simpa using hw)
        obtain ⟨hm1,hm2⟩:=Wj.2.2 xN
        refine ⟨S,μ,?_⟩
        have hr:Rel w S μ ν (Ck p r.v) undef:=by
          cases p with
          | nil=>exact absurd rfl xN
          | cons y r=>exact .g (fun hh=>absurd hh adz) (fun _=>rfl)
        have h5:=hs.put (dst:=o.dst) hd hr
        have e0:(Tr.mk (qo st.sl (ss++slotsOf o.op.operands.toList)) o.dst (Ck p r.v) r.ro r.mem r.fF (Mg Wg (p.map (·.1)))).apply A=A.vI o.dst (Ck p r.v):=by
          unfold Tr.apply M.vI M.put
          simp only [hm1,hm2]
          cases hdd:o.dst with
          | none=>simp [look]
          | some d =>
            simp only [look,List.map_nil,List.not_mem_nil,if_false,Option.some.injEq]
            congr 1
            funext t
            by_cases cc:d=t
            · simp [cc]
            · have:¬ t=d:=fun e=>cc e.symm
              simp [cc,this]
        rw [e0]
        exact h5
    · cases h

end

end Go.Av
