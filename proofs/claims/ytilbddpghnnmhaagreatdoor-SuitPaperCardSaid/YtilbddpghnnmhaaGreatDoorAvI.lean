/- The evaluator's soundness: slices, and all together. -/
import Derived.Test.YtilbddpghnnmhaaGreatDoorAvH
set_option linter.unusedSimpArgs false
set_option linter.unusedVariables false
namespace Go.Av
open Go
set_option linter.unusedSectionVars false
variable [qz]
section
variable {P : Program} {T : List (Nat × TI)} {w : World} {S : Nat → Prop} {μ : Mu} {ν : Nat → Bool}
theorem zpN {ρ:Operand→Option AV} {a:Act} (hρ:∀ x y,ρ x=some y→Rel w S μ ν y (a.eval x)) {x:Option Operand} {y:Option AV} (h:zoY ρ x=some y) :
  (y=none∧x=none)∨∃ v q,y=some v∧x=some q∧Rel w S μ ν v (a.eval q):=by
 cases x with
 | none=>simp only [zoY,Option.some.injEq] at h; subst h; exact .inl ⟨rfl,rfl⟩
 | some q =>
  simp only [zoY] at h
  cases hq:ρ q with
  | none=>rw [hq] at h; cases h
  | some v=>rw [hq] at h; simp only [Option.some.injEq] at h; subst h; exact .inr ⟨v,q,rfl,rfl,hρ q v hq⟩
theorem znx {n:Nat} {f:Nat→List D} {ad:Option Addr} {m cap:Nat} (l h:Nat) (hlh:l≤h) (hn:h≤n) {size:Nat} (hsz:∀ i,i < n→(f i).length=size) (hr:Rd w S (.sl n f) (.slice ad m cap)) :
  Rd w S (.sl (h - l) fun i=>f (l+i)) (.slice (if cap=l then ad else ad.map (·.add (l * size))) (h - l) (cap - l))∧m=n∧n≤cap:=by
 cases hr with
 | nil =>
  obtain rfl:h=0:=by omega
  obtain rfl:l=0:=by omega
  exact ⟨.nil _,rfl,Nat.le_refl _⟩
 | sl _ _ a _ k vals hc hm hs hk hcell h' =>
  refine ⟨?_,rfl,hc⟩
  by_cases hcl:cap=l
  ·subst hcl
   obtain rfl:h=cap:=by omega
   simp only [if_true,Nat.sub_self]
   exact .sl 0 _ a 0 0 (fun _ _=>undef) (Nat.le_refl _) (by simp [maxLen]) (.inl rfl) (fun i hi=>absurd hi (by omega)) (fun i j hi=>absurd hi (by omega)) (fun i j hi=>absurd hi (by omega))
  ·simp only [hcl,if_false,Option.map_some]
   by_cases hz:h=l
   ·subst hz
    rw [Nat.sub_self]
    exact .sl 0 _ _ _ 0 (fun _ _=>undef) (Nat.zero_le _) (by omega) (.inl rfl) (fun i hi=>absurd hi (by omega)) (fun i j hi=>absurd hi (by omega)) (fun i j hi=>absurd hi (by omega))
   ·have hsp:a.spot=none:=by
     rcases hs with h0 | h0
     ·omega
     ·exact h0
    have hks:k=size:=by rw [← hk l (by omega)]; exact hsz l (by omega)
    subst hks
    have ea:a.add (l * k)=⟨a.block,a.off+l * k,none⟩:=by rw [zcA hsp,addr_add]
    rw [ea]
    refine .sl _ _ _ _ k (fun i j=>vals (l+i) j) (by omega) (by omega) (.inr rfl) (fun i hi=>hk (l+i) (by omega)) (fun i j hi hj=>?_) (fun i j hi hj=>h' (l+i) j (by omega) hj)
    have:=hcell (l+i) j (by omega) hj
    refine ⟨this.1,?_⟩
    rw [← this.2]
    show w.cell? ⟨a.block,a.off+l * k+(i * k+j),none⟩=w.cell? ⟨a.block,a.off+((l+i) * k+j),none⟩
    rw [Nat.add_mul,Nat.add_assoc a.off,Nat.add_assoc (l * k)]
theorem zge (hT:TOk P T) {t:Nat} {i:TI} (hl:look T t=some i) (hk:i.kind=.str) {x v:AV} {lo hi:Option AV} {ro:List (Nat × Blk)} {ob:Ob} {u:Value} {lo' hi':Option Value} (h:WQ x lo hi=some (v,ro,ob)) (hob:ob.den) (hx:Rel w S μ ν x u)
  (h1:(lo=none∧lo'=none)∨∃ y z,lo=some y∧lo'=some z∧Rel w S μ ν y z) (h2:(hi=none∧hi'=none)∨∃ y z,hi=some y∧hi'=some z∧Rel w S μ ν y z) :
  ∃ z,(Instr.sliceAt t u lo' hi' none).run P w=.ok z w∧Rel w S μ ν v z:=by
 obtain ⟨ti,zz,F⟩:=jo (hT t _ hl)
 have hkk:=F.kind
 rw [hk] at hkk
 have hu:=zav hkk
 unfold WQ at h
 split at h <;> try (cases h; done)
 all_goals
  simp only [ok,Option.some.injEq,Prod.mk.injEq] at h
  obtain ⟨rfl,-,rfl⟩:=h
  simp only [Ob.den] at hob
  obtain rfl:=kw rfl hx
  rcases h1 with ⟨e1,rfl⟩ | ⟨y1,z1,e1,rfl,r1⟩ <;> cases e1
  all_goals
   rcases h2 with ⟨e2,rfl⟩ | ⟨y2,z2,e2,rfl,r2⟩ <;> cases e2
  all_goals
   (try obtain rfl:=qj r1)
   (try obtain rfl:=qj r2)
   refine ⟨_,?_,zD rfl⟩
   have q1:∀ (k:IntKind) (i:Int) (y:Nat) (c:BoundsCode),0≤i→i≤y→(Instr.sliceBound (.int k i) y c).run P w=.ok i.toNat w:=fun k i y c h0 h1=>run_sliceBound w k i y c h0 h1
   simp (disch:=omega) [Instr.sliceAt,run_underlying hu,Instr.slice,Instr.sliceBounds,q1]
theorem ziW (hT:TOk P T) {t e:Nat} {i ie:TI} (hl:look T t=some i) (hk:i.kind=.slice e) (hle:look T e=some ie) {x v:AV} {lo hi:Option AV} {ro:List (Nat × Blk)} {ob:Ob} {u:Value} {lo' hi':Option Value} (h:Fp ie.size x lo hi=some (v,ro,ob)) (hob:ob.den) (hx:Rel w S μ ν x u)
  (h1:(lo=none∧lo'=none)∨∃ y z,lo=some y∧lo'=some z∧Rel w S μ ν y z) (h2:(hi=none∧hi'=none)∨∃ y z,hi=some y∧hi'=some z∧Rel w S μ ν y z) :
  ∃ z,(Instr.sliceAt t u lo' hi' none).run P w=.ok z w∧Rel w S μ ν v z:=by
 obtain ⟨ti,zz,F⟩:=jo (hT t _ hl)
 have hkk:=F.kind
 rw [hk] at hkk
 have hu:=qq hkk
 obtain ⟨te,ze,G⟩:=jo (hT e _ hle)
 have hszr:(sizeOf e).run P w=.ok ie.size w:=by simp [sizeOf,typeInfo,G.info,G.size]
 have q1:∀ (k:IntKind) (i:Int) (y:Nat) (c:BoundsCode),0≤i→i≤y→(Instr.sliceBound (.int k i) y c).run P w=.ok i.toNat w:=fun k i y c h0 h1=>run_sliceBound w k i y c h0 h1
 have hsl:∀ n f,Rel w S μ ν (.d (.sl n f)) u→∃ ad m cap,u=.slice ad m cap:=fun n f hr=>by
  cases vp.1 hr with
  | nil=>exact ⟨_,_,_,rfl⟩
  | sl=>exact ⟨_,_,_,rfl⟩
 unfold Fp at h
 split at h
 ·rename_i n f k l
  simp only [Option.some.injEq,Prod.mk.injEq] at h
  obtain ⟨rfl,-,rfl⟩:=h
  obtain ⟨⟨b1,b2⟩,hs⟩:=hob
  obtain ⟨ad,m,cap,rfl⟩:=hsl n f hx
  rcases h1 with ⟨e1,rfl⟩ | ⟨y1,z1,e1,rfl,r1⟩ <;> cases e1
  rcases h2 with ⟨e2,rfl⟩ | ⟨y2,z2,e2,rfl,r2⟩ <;> cases e2
  obtain rfl:=qj r1
  obtain ⟨g1,rfl,g3⟩:=znx l.toNat n (by omega) (Nat.le_refl n) hs (vp.1 hx)
  refine ⟨_,?_,.d g1⟩
  simp (disch:=omega) [Instr.sliceAt,run_underlying hu,Instr.slice,Instr.sliceBounds,q1,hszr]
 ·rename_i n f k h'
  simp only [Option.some.injEq,Prod.mk.injEq] at h
  obtain ⟨rfl,-,rfl⟩:=h
  obtain ⟨⟨b1,b2⟩,hs⟩:=hob
  obtain ⟨ad,m,cap,rfl⟩:=hsl n f hx
  rcases h1 with ⟨e1,rfl⟩ | ⟨y1,z1,e1,rfl,r1⟩ <;> cases e1
  rcases h2 with ⟨e2,rfl⟩ | ⟨y2,z2,e2,rfl,r2⟩ <;> cases e2
  obtain rfl:=qj r2
  obtain ⟨g1,rfl,g3⟩:=znx 0 h'.toNat (by omega) (by omega) hs (vp.1 hx)
  refine ⟨_,?_,.d g1⟩
  simp (disch:=omega) [Instr.sliceAt,run_underlying hu,Instr.slice,Instr.sliceBounds,q1,hszr]
 ·rename_i n f k l k' h'
  simp only [Option.some.injEq,Prod.mk.injEq] at h
  obtain ⟨rfl,-,rfl⟩:=h
  obtain ⟨⟨b1,b2,b3⟩,hs⟩:=hob
  obtain ⟨ad,m,cap,rfl⟩:=hsl n f hx
  rcases h1 with ⟨e1,rfl⟩ | ⟨y1,z1,e1,rfl,r1⟩ <;> cases e1
  rcases h2 with ⟨e2,rfl⟩ | ⟨y2,z2,e2,rfl,r2⟩ <;> cases e2
  obtain rfl:=qj r1
  obtain rfl:=qj r2
  obtain ⟨g1,rfl,g3⟩:=znx l.toNat h'.toNat (by omega) (by omega) hs (vp.1 hx)
  refine ⟨_,?_,.d g1⟩
  simp (disch:=omega) [Instr.sliceAt,run_underlying hu,Instr.slice,Instr.sliceBounds,q1,hszr]
 ·cases h
theorem XX {k len:Nat} {ds:List D} (hl:ds.length=len * k) {i:Nat} (hi:i < len):(zaa k len ds i).length=k∧∀ j,j < k→(zaa k len ds i).getD j default=ds.getD (i * k+j) default:=by
 unfold zaa
 cases hb:Nat.beq len 1 with
 | true =>
  have:=Nat.eq_of_beq_eq_true hb
  subst this
  obtain rfl:i=0:=by omega
  simp only [cond_true]
  exact ⟨by omega,fun j _=>by simp⟩
 | false =>
  simp only [cond_false]
  have hik:i * k+k≤len * k:=by
   calc i * k+k=(i+1) * k:=by rw [Nat.add_mul,Nat.one_mul]
    _≤len * k:=Nat.mul_le_mul_right k hi
  refine ⟨by simp only [List.length_take,List.length_drop]; omega,fun j hj=>?_⟩
  simp [List.getD,hj]
theorem zfp (hT:TOk P T) {t n e:Nat} {i ie:TI} (hl:look T t=some i) (hk:i.kind=.array n e) (hle:look T e=some ie) {x v:AV} {lo hi:Option AV} {ro:List (Nat × Blk)} {ob:Ob} {u:Value} {lo' hi':Option Value} (h:WR ie.size n x lo hi=some (v,ro,ob)) (hx:Rel w S μ ν x u)
  (h1:(lo=none∧lo'=none)∨∃ y z,lo=some y∧lo'=some z∧Rel w S μ ν y z) (h2:(hi=none∧hi'=none)∨∃ y z,hi=some y∧hi'=some z∧Rel w S μ ν y z) :
  ∃ z,(Instr.sliceAt t u lo' hi' none).run P w=.ok z w∧Rel w S μ ν v z:=by
 obtain ⟨ti,zz,F⟩:=jo (hT t _ hl)
 have hkk:=F.kind
 rw [hk] at hkk
 have hu:=Wo hkk
 obtain ⟨te,ze,G⟩:=jo (hT e _ hle)
 have hszr:(sizeOf e).run P w=.ok ie.size w:=by simp [sizeOf,typeInfo,G.info,G.size]
 unfold WR at h
 split at h
 ·rename_i cs
  generalize hb:(Nat.beq cs.length (n * ie.size)&&Nat.ble n 16777216&&Nat.ble 1 n)=bb at h
  cases bb with
  | false=>cases h
  | true =>
   simp only [cond_true,ok,Option.some.injEq,Prod.mk.injEq] at h
   obtain ⟨rfl,-,-⟩:=h
   simp only [Bool.and_eq_true] at hb
   have hlen:=Nat.eq_of_beq_eq_true hb.1.1
   have hn:=Nat.le_of_ble_eq_true hb.1.2
   have hn1:=Nat.le_of_ble_eq_true hb.2
   rcases h1 with ⟨_,rfl⟩ | ⟨y1,z1,e1,_⟩ <;> try cases e1
   rcases h2 with ⟨_,rfl⟩ | ⟨y2,z2,e2,_⟩ <;> try cases e2
   cases hx with
   | @ref _ b o vals hcell hh =>
    refine ⟨.slice (some ⟨b,o,none⟩) n n,?_,.d (.sl n _ ⟨b,o,none⟩ n ie.size (fun i j=>vals (i * ie.size+j)) (Nat.le_refl _) (by simp only [maxLen]; omega) (.inr rfl) (fun i hi=>(XX hlen hi).1) (fun i j hi hj=>?_) (fun i j hi hj=>?_))⟩
    ·simp [Instr.sliceAt,run_underlying hu,Instr.sureAddr,Instr.sliceBounds,hszr,addr_add]
    ·have hlt:i * ie.size+j < cs.length:=by
      rw [hlen]
      calc i * ie.size+j < i * ie.size+ie.size:=by omega
       _=(i+1) * ie.size:=by rw [Nat.add_mul,Nat.one_mul]
       _≤n * ie.size:=Nat.mul_le_mul_right _ hi
     exact hcell _ hlt
    ·have hlt:i * ie.size+j < cs.length:=by
      rw [hlen]
      calc i * ie.size+j < i * ie.size+ie.size:=by omega
       _=(i+1) * ie.size:=by rw [Nat.add_mul,Nat.one_mul]
       _≤n * ie.size:=Nat.mul_le_mul_right _ hi
     rw [(XX hlen hi).2 j hj]
     exact hh _ hlt
 ·cases h
theorem zmW (hT:TOk P T) {ρ:Operand→Option AV} {a:Act} (hρ:∀ x y,ρ x=some y→Rel w S μ ν y (a.eval x)) {t:Nat} {x v:AV} {lo hi mx:Option Operand} {ro:List (Nat × Blk)} {ob:Ob} {u:Value} (h:zeI T ρ t x lo hi mx=some (v,ro,ob)) (hob:ob.den) (hx:Rel w S μ ν x u) :
  ∃ z,(Instr.sliceAt t u (lo.map a.eval) (hi.map a.eval) (mx.map a.eval)).run P w=.ok z w∧Rel w S μ ν v z:=by
 unfold zeI at h
 have conv:∀ (q:Option Operand) (y:Option AV),zoY ρ q=some y→(y=none∧q.map a.eval=none)∨∃ v z,y=some v∧q.map a.eval=some z∧Rel w S μ ν v z:=fun q y hq=>by
  rcases zpN hρ hq with ⟨e1,e2⟩ | ⟨v,p,e1,e2,r⟩
  ·subst e2; exact .inl ⟨e1,rfl⟩
  ·subst e2; exact .inr ⟨v,_,e1,rfl,r⟩
 split at h
 ·rename_i l' h' hlo hhi hl
  exact zge hT hl rfl h hob hx (conv lo _ hlo) (conv hi _ hhi)
 ·rename_i l' h' _ hlo hhi hl
  split at h
  ·rename_i ie hie
   exact ziW hT hl rfl hie h hob hx (conv lo _ hlo) (conv hi _ hhi)
  ·cases h
 ·rename_i l' h' _ _ hlo hhi hl
  split at h
  ·rename_i ie hie
   exact zfp hT hl rfl hie h hx (conv lo _ hlo) (conv hi _ hhi)
  ·cases h
 ·cases h
theorem vx {s:Sem Value} {x:Value} (h:s.run P w=.ok x w):(do pure (.value (← s)):Sem Next).run P w=.ok (.value x) w:=by simp [h]
end
theorem zpy {C:Cx} {A:M} {a:Act} {T:List (Nat × TI)} {w:World} {S:Nat→Prop} {μ:Mu} {ν:Nat→Bool} (hT:TOk C.P T) (hs:Sim C A a w S μ ν) {lb:List (Nat × Blk)} {o:Oper} {ρ:Operand→Option AV} (hρ:∀ x y,ρ x=some y→Rel w S μ ν y (a.eval x))
  {v:AV} {ro:List (Nat × Blk)} {ob:Ob} (h:evV T lb ρ o.op=some (v,ro,ob)) (hro:∀ p,p∈ro→A.lb p.1=some p.2) (hob:ob.den):∃ x,(execOp a.eval o).run C.P w=.ok (.value x) w∧Rel w S μ ν v x:=by
 unfold evV at h
 split at h
 all_goals rename_i ho
 ·split at h
  ·rename_i y hy
   simp only [ok,Option.some.injEq,Prod.mk.injEq] at h
   obtain ⟨rfl,-,-⟩:=h
   exact ⟨_,by simp [execOp,ho],hρ _ _ hy⟩
  ·cases h
 ·split at h
  ·rename_i y hy
   simp only [ok,Option.some.injEq,Prod.mk.injEq] at h
   obtain ⟨rfl,-,-⟩:=h
   exact ⟨_,by simp [execOp,ho],hρ _ _ hy⟩
  ·cases h
 ·split at h
  ·rename_i i y hi hy
   split at h
   ·rename_i cs ro' ob' hc
    split at h
    ·rename_i z hz
     simp only [Option.some.injEq,Prod.mk.injEq] at h
     obtain ⟨rfl,rfl,rfl⟩:=h
     obtain ⟨u,h1,h2⟩:=zjK (P:=C.P) (hT _ _ hi) hz (zcY hc hs hro hob (hρ _ _ hy))
     exact ⟨u,by simp only [execOp,ho]; exact vx h1,h2⟩
    ·cases h
   ·cases h
  ·cases h
 ·split at h
  ·rename_i y hy
   obtain ⟨u,h1,h2⟩:=zmT hT h (hρ _ _ hy)
   exact ⟨u,by simp only [execOp,ho]; exact vx h1,h2⟩
  ·cases h
 ·split at h
  ·rename_i y hy
   obtain ⟨u,h1,h2⟩:=znw hT h (hρ _ _ hy)
   exact ⟨u,by simp only [execOp,ho]; exact vx h1,h2⟩
  ·cases h
 ·split at h
  ·rename_i y n hy hn
   obtain ⟨u,h1,h2⟩:=zeo hT h hob (hρ _ _ hy) (hρ _ _ hn)
   exact ⟨u,by simp only [execOp,ho]; exact vx h1,h2⟩
  ·cases h
 ·split at h
  ·rename_i y n hy hn
   obtain ⟨u,h1,h2⟩:=zlz hT h hob (hρ _ _ hy) (hρ _ _ hn)
   exact ⟨u,by simp only [execOp,ho]; exact vx h1,h2⟩
  ·cases h
 ·split at h
  ·rename_i y n hy hn
   obtain ⟨u,h1,h2⟩:=zoU hT h hob (hρ _ _ hy) (hρ _ _ hn)
   exact ⟨u,by simp only [execOp,ho]; exact vx h1,h2⟩
  ·cases h
 ·split at h
  ·rename_i y hy
   obtain ⟨u,h1,h2⟩:=zqL (P:=C.P) h (hρ _ _ hy)
   exact ⟨u,by simp only [execOp,ho]; exact vx h1,h2⟩
  ·cases h
 ·rename_i src dst opx
  split at h
  ·rename_i y hy
   unfold znn at h
   split at h
   ·rename_i hls hl
    simp only [ok,Option.some.injEq,Prod.mk.injEq] at h
    obtain ⟨rfl,-,-⟩:=h
    have hx:=qj (hρ _ _ hy)
    obtain ⟨ti,z,F⟩:=jo (hT _ _ hl)
    have hu:=Ut F.kind
    obtain ⟨tj,zj,G⟩:=jo (hT _ _ hls)
    obtain ⟨ds,hds⟩:∃ d,C.P.underlying src=some d:=by
     have:=G.kind
     cases hd:C.P.underlying src with
     | some d=>exact ⟨d,rfl⟩
     | none=>exfalso; revert this; generalize TI.kind _=kk; cases kk <;> simp [kY,hd]
    refine ⟨_,?_,zD rfl⟩
    simp only [execOp,ho]
    refine vx ?_
    simp only [convert,Sem.run_bind,run_underlying hds,run_underlying hu,Result.andThen_ok,hx]
    simp [Conv.intToInt]
   ·cases h
  ·cases h
 ·split at h
  ·rename_i y hy
   obtain ⟨u,h1,h2⟩:=ziQ (P:=C.P) h (hρ _ _ hy)
   exact ⟨u,by simp only [execOp,ho]; exact vx h1,h2⟩
  ·cases h
 ·obtain ⟨u,h1,h2⟩:=zln hT hρ h
  exact ⟨u,by simp only [execOp,ho]; exact vx h1,h2⟩
 ·rename_i f first caps
  split at h
  ·rename_i l hf hl
   simp only [ok,Option.some.injEq,Prod.mk.injEq] at h
   obtain ⟨rfl,-,-⟩:=h
   have hr:=gu hρ caps.toList l hl
   have hfe:first = #[]:=by cases first; simpa using hf
   subst hfe
   refine ⟨_,by simp only [execOp,ho]; exact vx (x:=.func (.func _) #[] (caps.map a.eval)) (by simp [Instr.makeFunc]),.fn ?_ (fun i hi=>?_)⟩
   ·have:=hr.1; simpa using this
   ·rw [getD_toList,Array.toList_map]; exact hr.2 i hi
  ·cases h
 ·split at h
  ·rename_i y hy
   obtain ⟨u,h1,h2⟩:=zmW hT hρ h hob (hρ _ _ hy)
   exact ⟨u,by simp only [execOp,ho]; exact vx h1,h2⟩
  ·cases h
 ·rename_i xs ts
  split at h
  ·rename_i y t hy ht
   have hr:=gu hρ xs.toList _ hy
   obtain ⟨u,h1,h2⟩:=zoS (P:=C.P) (ty:=o.type) hT h (by simpa using hr.2 0 (by simp):Rel w S μ ν y ((xs.toList.map a.eval).getD 0 undef))
   have hts:ts = #[t]:=by cases ts; simpa using ht
   have hxs:xs.map a.eval = #[(xs.toList.map a.eval).getD 0 undef]:=by
    have:=hr.1
    apply Array.ext'
    rw [Array.toList_map]
    generalize xs.toList.map a.eval=l at *
    match l,this with
    | [q],_=>rfl
   refine ⟨u,?_,h2⟩
   simp only [execOp,ho,resolve,Sem.run_bind,Sem.run_pure,Result.andThen_ok,invoke,builtin,hts,hxs,h1]
  ·cases h
 ·rename_i xs _
  split at h
  ·rename_i l hl
   have hr:=gu hρ xs.toList l hl
   unfold zcu at h
   split at h
   ·rename_i k n r
    split at h
    ·rename_i m hm
     simp only [ok,Option.some.injEq,Prod.mk.injEq] at h
     obtain ⟨rfl,-,-⟩:=h
     have hlist:(xs.map a.eval).toList=xs.toList.map a.eval:=by simp
     refine ⟨_,?_,zD rfl⟩
     simp only [execOp,ho,resolve,Sem.run_bind,Sem.run_pure,Result.andThen_ok,invoke,builtin,Builtin.max_,hlist]
     generalize xs.toList.map a.eval=vs at *
     match vs,hr with
     | [],hr=>have:=hr.1; simp at this
     | v :: vs,hr =>
      have h0:=hr.2 0 (by simp)
      simp only [List.getD_cons_zero] at h0
      obtain rfl:=qj h0
      have ht:kU w S μ ν r vs:=⟨by simpa using hr.1,fun i hi=>by simpa using hr.2 (i+1) (by simpa using hi)⟩
      simp only [zjD (P:=C.P) r vs k n m ht hm,Result.andThen_ok]
    ·cases h
   ·cases h
  ·cases h
 ·rename_i xs _
  split at h
  ·rename_i l hl
   have hr:=gu hρ xs.toList l hl
   unfold zcu at h
   split at h
   ·rename_i k n r
    split at h
    ·rename_i m hm
     simp only [ok,Option.some.injEq,Prod.mk.injEq] at h
     obtain ⟨rfl,-,-⟩:=h
     have hlist:(xs.map a.eval).toList=xs.toList.map a.eval:=by simp
     refine ⟨_,?_,zD rfl⟩
     simp only [execOp,ho,resolve,Sem.run_bind,Sem.run_pure,Result.andThen_ok,invoke,builtin,Builtin.min_,hlist]
     generalize xs.toList.map a.eval=vs at *
     match vs,hr with
     | [],hr=>have:=hr.1; simp at this
     | v :: vs,hr =>
      have h0:=hr.2 0 (by simp)
      simp only [List.getD_cons_zero] at h0
      obtain rfl:=qj h0
      have ht:kU w S μ ν r vs:=⟨by simpa using hr.1,fun i hi=>by simpa using hr.2 (i+1) (by simpa using hi)⟩
      simp only [zjz (P:=C.P) r vs k n m ht hm,Result.andThen_ok]
    ·cases h
   ·cases h
  ·cases h
 ·cases h
end Go.Av
