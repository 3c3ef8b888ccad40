/- Functions, as sketches. -/
import Derived.Test.YtbcnlpcaajpclaaGreatDoorRc15
namespace Go.Proofs.YtbcnlpcaajpclaaGreatDoor
open Go Go.Av
set_option linter.unusedSimpArgs false
set_option linter.unusedVariables false
set_option maxHeartbeats 1000000
set_option maxRecDepth 100000
theorem runY_app {β Y γ:Type} (g:Y→List β) {f:List β→Y→γ ⊕ List β}:∀ (l:List Y) (s:List β),(∀ s y,y∈l→f s y=.inr (s++g y))→runY f l s=.inr (s++l.flatMap g)
  | [],s,_=>by simp [runY]
  | y :: r,s,h=>by
    simp only [runY,h s y (by simp)]
    rw [runY_app g r _ (fun s z hz=>h s z (by simp [hz]))]
    simp
theorem iter_app {α β ι δ:Type} [Inhabited α] (l:List α) (g:α→List β) (pack:List β→Nat→ι) {f:ι→δ ⊕ ι} {d:δ} (e:List β→δ)
    (hs:∀ s i,i < l.length→f (pack s i)=.inr (pack (s++g (l.getD i default)) (i+1))) (he:∀ s,f (pack s l.length)=.inl (e s)) {n:Nat} (hn:l.length < n) (s:List β):iter f d n (pack s 0)=e (s++l.flatMap g):=by
  rw [iter_walk0 (d:=d) l pack (fun x s=>.inr (s++g x)) e hs he hn s,walk_fold (fun x s=>s++g x) e]
  congr 1
  clear hs he hn
  induction l generalizing s with
  | nil=>simp
  | cons x r ih=>rw [List.foldl_cons,ih]; simp
/-- a claim of an owner by a signature,if there is one -/
noncomputable def claimOf (r:Realm) (forum:Int) (f:File) (day:Int) (c:Court) (eff:List Effect) (links:List Int) (part:Int) (o:Owner) (sign:Int):List Claim :=
  bif (owe_court_state c o sign links eff).1 == 0||(c.view.now.signs.getD sign.toNat default).who == o.firm then [] else
  [{ debtor:=(c.view.now.signs.getD sign.toNat default).who,creditor:=o.firm,part:=part,sign:=sign,by_:=o.sign,turn:=(owe_court_state c o sign links eff).2,sum:=(amount_Owed r forum f sign day).rest,currency:=f.bill.currency,state:=(owe_court_state c o sign links eff).1 }]
noncomputable def claimsOf (r:Realm) (forum:Int) (f:File) (day:Int) (c:Court) (eff:List Effect):List Claim :=
  c.view.lead.flatMap fun part=>(owe_court_owners_c1 c (owe_view_links c.view part)).flatMap fun o=>(owe_view_liable c.view part o.sign (owe_view_links c.view part)).flatMap fun sign=>claimOf r forum f day c eff (owe_view_links c.view part) part o sign
theorem Claims_eq (r:Realm) (forum:Int) (f:File) (day:Int):owe_Claims r forum f day=bif !(owe_try r forum f day).2 then [] else claimsOf r forum f day (owe_try r forum f day).1 (bind_Effects r forum f day):=by
  unfold owe_Claims owe_Claims_sk
  dsimp +instances only [Sk.val_bind,Sk.val_loop,Sk.val_bnd,Sk.val_br,Sk.val_r,Sk.val_wi,Sk.val_fin,Sk.val_rf,Ctr.c_v,kk,owe_try_k,bind_Effects_k,owe_view_links_k,owe_view_liable_k,owe_court_state_k,amount_Owed_k,owe_court_owners_c1_it,Cal.andl_v]
  cases (owe_try r forum f day).2 with
  | false=>rfl
  | true =>
    simp only [Bool.not_true,cond_false]
    refine Eq.trans (congrArg (fun q=>pickS q fun b=>b) (iter_app (owe_try r forum f day).1.view.lead (fun part=>(owe_court_owners_c1 (owe_try r forum f day).1 (owe_view_links (owe_try r forum f day).1.view part)).flatMap fun o=>(owe_view_liable (owe_try r forum f day).1.view part o.sign (owe_view_links (owe_try r forum f day).1.view part)).flatMap fun sign=>claimOf r forum f day (owe_try r forum f day).1 (bind_Effects r forum f day) (owe_view_links (owe_try r forum f day).1.view part) part o sign) (fun s i=>(i,s)) (fun s=>Sum.inr s) (fun s i hi=>?_) (fun s=>?_) (by simp) [])) ?_
    · dsimp only
      rw [decide_eq_true (by omega),cond_true]
      rw [runY_app (fun o=>(owe_view_liable (owe_try r forum f day).1.view ((owe_try r forum f day).1.view.lead.getD i default) o.sign (owe_view_links (owe_try r forum f day).1.view ((owe_try r forum f day).1.view.lead.getD i default))).flatMap fun sign=>claimOf r forum f day (owe_try r forum f day).1 (bind_Effects r forum f day) (owe_view_links (owe_try r forum f day).1.view ((owe_try r forum f day).1.view.lead.getD i default)) ((owe_try r forum f day).1.view.lead.getD i default) o sign) _ s (fun s y _=>?_)]
      · rfl
      · refine Eq.trans (congrArg (fun q=>pickS (pickS q _) _) (iter_app (owe_view_liable (owe_try r forum f day).1.view ((owe_try r forum f day).1.view.lead.getD i default) y.sign (owe_view_links (owe_try r forum f day).1.view ((owe_try r forum f day).1.view.lead.getD i default))) (fun sign=>claimOf r forum f day (owe_try r forum f day).1 (bind_Effects r forum f day) (owe_view_links (owe_try r forum f day).1.view ((owe_try r forum f day).1.view.lead.getD i default)) ((owe_try r forum f day).1.view.lead.getD i default) y sign) (fun s i=>(i,s)) (fun s=>Sum.inr (((owe_view_liable (owe_try r forum f day).1.view ((owe_try r forum f day).1.view.lead.getD i default) y.sign (owe_view_links (owe_try r forum f day).1.view ((owe_try r forum f day).1.view.lead.getD i default))).length:Int),s)) (fun s k hk=>?_) (fun s=>?_) (by simp) s)) ?_
        · dsimp only
          rw [decide_eq_true (by omega),cond_true]
          unfold claimOf
          cases (owe_court_state (owe_try r forum f day).1 y ((owe_view_liable (owe_try r forum f day).1.view ((owe_try r forum f day).1.view.lead.getD i default) y.sign (owe_view_links (owe_try r forum f day).1.view ((owe_try r forum f day).1.view.lead.getD i default))).getD k default) (owe_view_links (owe_try r forum f day).1.view ((owe_try r forum f day).1.view.lead.getD i default)) (bind_Effects r forum f day)).1 == 0||((owe_try r forum f day).1.view.now.signs.getD ((owe_view_liable (owe_try r forum f day).1.view ((owe_try r forum f day).1.view.lead.getD i default) y.sign (owe_view_links (owe_try r forum f day).1.view ((owe_try r forum f day).1.view.lead.getD i default))).getD k default).toNat default).who == y.firm with
          | true=>simp only [cond_true,List.append_nil]
          | false=>simp only [cond_false]
        · dsimp only
          rw [decide_eq_false (by omega),cond_false]
        · rfl
    · dsimp only
      rw [decide_eq_false (by omega),cond_false]
    · rw [List.nil_append]
      rfl
theorem flatMap_len {α β:Type} {g:α→List β} {m:Nat}:∀ (l:List α),(∀ x,x∈l→(g x).length≤m)→(l.flatMap g).length≤l.length * m
  | [],_=>by simp
  | x :: r,h=>by
    have h1:=flatMap_len r (fun y hy=>h y (by simp [hy]))
    have h2:=h x (by simp)
    rw [List.flatMap_cons,List.length_append,List.length_cons,Nat.succ_mul]
    omega
theorem claims_len {r:Realm} {forum:Int} {f:File} {day:Int} (hF:RightF r f):(owe_Claims r forum f day).length≤67240:=by
  rw [Claims_eq]
  cases ht:(owe_try r forum f day).2 with
  | false=>simp
  | true =>
    rw [Bool.not_true,cond_false]
    have he:=(owe_try_post r forum f day ht).1
    have hv:(owe_try r forum f day).1.view=owe_open f day:=by rw [he]
    have ho:=owe_open_post f day
    have h40:=hF.2.1.1
    have hk:∀ part,(owe_view_links (owe_open f day) part).length≤40:=fun part=>by
      have h:=(owe_view_links_post (owe_open f day) part).1
      rw [ho.1] at h
      omega
    unfold claimsOf
    rw [hv]
    refine Nat.le_trans (flatMap_len (m:=1640) _ fun part _=>Nat.le_trans (flatMap_len (m:=40) _ fun o _=>Nat.le_trans (flatMap_len (m:=1) _ fun s _=>?_) ?_) ?_) ?_
    · unfold claimOf
      cases (owe_court_state (owe_try r forum f day).1 o s (owe_view_links (owe_open f day) part) (bind_Effects r forum f day)).1 == 0||((owe_try r forum f day).1.view.now.signs.getD s.toNat default).who == o.firm <;> simp
    · have h:=(owe_view_liable_post (owe_open f day) part o.sign (owe_view_links (owe_open f day) part)).1
      have h2:=signs_At_leR f day
      rw [ho.2.1] at h
      omega
    · have h:=owners_len (owe_try r forum f day).1 (owe_view_links (owe_open f day) part)
      have h2:=hk part
      omega
    · have h:=ho.2.2.2.2
      omega
/-- how many links lie from one signature to another -/
noncomputable def cntL (links:List Int) (lo hi:Int):Nat:=(links.filter fun l=>decide (l≤hi)&&decide (l≥lo)).length
noncomputable def allL (links:List Int) (hi:Int):Nat:=(links.filter fun l=>decide (l≤hi)).length
theorem cntL_take (links:List Int) (lo hi:Int) {i:Nat} (h:i < links.length):cntL (links.take (i+1)) lo hi=cntL (links.take i) lo hi+(bif decide (links.getD i default≤hi)&&decide (links.getD i default≥lo) then 1 else 0):=by
  unfold cntL
  rw [List.take_succ_eq_append_getElem h,List.filter_append,List.length_append,show links.getD i default=links[i] by simp [List.getD,h]]
  congr 1
  cases hc:decide (links[i]≤hi)&&decide (links[i]≥lo) with
  | true=>rw [List.filter_cons_of_pos (by simpa using hc)]; rfl
  | false=>rw [List.filter_cons_of_neg (by simpa using hc)]; rfl
theorem allL_take (links:List Int) (hi:Int) {i:Nat} (h:i < links.length):allL (links.take (i+1)) hi=allL (links.take i) hi+(bif decide (links.getD i default≤hi) then 1 else 0):=by
  unfold allL
  rw [List.take_succ_eq_append_getElem h,List.filter_append,List.length_append,show links.getD i default=links[i] by simp [List.getD,h]]
  congr 1
  cases hc:decide (links[i]≤hi) with
  | true=>rw [List.filter_cons_of_pos (by simpa using hc)]; rfl
  | false=>rw [List.filter_cons_of_neg (by simpa using hc)]; rfl
theorem cntL_le (links:List Int) (lo hi:Int):cntL links lo hi≤links.length:=List.length_filter_le ..
theorem allL_le (links:List Int) (hi:Int):allL links hi≤links.length:=List.length_filter_le ..
noncomputable def payableC (c:Court):Bool:=(c.due != (-1))&&decide (c.view.day≥c.due)
theorem state_eq (c:Court) (o:Owner) (sign:Int) (links:List Int) (eff:List Effect) (hl:links.length≤1000000):owe_court_state c o sign links eff =
    bif (c.view.now.signs.getD (owe_view_base c.view sign).toNat default).kind == 1 then (bif !(payableC c) then (0,0) else (owe_both o.state (eff.getD sign.toNat default).binds,0)) else
    bif ((!(payableC c))&&(!(slices_ContainsFunc_92 c.view.now.acts)))||(!((eff.getD (owe_view_base c.view sign).toNat default).recourse)) then (0,0) else
    (owe_both (owe_both o.state (eff.getD sign.toNat default).binds) (diligence_Kept c.r c.forum c.view.all (owe_view_base c.view sign) c.view.day).all,
      bif !(slices_Contains links (owe_view_base c.view sign)) then (1+(allL links o.sign:Int)) else (cntL links (owe_view_base c.view sign) o.sign:Int)):=by
  unfold owe_court_state owe_court_state_sk
  dsimp +instances only [Sk.val_bind,Sk.val_loop,Sk.val_bnd,Sk.val_br,Sk.val_r,Sk.val_wi,Sk.val_fin,Ctr.c_v,kk,Cal.andl_v,Cal.wh_v,Cal.dep_v,owe_view_base_k,owe_both_k,slices_ContainsFunc_92_k,slices_Contains_k,diligence_Kept_k]
  have hloop:∀ d:(Int × Int) ⊕ (Int × Int),iter (fun i5:Int × Int × Nat=>bif decide (((i5.2.2:Nat):Int) < ((links.length:Nat):Int)) then
      (pickS (bif decide ((links.getD i5.2.2 default)≤o.sign) then (Sum.inr (w64 (i5.2.1+1)):(((Int × Int) ⊕ (Int × Int)) ⊕ (Int × Int × Nat)) ⊕ Int) else Sum.inr i5.2.1) fun b6=>bif (decide ((links.getD i5.2.2 default)≤o.sign))&&(decide ((links.getD i5.2.2 default)≥owe_view_base c.view sign)) then Sum.inr (w64 (i5.1+1),b6,i5.2.2+1) else Sum.inr (i5.1,b6,i5.2.2+1))
      else Sum.inl (Sum.inr (i5.1,i5.2.1))) d (links.length - 0+1) (0,1,0)=Sum.inr ((cntL links (owe_view_base c.view sign) o.sign:Int),1+(allL links o.sign:Int)):=by
    intro d
    refine (iter_to links.length (fun n=>((cntL (links.take n) (owe_view_base c.view sign) o.sign:Int),1+(allL (links.take n) o.sign:Int))) (fun s i=>(s.1,s.2,i)) (fun s=>Sum.inr s) (fun i hi=>?_) ?_ (m:=links.length - 0+1) (by omega)).trans ?_
    · dsimp only
      rw [decide_eq_true (by omega),cond_true,cntL_take links _ _ hi,allL_take links _ hi]
      have h1:=cntL_le (links.take i) (owe_view_base c.view sign) o.sign
      have h2:=allL_le (links.take i) o.sign
      have h3:(links.take i).length≤links.length:=by rw [List.length_take]; exact Nat.min_le_right _ _
      rw [w64_id (n:=(cntL (links.take i) (owe_view_base c.view sign) o.sign:Int)+1) (by omega) (by omega),w64_id (n:=1+(allL (links.take i) o.sign:Int)+1) (by omega) (by omega)]
      cases decide (links.getD i default≤o.sign) with
      | false=>simp [pickS]
      | true =>
        cases decide (links.getD i default≥owe_view_base c.view sign) with
        | false=>simp [pickS]; omega
        | true=>simp [pickS]; omega
    · dsimp only
      rw [decide_eq_false (by omega),cond_false]
    · rw [List.take_length]
  cases (c.view.now.signs.getD (owe_view_base c.view sign).toNat default).kind == 1 with
  | true=>rfl
  | false =>
    simp only [cond_false]
    show (bif ((!(payableC c))&&(!(slices_ContainsFunc_92 c.view.now.acts)))||(!((eff.getD (owe_view_base c.view sign).toNat default).recourse)) then (0,0) else _)=_
    cases ((!(payableC c))&&(!(slices_ContainsFunc_92 c.view.now.acts)))||(!((eff.getD (owe_view_base c.view sign).toNat default).recourse)) with
    | true=>rfl
    | false =>
      simp only [cond_false]
      refine (congrArg (fun q=>pickS q _) (hloop _)).trans ?_
      show pickS (bif !(slices_Contains links (owe_view_base c.view sign)) then Sum.inr (1+(allL links o.sign:Int)) else Sum.inr (cntL links (owe_view_base c.view sign) o.sign:Int)) _=_
      cases slices_Contains links (owe_view_base c.view sign) <;> rfl
theorem both_rng (a b:Int):owe_both a b=0∨owe_both a b=1∨owe_both a b=2:=by
  have e:owe_both a b=bif (a == 0)||(b == 0) then 0 else bif (a == 2)||(b == 2) then 2 else 1:=by kernel_rfl
  rw [e]
  cases (a == 0)||(b == 0) <;> cases (a == 2)||(b == 2) <;> simp
theorem state_rng (c:Court) (o:Owner) (sign:Int) (links:List Int) (eff:List Effect) (hl:links.length≤1000000):(owe_court_state c o sign links eff).1=0∨(owe_court_state c o sign links eff).1=1∨(owe_court_state c o sign links eff).1=2:=by
  rw [state_eq c o sign links eff hl]
  cases (c.view.now.signs.getD (owe_view_base c.view sign).toNat default).kind == 1 with
  | true =>
    cases payableC c with
    | false=>exact .inl rfl
    | true=>exact both_rng _ _
  | false =>
    rw [cond_false]
    cases ((!(payableC c))&&(!(slices_ContainsFunc_92 c.view.now.acts)))||(!((eff.getD (owe_view_base c.view sign).toNat default).recourse)) with
    | true=>exact .inl rfl
    | false=>exact both_rng _ _
theorem try_eq {r:Realm} {forum:Int} {f:File} {day:Int} (h:(owe_try r forum f day).2=true):(owe_try r forum f day).1=⟨owe_open f day,r,forum,ask_Maturity r forum f day⟩:=(owe_try_post r forum f day h).1
theorem open_all (f:File) (day:Int):(owe_open f day).all=f:=by rw [open_eq]
theorem open_now (f:File) (day:Int):(owe_open f day).now=record_At f day:=by rw [open_eq]
theorem open_day (f:File) (day:Int):(owe_open f day).day=day:=by rw [open_eq]
/-- where a claim comes from -/
structure From (r:Realm) (forum:Int) (f:File) (day:Int) (c:Claim) (part:Int) (o:Owner) (sign:Int):Prop where
  lead:part∈(owe_open f day).lead
  own:o∈owe_court_owners_c1 (owe_try r forum f day).1 (owe_view_links (owe_open f day) part)
  li:sign∈owe_view_liable (owe_open f day) part o.sign (owe_view_links (owe_open f day) part)
  st:(owe_court_state (owe_try r forum f day).1 o sign (owe_view_links (owe_open f day) part) (bind_Effects r forum f day)).1≠0
  ne:((record_At f day).signs.getD sign.toNat default).who≠o.firm
  eq:c = { debtor:=((record_At f day).signs.getD sign.toNat default).who,creditor:=o.firm,part:=part,sign:=sign,by_:=o.sign,turn:=(owe_court_state (owe_try r forum f day).1 o sign (owe_view_links (owe_open f day) part) (bind_Effects r forum f day)).2,sum:=(amount_Owed r forum f sign day).rest,currency:=f.bill.currency,state:=(owe_court_state (owe_try r forum f day).1 o sign (owe_view_links (owe_open f day) part) (bind_Effects r forum f day)).1 }
theorem claims_from {r:Realm} {forum:Int} {f:File} {day:Int} {c:Claim} (h:c∈owe_Claims r forum f day):((owe_try r forum f day).1=⟨owe_open f day,r,forum,ask_Maturity r forum f day⟩)∧∃ part o sign,From r forum f day c part o sign:=by
  rw [Claims_eq] at h
  cases ht:(owe_try r forum f day).2 with
  | false=>rw [ht] at h; cases h
  | true =>
    rw [ht,Bool.not_true,cond_false] at h
    have he:=try_eq ht
    refine ⟨he,?_⟩
    unfold claimsOf at h
    have hv:(owe_try r forum f day).1.view=owe_open f day:=by rw [he]
    rw [hv] at h
    obtain ⟨part,hp,h⟩:=List.mem_flatMap.1 h
    obtain ⟨o,ho,h⟩:=List.mem_flatMap.1 h
    obtain ⟨sign,hs,h⟩:=List.mem_flatMap.1 h
    unfold claimOf at h
    rw [hv,open_now] at h
    cases hc:(owe_court_state (owe_try r forum f day).1 o sign (owe_view_links (owe_open f day) part) (bind_Effects r forum f day)).1 == 0||((record_At f day).signs.getD sign.toNat default).who == o.firm with
    | true=>rw [hc] at h; cases h
    | false =>
      rw [hc,cond_false,List.mem_singleton] at h
      simp only [Bool.or_eq_false_iff,beq_eq_false_iff_ne,ne_eq] at hc
      exact ⟨part,o,sign,hp,ho,hs,hc.1,hc.2,h⟩
theorem links_len {f:File} {day part:Int}:(owe_view_links (owe_open f day) part).length≤f.signs.length:=by
  have:=(owe_view_links_post (owe_open f day) part).1
  rwa [open_all] at this
theorem claim_facts {r:Realm} {forum:Int} {f:File} {day:Int} {c:Claim} (hF:RightF r f) (hR:r.RateOK) (h:c∈owe_Claims r forum f day) :
    (0≤c.sign∧c.sign < f.signs.length)∧(-1≤c.by_∧c.by_ < f.signs.length)∧c.debtor=(f.signs.getD c.sign.toNat default).who∧c.creditor=(if 0≤c.by_ then (f.signs.getD c.by_.toNat default).to_ else f.bill.payee) ∧
      c.debtor≠c.creditor∧(c.state=1∨c.state=2)∧SumP c.sum∧c.currency=f.bill.currency:=by
  obtain ⟨he,part,o,sign,k⟩:=claims_from h
  have hlen:=signs_At_leR f day
  have hl:=liable_mem k.li
  have hm:=liTo_mem hl.2
  rw [open_now] at hm
  have hll:(owe_view_links (owe_open f day) part).length≤1000000:=by have:=links_len (f:=f) (day:=day) (part:=part); have:=hF.2.1.1; omega
  have hs:=state_rng (owe_try r forum f day).1 o sign (owe_view_links (owe_open f day) part) (bind_Effects r forum f day) hll
  have hst:=k.st
  have ho:=(owners_mem k.own).1
  have hvn:(owe_try r forum f day).1.view.now=record_At f day:=by rw [he]; exact open_now f day
  rw [hvn,bill_AtR] at ho
  have hby:(o.sign = -1∧o.firm=f.bill.payee)∨(0≤o.sign∧o.sign < f.signs.length∧o.firm=(f.signs.getD o.sign.toNat default).to_):=by
    rcases ho with ho | ⟨h1,h2⟩
    · exact .inl ho
    · have hk:=links_mem h1
      rw [open_all,open_day] at hk
      have hin:=hF.at_in hk.1 hk.2.1 hk.2.2.2.2.1
      rw [sign_AtR f day _ (by omega)] at h2
      exact .inr ⟨hk.1,hk.2.1,h2⟩
  have hown:amount_Owed r forum f sign day=amount_Owed r forum f sign day:=rfl
  have hsum:=amount_Owed_post r forum f sign day ⟨hF,hR⟩
  obtain rfl:=k.eq
  refine ⟨⟨hm.1,by have:=hm.2.1; show sign < _; omega⟩,?_,?_,?_,k.ne,?_,hsum,rfl⟩
  · show -1≤o.sign∧o.sign < _
    rcases hby with hby | hby <;> omega
  · show ((record_At f day).signs.getD sign.toNat default).who=_
    rw [sign_AtR f day _ (by omega)]
  · show o.firm=if 0≤o.sign then (f.signs.getD o.sign.toNat default).to_ else f.bill.payee
    rcases hby with hby | hby
    · rw [if_neg (by omega)]; exact hby.2
    · rw [if_pos hby.1]; exact hby.2.2
  · show (owe_court_state _ _ _ _ _).1=1∨_
    rcases hs with hs | hs | hs
    · exact absurd hs hst
    · exact .inl hs
    · exact .inr hs
/-- an act that is a payment -/
def PayAct (g:File) (a:ActX):Prop:=a.kind=6∧0≤a.at_∧a.at_ < (g.signs.length:Int)
def Strange (g:File) (st:Bool) (to_:Int):Prop:=st=true↔∀ q,q < g.signs.length→(g.signs.getD q default).who≠to_
/-- the claims after the first k acts -/
inductive Paid (g:File) (l0:List Claim):Nat→List Claim→Prop
  | zero:Paid g l0 0 l0
  | skip {k:Nat} {l:List Claim}:Paid g l0 k l→k < g.acts.length→¬ PayAct g (g.acts.getD k default)→Paid g l0 (k+1) l
  | pay {k:Nat} {l out:List Claim} {st:Bool}:Paid g l0 k l→k < g.acts.length→PayAct g (g.acts.getD k default)→Strange g st (g.acts.getD k default).to_→Applied l (g.acts.getD k default) st out→Paid g l0 (k+1) out
theorem Paid.len {g:File} {l0 l:List Claim} {k:Nat} (h:Paid g l0 k l):l0.length≤l.length:=by
  induction h with
  | zero=>exact Nat.le_refl _
  | skip _ _ _ ih=>exact ih
  | pay _ _ _ _ ha ih=>exact Nat.le_trans ih ha.len
theorem Paid.like {g:File} {l0 l:List Claim} {k:Nat} (h:Paid g l0 k l):∀ i,i < l0.length→Like (l.getD i default) (l0.getD i default):=by
  induction h with
  | zero=>exact fun i _=>Like.rfl' _
  | skip _ _ _ ih=>exact ih
  | pay h _ _ _ ha ih=>exact fun i hi=>(ha.old i (Nat.lt_of_lt_of_le hi h.len)).1.trans (ih i hi)
theorem dps_like {x y:Claim} (h:Like x y):dps x=dps y:=by simp only [dps,h.1.1,h.1.2.2.1,h.1.2.2.2.1]
theorem Paid.dps {g:File} {l0 l:List Claim} {k:Nat} (h:Paid g l0 k l):∀ x∈l,dps x∈l0.map dps:=by
  induction h with
  | zero=>exact fun x hx=>List.mem_map.2 ⟨x,hx,rfl⟩
  | skip _ _ _ ih=>exact ih
  | @pay k l out st h _ _ _ ha ih =>
    intro x hx
    obtain ⟨i,hi,rfl⟩:=List.getElem_of_mem hx
    have e:out[i]=out.getD i default:=by simp [List.getD,hi]
    rw [e]
    by_cases h1:i < l.length
    · rw [dps_like (ha.old i h1).1]
      exact ih _ (getD_mem h1)
    · obtain ⟨-,-,-,x,hx,e1,e2,e3,-⟩:=ha.new i (by omega) hi
      have:=ih x hx
      rwa [show Go.Proofs.YtbcnlpcaajpclaaGreatDoor.dps (out.getD i default)=Go.Proofs.YtbcnlpcaajpclaaGreatDoor.dps x by simp only [Go.Proofs.YtbcnlpcaajpclaaGreatDoor.dps,e1,e2,e3]]
theorem Paid.count {g:File} {l0 l:List Claim} {k:Nat} (h:Paid g l0 k l):l.length≤l0.length+k * l0.length∧k≤g.acts.length:=by
  induction h with
  | zero=>simp
  | skip _ _ _ ih=>exact ⟨by rw [Nat.succ_mul]; omega,by omega⟩
  | pay h _ _ _ ha ih =>
    have:=ha.few _ h.dps
    rw [List.length_map] at this
    exact ⟨by rw [Nat.succ_mul]; omega,by omega⟩
theorem Paid.new {g:File} {l0 l:List Claim} {k:Nat} (h:Paid g l0 k l):∀ i,l0.length≤i→i < l.length→∃ q,q < k∧PayAct g (g.acts.getD q default)∧(l.getD i default).creditor=(g.acts.getD q default).who∧(l.getD i default).by_=(g.acts.getD q default).at_∧(l.getD i default).debtor≠(l.getD i default).creditor:=by
  induction h with
  | zero=>exact fun i h1 h2=>absurd h2 (by omega)
  | skip _ _ _ ih =>
    intro i h1 h2
    obtain ⟨q,hq,h⟩:=ih i h1 h2
    exact ⟨q,by omega,h⟩
  | pay h _ hp _ ha ih =>
    rename_i k l out st _ _
    intro i h1 h2
    by_cases h3:i < l.length
    · obtain ⟨q,hq,e0,e1,e2,e3⟩:=ih i h1 h3
      have hl:=(ha.old i h3).1
      exact ⟨q,by omega,e0,hl.1.2.1.trans e1,hl.1.2.2.2.2.trans e2,by rw [hl.1.1,hl.1.2.1]; exact e3⟩
    · obtain ⟨e1,e2,e3,-⟩:=ha.new i (by omega) h2
      exact ⟨k,by omega,hp,e1,e2,by rw [e1]; exact e3⟩
theorem Paid.sums {g:File} {l0 l:List Claim} {k:Nat} (h:Paid g l0 k l) (h0:∀ x∈l0,SumP x.sum):∀ x∈l,SumP x.sum:=by
  induction h with
  | zero=>exact h0
  | skip _ _ _ ih=>exact ih
  | pay _ _ _ _ ha ih=>exact ha.sums ih
/-- what was paid to a creditor by the first k acts -/
noncomputable def paidTo (g:File) (cr:Int):Nat→Int
  | 0=>0
  | k+1=>paidTo g cr k+(bif (g.acts.getD k default).kind == 6&&((g.acts.getD k default).to_ == cr||cr == -1&&!(g.signs.any fun s=>s.who == (g.acts.getD k default).to_)) then (g.acts.getD k default).sum else 0)
/-- payments are right -/
def PaysOK (g:File):Prop:=∀ q,q < g.acts.length→(g.acts.getD q default).kind=6→PayAct g (g.acts.getD q default)∧SumP (g.acts.getD q default).sum
theorem strange_any {g:File} {st:Bool} {to_:Int} (h:Strange g st to_):st = !(g.signs.any fun s=>s.who == to_):=by
  have:st=true↔(!(g.signs.any fun s=>s.who == to_))=true:=by
    rw [show (st=true)=_ from propext h,Bool.not_eq_true',List.any_eq_false]
    constructor
    · intro h x hx
      obtain ⟨i,hi,rfl⟩:=List.getElem_of_mem hx
      have:=h i hi
      rw [show g.signs.getD i default=g.signs[i] by simp [List.getD,hi]] at this
      simpa using this
    · intro h q hq
      have:=h (g.signs.getD q default) (lget_mem hq _)
      simpa using this
  exact Bool.eq_iff_iff.2 this
theorem paidTo_bd {g:File} (hg:PaysOK g) (cr:Int):∀ k,k≤g.acts.length→0≤paidTo g cr k∧paidTo g cr k≤1099511627776 * (k:Int)
  | 0,_=>⟨Int.le_refl _,by simp [paidTo]⟩
  | k+1,hk=>by
    have ih:=paidTo_bd hg cr k (by omega)
    have h1:=hg k (by omega)
    rw [paidTo]
    generalize hb:((g.acts.getD k default).kind == 6&&_)=b
    cases b with
    | false=>simp only [cond_false]; omega
    | true =>
      have h2:=h1 (by simp only [Bool.and_eq_true,beq_iff_eq] at hb; exact hb.1)
      have h3:=h2.2
      unfold SumP at h3
      simp only [cond_true]
      omega
theorem Paid.rest {g:File} {l0 l:List Claim} {k:Nat} (h:Paid g l0 k l) (hg:PaysOK g) (h0:∀ x∈l0,SumP x.sum):∀ i,i < l0.length→(∀ q,q < k→(g.acts.getD q default).kind=6→(g.acts.getD q default).who≠(l0.getD i default).creditor)→(l.getD i default).sum=max 0 ((l0.getD i default).sum - paidTo g (l0.getD i default).creditor k):=by
  induction h with
  | zero =>
    intro i hi _
    have:=h0 _ (getD_mem hi)
    unfold SumP at this
    simp only [paidTo]
    omega
  | skip h hk hn ih =>
    rename_i k l
    intro i hi hw
    rw [ih i hi (fun q hq=>hw q (by omega))]
    have hk6:((g.acts.getD k default).kind == 6)=false:=by
      rw [beq_eq_false_iff_ne]
      exact fun e=>hn (hg k hk e).1
    rw [paidTo,hk6,Bool.false_and,cond_false,Int.add_zero]
  | pay h hk hp hs ha ih =>
    rename_i k l out st
    intro i hi hw
    have hil:i < l.length:=Nat.lt_of_lt_of_le hi h.len
    have hlike:=h.like i hi
    have hcr:(l.getD i default).creditor=(l0.getD i default).creditor:=hlike.1.2.1
    have e1:=(ha.old i hil).2 (by rw [hcr]; exact fun e=>hw k (by omega) hp.1 e.symm)
    have e2:=ih i hi (fun q hq=>hw q (by omega))
    have hsum:=(hg k hk hp.1).2
    have hb:=paidTo_bd hg (l0.getD i default).creditor k (by omega)
    have hl0:=h0 _ (getD_mem hi)
    have hls:=h.sums h0 _ (getD_mem hil)
    rw [e1]
    rw [paidTo]
    unfold redOf
    have hm:pay_meets (g.acts.getD k default) st (l.getD i default)=((g.acts.getD k default).kind == 6&&((g.acts.getD k default).to_ == (l0.getD i default).creditor||(l0.getD i default).creditor == -1&&!(g.signs.any fun s=>s.who == (g.acts.getD k default).to_))):=by
      rw [pay_meets_eq,hcr,strange_any hs,hp.1]
      simp only [beq_self_eq_true,Bool.true_and]
      rw [show ((l0.getD i default).creditor == (g.acts.getD k default).to_)=((g.acts.getD k default).to_ == (l0.getD i default).creditor) from Bool.eq_iff_iff.2 (by simp only [beq_iff_eq]; exact eq_comm)]
    rw [← hm]
    unfold SumP at *
    cases pay_meets (g.acts.getD k default) st (l.getD i default) with
    | false=>simp only [cond_false]; rw [e2]; omega
    | true =>
      simp only [cond_true]
      have h1:lessOf (g.acts.getD k default) (l.getD i default)=min (g.acts.getD k default).sum (l.getD i default).sum:=by unfold lessOf minI maxI; (repeat' split) <;> omega
      have h2:maxI 0 (l.getD i default).sum=(l.getD i default).sum:=by unfold maxI; split <;> omega
      rw [h1,h2,w64_id (by omega) (by omega)]
      omega
theorem acts_AtR (f:File) (d:Int) {q:Nat} (hq:q < (record_At f d).acts.length):(record_At f d).acts.getD q default=f.acts.getD q default∧q < f.acts.length∧(f.acts.getD q default).day≤d:=by
  rw [record_At_eq] at hq ⊢
  have:=takeWhile_getD _ _ _ hq
  exact ⟨this.1,this.2.1,by simpa using this.2.2⟩
theorem strange_of {g:File} {x:Bool} {t:Int} {p:Sign→Bool} (hp:∀ s,p s=true↔s.who=t) (h:x=true↔∃ q,q < g.signs.length∧p (g.signs.getD q default)=true):Strange g (!x) t:=by
  constructor
  · intro hx q hq e
    have:=h.2 ⟨q,hq,(hp _).2 e⟩
    rw [this] at hx
    cases hx
  · intro hq
    cases hx:x with
    | false=>rfl
    | true =>
      obtain ⟨q,h1,h2⟩:=h.1 hx
      exact absurd ((hp _).1 h2) (hq q h1)
theorem not_pay {g:File} {a:ActX} (h:((a.kind != 6)||decide (a.at_ < 0)||decide (a.at_≥((g.signs.length:Nat):Int)))=true):¬ PayAct g a:=by
  rintro ⟨h1,h2,h3⟩
  simp only [Bool.or_eq_true,bne_iff_ne,decide_eq_true_eq] at h
  rcases h with (h | h) | h
  · exact h h1
  · omega
  · omega
theorem is_pay {g:File} {a:ActX} (h:((a.kind != 6)||decide (a.at_ < 0)||decide (a.at_≥((g.signs.length:Nat):Int)))=false):PayAct g a:=by
  simp only [Bool.or_eq_false_iff,bne_eq_false_iff_eq,decide_eq_false_iff_not] at h
  exact ⟨h.1.1,by omega,by omega⟩
noncomputable def pay_run_sk (r:Realm) (forum:Int) (f:File) (day:Int):Sk ((List Claim) × Unit) :=
 .r 1 ((record_At_k f day).c) fun x1 =>
 .r 2 ((owe_Claims_ko 29 r forum f day).c) fun x2 =>
 .r 3 (.o [.nrmm (mkM dI)]) fun _ =>
 .cl 30 ([]:List (Int × Int)) <|
 .bind true (fun b3=>Paid x1 x2 x1.acts.length b3)
 (.loop (default:Sum ((List Claim) × Unit) ((List Claim))) (fun i4=>i4.2≤x1.acts.length∧Paid x1 x2 i4.2 i4.1) (fun i4=>x1.acts.length - i4.2) ((x2,0):(List Claim) × Nat)
 (fun (i4:(List Claim) × Nat)=>⟨[(11,ow 100006 i4.1),(34,iv ((i4.2:Nat):Int))],[(100006,rowB 48 9 Claim.cells i4.1)]⟩) fun i4 =>
 .bnd 32 0 x1.acts.length <|
 .br (decide (((i4.2:Nat):Int) < ((x1.acts.length:Nat):Int)))
 (.bind true (fun b5=>Paid x1 x2 (i4.2+1) b5)
 (.r 6 (.p (ixP ((i4.2:Nat):Int) x1.acts.length)) fun _ =>
 .br (((((x1.acts.getD i4.2 default).kind) != 6)||(decide (((x1.acts.getD i4.2 default).at_) < 0)))||(decide (((x1.acts.getD i4.2 default).at_)≥((x1.signs.length:Nat):Int))))
 (.fin (.inr i4.1))
 (.r 8 ((slices_ContainsFunc_101_k x1.signs (x1.acts.getD i4.2 default)).c) fun x6 =>
 .fz 100006 <|
 .r 9 (.andl (.p (ixP ((x1.acts.getD i4.2 default).at_) x1.signs.length)) ((pay_Apply_ko 70 i4.1 (x1.acts.getD i4.2 default) ((x1.signs.getD (((x1.acts.getD i4.2 default).at_).toNat) default).kind) (!x6)).c)) fun x7 =>
 .r 10 (.o [.nrmm (mkM dB)]) fun _ =>
 .bind true (fun _=>True)
 (.loop (default:Sum (Sum (Sum (Sum ((List Claim) × Unit) ((List Claim))) ((List Claim) × Nat)) ((List Claim))) (Int × (List (Int × Bool)))) (fun i9=>i9.1≤x7.2.length) (fun i9=>x7.2.length - i9.1) ((0,([]:List (Int × Bool))):Nat × (List (Int × Bool)))
 (fun (i9:Nat × (List (Int × Bool)))=>⟨[(76,iv ((i9.1:Nat):Int))],[(73,mpM dB i9.2)]⟩) fun i9 =>
 .bnd 17 0 x7.2.length <|
 .br (decide (((i9.1:Nat):Int) < ((x7.2.length:Nat):Int)))
 (.r 13 (.p (ixP ((i9.1:Nat):Int) x7.2.length)) fun _ =>
 .r 14 (.andl (.t (keysM dB i9.2)) (.o [.nrmm (updM dB i9.2 ((x7.2.getD i9.1 default).creditor) true)])) fun _ =>
 .r 15 .z fun _ =>
 .wi 76 (w64 (((i9.1:Nat):Int)+1)) ((i9.1+1:Nat):Int) <|
 .fin (.inr (i9.1+1,mupd i9.2 ((x7.2.getD i9.1 default).creditor) true)))
 (.fin (.inl (.inr (((i9.1:Nat):Int),i9.2)))))
 (fun (b8:Int × (List (Int × Bool)))=>⟨[(76,iv b8.1)],[(73,mpM dB b8.2)]⟩) fun b8 =>
 .bind true (fun _=>True)
 (.mr b8.2.length (fun _=>True) (():Unit)
 (fun g11 s13=>⟨[],[(85,.it 73 b8.2.length s13)]⟩)
 (fun g15=>⟨[],[]⟩)
 (fun g11 i12 =>
 .brt <|
 .r 18 (.p (i12 < b8.2.length)) fun _ =>
 .op 30 fun m14 =>
 .r 19 (.andl (.andl (.t (keysM dI m14)) (.o [.cast 94 (getM dI m14 ((b8.2.getD i12 default).1) (0:Int))])) (.andl (.t (keysM dI m14)) (.o [.nrmm (updM dI m14 ((b8.2.getD i12 default).1) (minI 1099511627776 (w64 ((mget m14 ((b8.2.getD i12 default).1) (0:Int))+((x1.acts.getD i4.2 default).sum)))))]))) fun _ =>
 .cl 30 (mupd m14 ((b8.2.getD i12 default).1) (minI 1099511627776 (w64 ((mget m14 ((b8.2.getD i12 default).1) (0:Int))+((x1.acts.getD i4.2 default).sum))))) <|
 .fin ()) fun g15 =>
 .brf <|
 .fin (.inr ()))
 (fun (_:Unit)=>⟨[(85,.any)],[]⟩) fun _ =>
 .fin (.inr x7.1)))
 (fun (b5:(List Claim))=>⟨[(11,ow 100008 b5)],[(100008,rowB 48 9 Claim.cells b5)]⟩) fun b5 =>
 .r 21 .z fun _ =>
 .wi 34 (w64 (((i4.2:Nat):Int)+1)) ((i4.2+1:Nat):Int) <|
 .fin (.inr (b5,i4.2+1)))
 (.fin (.inl (.inr i4.1))))
 (fun (b3:(List Claim))=>⟨[(11,ow 100004 b3)],[(100004,rowB 48 9 Claim.cells b3)]⟩) fun b3 =>
 .fin (b3,())
noncomputable def pay_run (r:Realm) (forum:Int) (f:File) (day:Int):(List Claim) × Unit:=(pay_run_sk r forum f day).val
theorem pay_run_pst (r:Realm) (forum:Int) (f:File) (day:Int):(pay_run_sk r forum f day).pst (fun (x:(List Claim) × Unit)=>Paid (record_At f day) (owe_Claims r forum f day) (record_At f day).acts.length x.1):=by
  refine Sk.pst_of _ ?_
  unfold pay_run_sk
  simp only [Sk.pstq,Sk.isLoop,reduceCtorEq,ON,kk,owe_Claims_ko,pay_Apply_ko,record_At_k,slices_ContainsFunc_101_k,maxLen]
  intro x hx _ x1 hx1 _
  refine ⟨⟨⟨Nat.zero_le _,.zero⟩,fun i hi=>⟨fun hc=>⟨fun _=>⟨fun hs=>?_,fun hs x4 _ h4 x5 _ h5 _=>⟨⟨Nat.zero_le _,fun j hj hc2 _ _ _=>?_⟩,fun b b1 _=>?_⟩⟩,fun b _ hb _=>?_⟩,fun hc=>?_⟩⟩,fun b hb=>?_⟩
  all_goals try simp only [LN] at hc
  · exact hi.2.skip (by omega) (not_pay hs)
  · simp only [LN] at hc2
    omega
  · exact hi.2.pay (by omega) (is_pay hs) (strange_of (p:=fun s=>pay_run_c1 s (x.acts.getD i.2 default)) (fun s=>by show pay_run_c1 s _=true↔_; rw [pay_run_c1_eq,beq_iff_eq]) h4) h5
  · exact ⟨⟨by omega,hb⟩,by omega⟩
  · have e:i.2=x.acts.length:=by omega
    rw [← e]
    exact hi.2
  · subst hx hx1
    exact hb

theorem pay_run_post (r:Realm) (forum:Int) (f:File) (day:Int):(fun (x:(List Claim) × Unit)=>Paid (record_At f day) (owe_Claims r forum f day) (record_At f day).acts.length x.1) (pay_run r forum f day):=have h:=Sk.pval _ (pay_run_pst r forum f day); h
theorem pay_run_ok (r:Realm) (forum:Int) (f:File) (day:Int) (hF:RightF r f) (h_f_Small:f.Small) (h_r_ByOK:r.ByOK) (h_r_Small:r.Small) (h_r_FirmOK:r.FirmOK) (h_r_RateOK:r.RateOK):(pay_run_sk r forum f day).obs (fun _=>True):=by
  refine Sk.obs_of _ ?_
  unfold pay_run_sk
  simp only [Sk.obq,Sk.isLoop,reduceCtorEq,ON,kk,Sk.pst,owe_Claims_ko,pay_Apply_ko,record_At_k,slices_ContainsFunc_101_k,maxLen]
  refine ⟨h_f_Small,fun x hx hl=>⟨⟨hF,h_f_Small,h_r_ByOK,h_r_Small,h_r_FirmOK,h_r_RateOK⟩,fun x1 hx1 _=>⟨⟨Nat.zero_le _,.zero⟩,fun i hi hmx=>⟨fun hc=>⟨⟨?_,fun _=>⟨fun hs=>?_,fun hs x4 _ h4=>⟨⟨?_,?_⟩,fun x5 _ h5 _=>⟨⟨Nat.zero_le _,fun j hj hm2 hc2=>?_⟩,fun b=>⟨fun _ _ h=>h,fun b1 _=>?_⟩⟩⟩⟩⟩,fun b _ hb _=>?_⟩,fun hc=>?_⟩⟩⟩⟩
  all_goals try simp only [LN] at hc
  · exact ⟨by omega,by omega⟩
  · exact hi.2.skip (by omega) (not_pay hs)
  · exact (is_pay hs).2
  · have h1:=hi.2.count.1
    have h2:x1.length≤67240:=by rw [hx1]; exact claims_len hF
    have h3:=hF.2.1.2.2.2.1
    have h4:=Nat.mul_le_mul (show i.2≤100 by omega) h2
    omega
  · simp only [LN] at hc2
    exact ⟨⟨by omega,by omega⟩,fun _ _ _=>⟨(w64_id (by omega) (by omega)).trans (by omega),by omega,by omega⟩⟩
  · exact hi.2.pay (by omega) (is_pay hs) (strange_of (p:=fun s=>pay_run_c1 s (x.acts.getD i.2 default)) (fun s=>by show pay_run_c1 s _=true↔_; rw [pay_run_c1_eq,beq_iff_eq]) h4) h5
  · exact ⟨(w64_id (by omega) (by omega)).trans (by omega),⟨by omega,hb⟩,by omega⟩
  · have e:i.2=x.acts.length:=by omega
    rw [← e]
    exact hi.2

theorem pay_run_fnO (r:Realm) (forum:Int) (f:File) (day:Int) (hF:RightF r f) (h_f_Small:f.Small) (h_r_ByOK:r.ByOK) (h_r_Small:r.Small) (h_r_FirmOK:r.FirmOK) (h_r_RateOK:r.RateOK):FnA Tryz.prog 42 [av r.cells,iv forum,av f.cells,iv day] [] (.tup [ow 777777 (pay_run r forum f day).1,.any]) [(777777,rowB 48 9 Claim.cells (pay_run r forum f day).1)] :=
  FnA.sk tok mixed (fun x=>.tup [ow 777777 x.1,.any]) (fun x=>[(777777,rowB 48 9 Claim.cells x.1)]) Tryz.func42 rfl (by kernel_rfl) 3000 (pay_run_sk r forum f day) (by kernel_rfl) (pay_run_ok r forum f day hF h_f_Small h_r_ByOK h_r_Small h_r_FirmOK h_r_RateOK)
noncomputable def pay_run_ko (κ:Nat) (r:Realm) (forum:Int) (f:File) (day:Int):CtrO ((List Claim) × Unit):=⟨Tryz.prog,42,[av r.cells,iv forum,av f.cells,iv day],fun x=>.tup [ow κ x.1,.any],fun x=>[(κ,rowB 48 9 Claim.cells x.1)],pay_run r forum f day,(RightF r f)∧(f.Small)∧(r.ByOK)∧(r.Small)∧(r.FirmOK)∧(r.RateOK),fun h=>FnA.rekeyT κ rfl (pay_run_fnO r forum f day h.1 h.2.1 h.2.2.1 h.2.2.2.1 h.2.2.2.2.1 h.2.2.2.2.2),fun (x:(List Claim) × Unit)=>Paid (record_At f day) (owe_Claims r forum f day) (record_At f day).acts.length x.1,pay_run_post r forum f day⟩
noncomputable def pay_Claims_sk (r:Realm) (forum:Int) (f:File) (day:Int):Sk ((List Claim)) :=
 .r 1 ((pay_run_ko 16 r forum f day).c) fun x1 =>
 .fin x1.1
noncomputable def pay_Claims (r:Realm) (forum:Int) (f:File) (day:Int):(List Claim):=(pay_Claims_sk r forum f day).val
theorem pay_Claims_pst (r:Realm) (forum:Int) (f:File) (day:Int):(pay_Claims_sk r forum f day).pst (fun (x:(List Claim))=>Paid (record_At f day) (owe_Claims r forum f day) (record_At f day).acts.length x):=by
  unfold pay_Claims_sk
  try simp only [pay_run_ko]
  exact okP

theorem pay_Claims_post (r:Realm) (forum:Int) (f:File) (day:Int):(fun (x:(List Claim))=>Paid (record_At f day) (owe_Claims r forum f day) (record_At f day).acts.length x) (pay_Claims r forum f day):=have h:=Sk.pval _ (pay_Claims_pst r forum f day); h
theorem pay_Claims_ok (r:Realm) (forum:Int) (f:File) (day:Int) (hF:RightF r f) (h_f_Small:f.Small) (h_r_ByOK:r.ByOK) (h_r_Small:r.Small) (h_r_FirmOK:r.FirmOK) (h_r_RateOK:r.RateOK):(pay_Claims_sk r forum f day).obs (fun _=>True):=by
  unfold pay_Claims_sk
  try simp only [pay_run_ko]
  exact okD

theorem pay_Claims_fnO (r:Realm) (forum:Int) (f:File) (day:Int) (hF:RightF r f) (h_f_Small:f.Small) (h_r_ByOK:r.ByOK) (h_r_Small:r.Small) (h_r_FirmOK:r.FirmOK) (h_r_RateOK:r.RateOK):FnA Tryz.prog 11 [av r.cells,iv forum,av f.cells,iv day] [] (ow 777777 (pay_Claims r forum f day)) [(777777,rowB 48 9 Claim.cells (pay_Claims r forum f day))] :=
  FnA.sk tok mixed (fun x=>ow 777777 x) (fun x=>[(777777,rowB 48 9 Claim.cells x)]) Tryz.func11 rfl (by kernel_rfl) 3000 (pay_Claims_sk r forum f day) (by kernel_rfl) (pay_Claims_ok r forum f day hF h_f_Small h_r_ByOK h_r_Small h_r_FirmOK h_r_RateOK)
noncomputable def pay_Claims_ko (κ:Nat) (r:Realm) (forum:Int) (f:File) (day:Int):CtrO ((List Claim)):=⟨Tryz.prog,11,[av r.cells,iv forum,av f.cells,iv day],fun x=>ow κ x,fun x=>[(κ,rowB 48 9 Claim.cells x)],pay_Claims r forum f day,(RightF r f)∧(f.Small)∧(r.ByOK)∧(r.Small)∧(r.FirmOK)∧(r.RateOK),fun h=>FnA.rekey κ (pay_Claims_fnO r forum f day h.1 h.2.1 h.2.2.1 h.2.2.2.1 h.2.2.2.2.1 h.2.2.2.2.2),fun (x:(List Claim))=>Paid (record_At f day) (owe_Claims r forum f day) (record_At f day).acts.length x,pay_Claims_post r forum f day⟩
noncomputable def diligence_Dishonour_sk (r:Realm) (forum:Int) (f:File) (day:Int):Sk (Int) :=
 .r 1 (.dep ((diligence_look_k r forum f 0 day).c) fun x1=>(diligence_view_dishonour_k x1).c) fun p3 =>
 .fin p3.2
noncomputable def diligence_Dishonour (r:Realm) (forum:Int) (f:File) (day:Int):Int:=(diligence_Dishonour_sk r forum f day).val
theorem diligence_Dishonour_ok (r:Realm) (forum:Int) (f:File) (day:Int) (h_f_Small:f.Small) (h_r_ByOK:r.ByOK) (h_r_Small:r.Small):(diligence_Dishonour_sk r forum f day).obs (fun _=>True):=by
  simp only [File.Small,Realm.Small,Realm.ByOK] at h_f_Small
  simp only [File.Small,Realm.Small,Realm.ByOK] at h_r_ByOK
  simp only [File.Small,Realm.Small,Realm.ByOK] at h_r_Small
  unfold diligence_Dishonour_sk
  try simp only [diligence_look_k,diligence_view_dishonour_k,File.Small,Realm.Small,Realm.ByOK]
  exact okD

noncomputable def diligence_Dishonour_k (r:Realm) (forum:Int) (f:File) (day:Int):Ctr (Int):=kk tok mixed Tryz.func229 [av r.cells,iv forum,av f.cells,iv day] (fun x=>iv x) true (diligence_Dishonour_sk r forum f day) (diligence_Dishonour r forum f day) (fun (h:(f.Small)∧(r.ByOK)∧(r.Small))=>diligence_Dishonour_ok r forum f day h.1 h.2.1 h.2.2)
noncomputable def limit_start_sk (r:Realm) (forum:Int) (f:File) (c_:Claim) (day:Int):Sk (Int × Int) :=
 .br (c_.turn == 0)
 (.r 2 ((ask_Maturity_k r forum f day).c) fun x1 =>
 .fin (13,x1))
 (.bind true (fun _=>True)
 (.loop (default:Sum (Int × Int) (Unit)) (fun i3=>i3≤f.acts.length) (fun i3=>f.acts.length - i3) (0:Nat)
 (fun (i3:Nat)=>⟨[(25,iv ((i3:Nat):Int))],[]⟩) fun i3 =>
 .bnd 23 0 f.acts.length <|
 .br (decide (((i3:Nat):Int) < ((f.acts.length:Nat):Int)))
 (.r 5 (.p (ixP ((i3:Nat):Int) f.acts.length)) fun _ =>
 .br (((((f.acts.getD i3 default).kind) == 6)&&(((f.acts.getD i3 default).who) == c_.creditor))&&(((f.acts.getD i3 default).at_) == c_.by_))
 (.fin (.inl (.inl (15,(f.acts.getD i3 default).day))))
 (.r 8 .z fun _ =>
 .wi 25 (w64 (((i3:Nat):Int)+1)) ((i3+1:Nat):Int) <|
 .fin (.inr (i3+1))))
 (.fin (.inl (.inr ()))))
 (fun (_:Unit)=>⟨[],[]⟩) fun _ =>
 .r 9 ((diligence_Dishonour_k r forum f day).c) fun x4 =>
 .fin (14,x4))
noncomputable def limit_start (r:Realm) (forum:Int) (f:File) (c_:Claim) (day:Int):Int × Int:=(limit_start_sk r forum f c_ day).val
theorem limit_start_ok (r:Realm) (forum:Int) (f:File) (c_:Claim) (day:Int) (h_f_Small:f.Small) (h_r_ByOK:r.ByOK) (h_r_Small:r.Small):(limit_start_sk r forum f c_ day).obs (fun _=>True):=by
  simp only [File.Small,Realm.Small,Realm.ByOK] at h_f_Small
  simp only [File.Small,Realm.Small,Realm.ByOK] at h_r_ByOK
  simp only [File.Small,Realm.Small,Realm.ByOK] at h_r_Small
  unfold limit_start_sk
  try simp only [ask_Maturity_k,diligence_Dishonour_k,File.Small,Realm.Small,Realm.ByOK]
  exact okD

noncomputable def limit_start_k (r:Realm) (forum:Int) (f:File) (c_:Claim) (day:Int):Ctr (Int × Int):=kk tok mixed Tryz.func181 [av r.cells,iv forum,av f.cells,av c_.cells,iv day] (fun x=>.tup [iv x.1,iv x.2]) true (limit_start_sk r forum f c_ day) (limit_start r forum f c_ day) (fun (h:(f.Small)∧(r.ByOK)∧(r.Small))=>limit_start_ok r forum f c_ day h.1 h.2.1 h.2.2)
noncomputable def limit_interrupts_sk (a:ActX) (c_:Claim):Sk (Bool) :=
 .br (a.at_ != c_.sign)
 (.fin false)
 (.fin ((a.kind == 9)||((a.kind == 8)&&((c_.creditor == (-1))||(a.who == c_.creditor)))))
noncomputable def limit_interrupts (a:ActX) (c_:Claim):Bool:=(limit_interrupts_sk a c_).val
theorem limit_interrupts_ok (a:ActX) (c_:Claim):(limit_interrupts_sk a c_).obs (fun _=>True):=by
  unfold limit_interrupts_sk
  exact okE

noncomputable def limit_interrupts_k (a:ActX) (c_:Claim):Ctr (Bool):=kk tok mixed Tryz.func182 [av a.cells,av c_.cells] (fun x=>bv x) true (limit_interrupts_sk a c_) (limit_interrupts a c_) (fun (_:True)=>limit_interrupts_ok a c_)
noncomputable def limit_End_sk (r:Realm) (forum:Int) (f:File) (c_:Claim) (day:Int):Sk (Int × Int) :=
 .r 1 ((record_At_k f day).c) fun x1 =>
 .br ((decide (c_.sign < 0))||(decide (c_.sign≥((x1.signs.length:Nat):Int))))
 (.fin (0,1))
 (.r 4 ((limit_start_k r forum x1 c_ day).c) fun x2 =>
 .r 5 ((ask_Maturity_k r forum x1 day).c) fun x3 =>
 .r 6 ((ask_Ask_k r forum x2.1 ({ file:=x1,sign:=c_.sign,holder:=c_.sign,defence:=(-1),due:=x3,day:=day }:CaseX)).c) fun x4 =>
 .br ((x4.err != 0)||(x2.2 == (-1)))
 (.fin (0,4))
 (.br (!x4.cell.known)
 (.fin (0,17))
 (.bind true (fun _=>True)
 (.loop (default:Sum (Int × Int) (Int)) (fun i6=>i6.2≤x1.acts.length) (fun i6=>x1.acts.length - i6.2) ((w64 (x2.2+x4.cell.n),0):Int × Nat)
 (fun (i6:Int × Nat)=>⟨[(16,iv i6.1),(80,iv ((i6.2:Nat):Int))],[]⟩) fun i6 =>
 .bnd 78 0 x1.acts.length <|
 .br (decide (((i6.2:Nat):Int) < ((x1.acts.length:Nat):Int)))
 (.r 14 (.p (ixP ((i6.2:Nat):Int) x1.acts.length)) fun _ =>
 .r 15 ((limit_interrupts_k (x1.acts.getD i6.2 default) c_).c) fun x7 =>
 .br ((x7&&(decide (((x1.acts.getD i6.2 default).day)≥x2.2)))&&(decide (((x1.acts.getD i6.2 default).day)≤i6.1)))
 (.r 17 .z fun _ =>
 .wi 80 (w64 (((i6.2:Nat):Int)+1)) ((i6.2+1:Nat):Int) <|
 .fin (.inr (w64 (((x1.acts.getD i6.2 default).day)+x4.cell.n),i6.2+1)))
 (.r 17 .z fun _ =>
 .wi 80 (w64 (((i6.2:Nat):Int)+1)) ((i6.2+1:Nat):Int) <|
 .fin (.inr (i6.1,i6.2+1))))
 (.fin (.inl (.inr i6.1))))
 (fun (b5:Int)=>⟨[(16,iv b5)],[]⟩) fun b5 =>
 .fin (b5,0))))
noncomputable def limit_End (r:Realm) (forum:Int) (f:File) (c_:Claim) (day:Int):Int × Int:=(limit_End_sk r forum f c_ day).val
theorem limit_End_ok (r:Realm) (forum:Int) (f:File) (c_:Claim) (day:Int) (h_f_Small:f.Small) (h_r_ByOK:r.ByOK) (h_r_Small:r.Small):(limit_End_sk r forum f c_ day).obs (fun _=>True):=by
  simp only [File.Small,Realm.Small,Realm.ByOK] at h_f_Small
  simp only [File.Small,Realm.Small,Realm.ByOK] at h_r_ByOK
  simp only [File.Small,Realm.Small,Realm.ByOK] at h_r_Small
  unfold limit_End_sk
  try simp only [ask_Ask_k,ask_Maturity_k,limit_interrupts_k,limit_start_k,record_At_k,File.Small,Realm.Small,Realm.ByOK]
  exact okD

noncomputable def limit_End_k (r:Realm) (forum:Int) (f:File) (c_:Claim) (day:Int):Ctr (Int × Int):=kk tok mixed Tryz.func108 [av r.cells,iv forum,av f.cells,av c_.cells,iv day] (fun x=>.tup [iv x.1,iv x.2]) true (limit_End_sk r forum f c_ day) (limit_End r forum f c_ day) (fun (h:(f.Small)∧(r.ByOK)∧(r.Small))=>limit_End_ok r forum f c_ day h.1 h.2.1 h.2.2)
theorem of_eq (r:Realm) (c:CaseX):ask_of r c=({ c with file:=record_At c.file c.day },record_Vars r { c with file:=record_At c.file c.day }):=rfl
noncomputable def limit_Lapsed_sk (r:Realm) (forum:Int) (f:File) (c_:Claim) (day:Int):Sk (Int) :=
 .r 1 ((limit_End_k r forum f c_ day).c) fun x1 =>
 .br (x1.2 == 17)
 (.fin 2)
 (.br ((x1.2 == 0)&&(decide (day > x1.1)))
 (.fin 1)
 (.fin 0))
noncomputable def limit_Lapsed (r:Realm) (forum:Int) (f:File) (c_:Claim) (day:Int):Int:=(limit_Lapsed_sk r forum f c_ day).val
theorem limit_Lapsed_ok (r:Realm) (forum:Int) (f:File) (c_:Claim) (day:Int) (h_f_Small:f.Small) (h_r_ByOK:r.ByOK) (h_r_Small:r.Small):(limit_Lapsed_sk r forum f c_ day).obs (fun _=>True):=by
  simp only [File.Small,Realm.Small,Realm.ByOK] at h_f_Small
  simp only [File.Small,Realm.Small,Realm.ByOK] at h_r_ByOK
  simp only [File.Small,Realm.Small,Realm.ByOK] at h_r_Small
  unfold limit_Lapsed_sk
  try simp only [limit_End_k,File.Small,Realm.Small,Realm.ByOK]
  exact okD

noncomputable def limit_Lapsed_k (r:Realm) (forum:Int) (f:File) (c_:Claim) (day:Int):Ctr (Int):=kk tok mixed Tryz.func53 [av r.cells,iv forum,av f.cells,av c_.cells,iv day] (fun x=>iv x) true (limit_Lapsed_sk r forum f c_ day) (limit_Lapsed r forum f c_ day) (fun (h:(f.Small)∧(r.ByOK)∧(r.Small))=>limit_Lapsed_ok r forum f c_ day h.1 h.2.1 h.2.2)
noncomputable def limit_Claims_c1_sk (c_:Claim) (v:Realm) (v':Int) (v'':File) (v''':Int):Sk (Bool) :=
 .r 1 ((limit_Lapsed_k v v' v'' c_ v''').c) fun x1 =>
 .fin (x1 == 1)
noncomputable def limit_Claims_c1 (c_:Claim) (v:Realm) (v':Int) (v'':File) (v''':Int):Bool:=(limit_Claims_c1_sk c_ v v' v'' v''').val
theorem limit_Claims_c1_ok (c_:Claim) (v:Realm) (v':Int) (v'':File) (v''':Int) (hs'':v''.Small) (h_v_ByOK:v.ByOK) (h_v_Small:v.Small):(limit_Claims_c1_sk c_ v v' v'' v''').obs (fun _=>True):=by
  simp only [File.Small,Realm.Small,Realm.ByOK] at hs''
  simp only [File.Small,Realm.Small,Realm.ByOK] at h_v_ByOK
  simp only [File.Small,Realm.Small,Realm.ByOK] at h_v_Small
  unfold limit_Claims_c1_sk
  try simp only [limit_Lapsed_k,File.Small,Realm.Small,Realm.ByOK]
  exact okD

noncomputable def limit_Claims_c1_k (c_:Claim) (v:Realm) (v':Int) (v'':File) (v''':Int):Ctr (Bool):=kk tok mixed Tryz.func52 [av c_.cells,.ref v.cells,.ref [dI v'],.ref v''.cells,.ref [dI v''']] (fun x=>bv x) true (limit_Claims_c1_sk c_ v v' v'' v''') (limit_Claims_c1 c_ v v' v'' v''') (fun (h:(v''.Small)∧(v.ByOK)∧(v.Small))=>limit_Claims_c1_ok c_ v v' v'' v''' h.1 h.2.1 h.2.2)
noncomputable def slices_IndexFunc_52_sk (s:List Claim) (v:Realm) (v':Int) (v'':File) (v''':Int):Sk (Int) :=
 .bind true (fun b1=>∀ q,q < s.length→limit_Claims_c1 (s.getD q default) v v' v'' v'''=false)
 (.loop (default:Sum (Int) (Unit)) (fun i2=>∀ q,q < i2→limit_Claims_c1 (s.getD q default) v v' v'' v'''=false) (fun i2=>s.length - i2) (0:Nat)
 (fun (i2:Nat)=>⟨[(8,iv ((i2:Nat):Int))],[]⟩) fun i2 =>
 .bnd 0 0 s.length <|
 .br (decide (((i2:Nat):Int) < ((s.length:Nat):Int)))
 (.r 4 (.andl (.p (ixP ((i2:Nat):Int) s.length)) ((limit_Claims_c1_k (s.getD i2 default) v v' v'' v''').c)) fun x3 =>
 .br x3
 (.fin (.inl (.inl ((i2:Nat):Int))))
 (.r 6 .z fun _ =>
 .wi 8 (w64 (((i2:Nat):Int)+1)) ((i2+1:Nat):Int) <|
 .fin (.inr (i2+1))))
 (.fin (.inl (.inr ()))))
 (fun (_:Unit)=>⟨[],[]⟩) fun _ =>
 .fin (-1)
noncomputable def slices_IndexFunc_52 (s:List Claim) (v:Realm) (v':Int) (v'':File) (v''':Int):Int:=(slices_IndexFunc_52_sk s v v' v'' v''').val
theorem slices_IndexFunc_52_pst (s:List Claim) (v:Realm) (v':Int) (v'':File) (v''':Int):(slices_IndexFunc_52_sk s v v' v'' v''').pst (fun (x:Int)=>(x = -1∧∀ q,q < s.length→limit_Claims_c1 (s.getD q default) v v' v'' v'''=false)∨(0≤x∧x < s.length∧limit_Claims_c1 (s.getD x.toNat default) v v' v'' v'''=true∧∀ q,(q:Nat) < x.toNat→limit_Claims_c1 (s.getD q default) v v' v'' v'''=false)):=by
  unfold slices_IndexFunc_52_sk
  try simp only [limit_Claims_c1_k,File.Small,Realm.Small,Realm.ByOK]
  exact okP

theorem slices_IndexFunc_52_post (s:List Claim) (v:Realm) (v':Int) (v'':File) (v''':Int):(fun (x:Int)=>(x = -1∧∀ q,q < s.length→limit_Claims_c1 (s.getD q default) v v' v'' v'''=false)∨(0≤x∧x < s.length∧limit_Claims_c1 (s.getD x.toNat default) v v' v'' v'''=true∧∀ q,(q:Nat) < x.toNat→limit_Claims_c1 (s.getD q default) v v' v'' v'''=false)) (slices_IndexFunc_52 s v v' v'' v'''):=have h:=Sk.pval _ (slices_IndexFunc_52_pst s v v' v'' v'''); h
theorem slices_IndexFunc_52_ok (s:List Claim) (v:Realm) (v':Int) (v'':File) (v''':Int) (h_v___Small:v''.Small) (h_v_ByOK:v.ByOK) (h_v_Small:v.Small):(slices_IndexFunc_52_sk s v v' v'' v''').obs (fun _=>True):=by
  simp only [File.Small,Realm.Small,Realm.ByOK] at h_v___Small
  simp only [File.Small,Realm.Small,Realm.ByOK] at h_v_ByOK
  simp only [File.Small,Realm.Small,Realm.ByOK] at h_v_Small
  unfold slices_IndexFunc_52_sk
  try simp only [limit_Claims_c1_k,File.Small,Realm.Small,Realm.ByOK]
  exact okD

noncomputable def slices_IndexFunc_52_k (s:List Claim) (v:Realm) (v':Int) (v'':File) (v''':Int):Ctr (Int):=kk tok mixed Tryz.func107 [lv Claim.cells s,.fn 52 [.ref v.cells,.ref [dI v'],.ref v''.cells,.ref [dI v''']]] (fun x=>iv x) true (slices_IndexFunc_52_sk s v v' v'' v''') (slices_IndexFunc_52 s v v' v'' v''') (fun (h:(v''.Small)∧(v.ByOK)∧(v.Small))=>slices_IndexFunc_52_ok s v v' v'' v''' h.1 h.2.1 h.2.2) (fun (x:Int)=>(x = -1∧∀ q,q < s.length→limit_Claims_c1 (s.getD q default) v v' v'' v'''=false)∨(0≤x∧x < s.length∧limit_Claims_c1 (s.getD x.toNat default) v v' v'' v'''=true∧∀ q,(q:Nat) < x.toNat→limit_Claims_c1 (s.getD q default) v v' v'' v'''=false)) (slices_IndexFunc_52_post s v v' v'' v''')
/-- deleting: what holds before the j-th element is looked at -/
structure DelI {α:Type} [Inhabited α] (del:α→Bool) (s l:List α) (i j:Int):Prop where
  len:l.length=s.length
  i0:0≤i
  ij:i < j
  jn:j≤(s.length:Int)
  kept:l.take i.toNat=(s.take j.toNat).filter fun c=>!del c
  rest:∀ q:Nat,j≤(q:Int)→q < s.length→l.getD q default=s.getD q default
theorem take_succ_getD {α:Type} [Inhabited α] {l:List α} {n:Nat} (h:n < l.length):l.take (n+1)=l.take n++[l.getD n default]:=by
  rw [List.take_add_one]
  simp [List.getD,h]
theorem filter_all {α:Type} [Inhabited α] {p:α→Bool} {l:List α} {n:Nat} (hn:n≤l.length) (h:∀ q,q < n→p (l.getD q default)=true):(l.take n).filter p=l.take n:=by
  refine List.filter_eq_self.2 (fun x hx=>?_)
  obtain ⟨q,hq,rfl⟩:=List.getElem_of_mem hx
  have hq':q < n:=by simp at hq; omega
  have:=h q hq'
  rw [show l.getD q default=(l.take n)[q] by simp [List.getD,List.getElem?_eq_getElem (show q < l.length by omega)]] at this
  exact this
theorem DelI.init {α:Type} [Inhabited α] {del:α→Bool} {s:List α} {x:Int} (h0:0≤x) (h1:x < (s.length:Int)) (hd:del (s.getD x.toNat default)=true) (hk:∀ q,q < x.toNat→del (s.getD q default)=false):DelI del s s x (x+1):=by
  refine ⟨rfl,h0,by omega,by omega,?_,fun _ _ _=>rfl⟩
  rw [show (x+1).toNat=x.toNat+1 by omega,take_succ_getD (by omega),List.filter_append,filter_all (by omega) (fun q hq=>by rw [hk q hq]; rfl)]
  simp only [List.filter_cons,hd,Bool.not_true,Bool.false_eq_true,if_false,List.filter_nil,List.append_nil]
theorem DelI.keep {α:Type} [Inhabited α] {del:α→Bool} {s l:List α} {i j:Int} (h:DelI del s l i j) (hj:j < (l.length:Int)) (hd:del (l.getD j.toNat default)=false):DelI del s (l.set i.toNat (l.getD j.toNat default)) (i+1) (j+1):=by
  have hl:=h.len
  have h0:=h.i0
  have h1:=h.ij
  have hr:=h.rest j.toNat (by omega) (by omega)
  refine ⟨by simpa using hl,by omega,by omega,by omega,?_,fun q hq hq2=>?_⟩
  · rw [show (i+1).toNat=i.toNat+1 by omega,show (j+1).toNat=j.toNat+1 by omega,take_succ_getD (by simp; omega),take_succ_getD (l:=s) (by omega),List.filter_append,← h.kept,List.take_set_of_le (Nat.le_refl _)]
    congr 1
    rw [hr] at hd ⊢
    simp only [List.filter_cons,hd,Bool.not_false,if_true,List.filter_nil]
    simp [List.getD,show i.toNat < l.length by omega]
  · rw [← h.rest q (by omega) hq2]
    simp only [List.getD]
    rw [List.getElem?_set_ne (by omega)]
theorem DelI.drop {α:Type} [Inhabited α] {del:α→Bool} {s l:List α} {i j:Int} (h:DelI del s l i j) (hj:j < (l.length:Int)) (hd:del (l.getD j.toNat default)=true):DelI del s l i (j+1):=by
  have hl:=h.len
  have h0:=h.i0
  have h1:=h.ij
  have hr:=h.rest j.toNat (by omega) (by omega)
  refine ⟨hl,by omega,by omega,by omega,?_,fun q hq hq2=>h.rest q (by omega) hq2⟩
  rw [show (j+1).toNat=j.toNat+1 by omega,take_succ_getD (l:=s) (by omega),List.filter_append,← h.kept]
  rw [hr] at hd
  simp only [List.filter_cons,hd,Bool.not_true,Bool.false_eq_true,if_false,List.filter_nil,List.append_nil]
/-- what is left behind the loop -/
def DelE {α:Type} (del:α→Bool) (s l:List α) (i:Int):Prop:=l.length=s.length∧0≤i∧i≤(s.length:Int)∧l.take i.toNat=s.filter fun c=>!del c
theorem DelI.done {α:Type} [Inhabited α] {del:α→Bool} {s l:List α} {i j:Int} (h:DelI del s l i j) (hj:¬ j < (l.length:Int)):DelE del s l i:=by
  have hl:=h.len
  have h1:=h.ij
  have h2:=h.jn
  refine ⟨hl,h.i0,by omega,?_⟩
  rw [h.kept,List.take_of_length_le (by omega)]
theorem subL_take {α:Type} [Inhabited α] {l:List α} {n:Nat} (h:n≤l.length):subL l 0 n=l.take n:=by
  refine List.ext_getElem (by simp [subL,h]) (fun q h1 h2=>?_)
  have hq:q < l.length:=by simp at h2; omega
  simp [subL,List.getD,hq]
theorem DelE.res {α:Type} [Inhabited α] {del:α→Bool} {s l:List α} {i:Int} {z:α} (h:DelE del s l i):subL (clrL l i.toNat z) 0 i.toNat=s.filter fun c=>!del c:=by
  have h2:=h.1
  have h3:=h.2.2.1
  rw [← h.2.2.2,subL_take (by rw [clrL_length]; omega)]
  simp only [clrL]
  rw [List.take_append_of_le_length (by simp; omega),List.take_take,Nat.min_self]
theorem filter_none {α:Type} [Inhabited α] {del:α→Bool} {s:List α} (h:∀ q,q < s.length→del (s.getD q default)=false):s=s.filter fun c=>!del c:=by
  have:=filter_all (p:=fun c=>!del c) (l:=s) (n:=s.length) (Nat.le_refl _) (fun q hq=>by rw [h q hq]; rfl)
  rw [List.take_length] at this
  exact this.symm
noncomputable def slices_DeleteFunc_52_sk (s:List Claim) (v:Realm) (v':Int) (v'':File) (v''':Int):Sk ((List Claim)) :=
 .r 1 ((slices_IndexFunc_52_k s v v' v'' v''').c) fun x1 =>
 .br (x1 == (-1))
 (.fin s)
 (.bind true (fun b2=>DelE (fun c_=>limit_Claims_c1 c_ v v' v'' v''') s b2.1 b2.2)
 (.loop (default:Sum ((List Claim)) ((List Claim) × Int)) (fun i3=>DelI (fun c_=>limit_Claims_c1 c_ v v' v'' v''') s i3.1 i3.2.1 i3.2.2) (fun i3=>((s.length:Int) - i3.2.2).toNat) ((s,x1,w64 (x1+1)):(List Claim) × Int × Int)
 (fun (i3:(List Claim) × Int × Int)=>⟨[(0,ow 100002 i3.1),(5,iv i3.2.1),(6,iv i3.2.2)],[(100002,rowB 48 9 Claim.cells i3.1)]⟩) fun i3 =>
 .br (decide (i3.2.2 < ((i3.1.length:Nat):Int)))
 (.r 7 (.andl (.p (ixP i3.2.2 i3.1.length)) (.p (i3.2.2.toNat < i3.1.length))) fun _ =>
 .r 8 ((limit_Claims_c1_k (i3.1.getD i3.2.2.toNat default) v v' v'' v''').c) fun x4 =>
 .br (!x4)
 (.r 9 (.andl (.p (ixP i3.2.1 i3.1.length)) (.andl (.o [.nrm (setC Claim.E i3.1 i3.2.1.toNat (i3.1.getD i3.2.2.toNat default))]) (.p (i3.2.1.toNat < i3.1.length)))) fun _ =>
 .wn 100002 i3.1.length (i3.1.set i3.2.1.toNat (i3.1.getD i3.2.2.toNat default)).length <|
 .fin (.inr (i3.1.set i3.2.1.toNat (i3.1.getD i3.2.2.toNat default),w64 (i3.2.1+1),w64 (i3.2.2+1))))
 (.fin (.inr (i3.1,i3.2.1,w64 (i3.2.2+1)))))
 (.fin (.inl (.inr (i3.1,i3.2.1)))))
 (fun (b2:(List Claim) × Int)=>⟨[(0,ow 100001 b2.1),(5,iv b2.2)],[(100001,rowB 48 9 Claim.cells b2.1)]⟩) fun b2 =>
 .clr 11 b2.2 (clrN Claim.E b2.1 b2.2.toNat ({ debtor:=0,creditor:=0,part:=0,sign:=0,by_:=0,turn:=0,sum:=0,currency:=0,state:=0 }:Claim) [dI 0,dI 0,dI 0,dI 0,dI 0,dI 0,dI 0,dI 0,dI 0] (by kernel_rfl)) <|
 .r 12 (.andl (.o [.nrm (cutC Claim.E (clrL b2.1 b2.2.toNat ({ debtor:=0,creditor:=0,part:=0,sign:=0,by_:=0,turn:=0,sum:=0,currency:=0,state:=0 }:Claim)) b2.2.toNat)]) (.p (0≤b2.2∧b2.2≤(((clrL b2.1 b2.2.toNat ({ debtor:=0,creditor:=0,part:=0,sign:=0,by_:=0,turn:=0,sum:=0,currency:=0,state:=0 }:Claim)).length:Nat):Int)))) fun _ =>
 .fin (subL (clrL b2.1 b2.2.toNat ({ debtor:=0,creditor:=0,part:=0,sign:=0,by_:=0,turn:=0,sum:=0,currency:=0,state:=0 }:Claim)) 0 b2.2.toNat))
noncomputable def slices_DeleteFunc_52 (s:List Claim) (v:Realm) (v':Int) (v'':File) (v''':Int):(List Claim):=(slices_DeleteFunc_52_sk s v v' v'' v''').val
theorem slices_DeleteFunc_52_pst (s:List Claim) (v:Realm) (v':Int) (v'':File) (v''':Int) (hP:s.length≤1000000000):(slices_DeleteFunc_52_sk s v v' v'' v''').pst (fun (x:(List Claim))=>x=s.filter fun c_=>!limit_Claims_c1 c_ v v' v'' v'''):=by
  refine Sk.pst_of _ ?_
  unfold slices_DeleteFunc_52_sk
  simp only [Sk.pstq,Sk.isLoop,reduceCtorEq,ON,kk,limit_Claims_c1_k,slices_IndexFunc_52_k,maxLen]
  intro x _ hx
  refine ⟨fun hc=>filter_none (del:=(fun c_=>limit_Claims_c1 c_ v v' v'' v''')) (hx.elim (fun h=>h.2) (fun h=>absurd (beq_iff_eq.1 hc) (by omega))),fun hc=>⟨⟨?_,fun i hi=>⟨fun hj _ y hy=>⟨fun hn _=>?_,fun hn=>?_⟩,fun hj=>?_⟩⟩,fun b hb _=>DelE.res (del:=(fun c_=>limit_Claims_c1 c_ v v' v'' v''')) hb⟩⟩
  all_goals simp only [LN] at hc
  · have hx:=hx.resolve_left (fun e=>hc e.1)
    rw [w64_id (by omega) (by omega)]
    exact DelI.init (del:=(fun c_=>limit_Claims_c1 c_ v v' v'' v''')) hx.1 hx.2.1 hx.2.2.1 hx.2.2.2
  all_goals have hj2:=hi.len
  all_goals have hj3:=hi.i0
  all_goals have hj4:=hi.ij
  all_goals have hj5:=hi.jn
  all_goals simp only [LN] at hj
  · rw [w64_id (n:=i.2.1+1) (by omega) (by omega),w64_id (n:=i.2.2+1) (by omega) (by omega)]
    exact ⟨hi.keep (by omega) (by subst hy; simpa using hn),by omega⟩
  · rw [w64_id (by omega) (by omega)]
    exact ⟨hi.drop (by omega) (by subst hy; simpa using hn),by omega⟩
  · exact hi.done (by omega)

theorem slices_DeleteFunc_52_post (s:List Claim) (v:Realm) (v':Int) (v'':File) (v''':Int):(fun (x:(List Claim))=>(s.length≤1000000000)→(x=s.filter fun c_=>!limit_Claims_c1 c_ v v' v'' v''')) (slices_DeleteFunc_52 s v v' v'' v'''):=fun hP=>Sk.pval _ (slices_DeleteFunc_52_pst s v v' v'' v''' hP)
theorem slices_DeleteFunc_52_ok (s:List Claim) (v:Realm) (v':Int) (v'':File) (v''':Int) (hs:s.length≤1000000000) (h_v___Small:v''.Small) (h_v_ByOK:v.ByOK) (h_v_Small:v.Small):(slices_DeleteFunc_52_sk s v v' v'' v''').obs (fun _=>True):=by
  refine Sk.obs_of _ ?_
  unfold slices_DeleteFunc_52_sk
  simp only [Sk.obq,Sk.isLoop,reduceCtorEq,ON,kk,limit_Claims_c1_k,slices_IndexFunc_52_k,maxLen]
  refine ⟨by (repeat' first | assumption | trivial | apply And.intro),fun x _ hx hc=>⟨⟨?_,fun i hi=>⟨fun hj=>⟨?_,fun _=>⟨by (repeat' first | assumption | trivial | apply And.intro),fun y hy=>⟨fun hn=>⟨?_,fun _=>⟨?_,?_⟩⟩,fun hn=>?_⟩⟩⟩,fun hj=>?_⟩⟩,fun b hb=>?_⟩⟩
  all_goals simp only [LN] at hc
  · have hx:=hx.resolve_left (fun e=>hc e.1)
    rw [w64_id (by omega) (by omega)]
    exact DelI.init (del:=(fun c_=>limit_Claims_c1 c_ v v' v'' v''')) hx.1 hx.2.1 hx.2.2.1 hx.2.2.2
  rotate_right 1
  · have h1:=hb.1
    have h2:=hb.2.1
    have h3:=hb.2.2.1
    refine ⟨⟨h2,?_⟩,h2,by rw [clrL_length]; omega⟩
    show b.2≤((b.1.length:Nat):Int)
    omega
  all_goals have hj2:=hi.len
  all_goals have hj3:=hi.i0
  all_goals have hj4:=hi.ij
  all_goals have hj5:=hi.jn
  all_goals simp only [LN] at hj
  · omega
  · omega
  · rw [List.length_set]
  · rw [w64_id (n:=i.2.1+1) (by omega) (by omega),w64_id (n:=i.2.2+1) (by omega) (by omega)]
    exact ⟨hi.keep (by omega) (by subst hy; simpa using hn),by omega⟩
  · rw [w64_id (by omega) (by omega)]
    exact ⟨hi.drop (by omega) (by subst hy; simpa using hn),by omega⟩
  · exact hi.done (by omega)

theorem slices_DeleteFunc_52_fnH (s:List Claim) (v:Realm) (v':Int) (v'':File) (v''':Int) (hs:s.length≤1000000000) (h_v___Small:v''.Small) (h_v_ByOK:v.ByOK) (h_v_Small:v.Small):FnA Tryz.prog 51 [ow 777776 s,.fn 52 [.ref v.cells,.ref [dI v'],.ref v''.cells,.ref [dI v''']]] [(777776,rowB 48 9 Claim.cells s)] (ow 777777 (slices_DeleteFunc_52 s v v' v'' v''')) [(777777,rowB 48 9 Claim.cells (slices_DeleteFunc_52 s v v' v'' v'''))] :=
  FnA.sk tok mixed (fun x=>ow 777777 x) (fun x=>[(777777,rowB 48 9 Claim.cells x)]) Tryz.func51 rfl (by kernel_rfl) 3000 (slices_DeleteFunc_52_sk s v v' v'' v''') (by kernel_rfl) (slices_DeleteFunc_52_ok s v v' v'' v''' hs h_v___Small h_v_ByOK h_v_Small)
noncomputable def slices_DeleteFunc_52_kh (κ κ':Nat) (s:List Claim) (v:Realm) (v':Int) (v'':File) (v''':Int):CtrH ((List Claim)):=⟨Tryz.prog,51,[ow κ s,.fn 52 [.ref v.cells,.ref [dI v'],.ref v''.cells,.ref [dI v''']]],[(κ,rowB 48 9 Claim.cells s)],fun x=>ow κ' x,fun x=>[(κ',rowB 48 9 Claim.cells x)],slices_DeleteFunc_52 s v v' v'' v''',(s.length≤1000000000)∧(v''.Small)∧(v.ByOK)∧(v.Small),fun h=>FnA.rekeyA κ rfl (FnA.rekeyR κ' (slices_DeleteFunc_52_fnH s v v' v'' v''' h.1 h.2.1 h.2.2.1 h.2.2.2)),fun (x:(List Claim))=>(s.length≤1000000000)→(x=s.filter fun c_=>!limit_Claims_c1 c_ v v' v'' v'''),slices_DeleteFunc_52_post s v v' v'' v'''⟩
end Go.Proofs.YtbcnlpcaajpclaaGreatDoor

