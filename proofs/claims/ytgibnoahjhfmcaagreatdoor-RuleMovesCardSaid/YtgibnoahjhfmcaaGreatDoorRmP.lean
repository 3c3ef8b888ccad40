/- The plain law, no program in sight. -/
import Derived.Test.YtgibnoahjhfmcaaGreatDoorRm13
import Derived.Test.YtgibnoahjhfmcaaGreatDoorLd
set_option linter.unusedSimpArgs false
set_option linter.unusedVariables false
set_option maxRecDepth 100000
set_option maxHeartbeats 1000000
namespace Go.Proofs.YtgibnoahjhfmcaaGreatDoor
open Go Go.Av
def errP (x:Reader) (e:Int):Wrong:=⟨bif decide (x.at_ < ((x.l.length:Nat):Int)) then (x.l.getD x.at_.toNat default).pos else x.end_,e⟩
def advP (x:Reader):Reader:={ x with at_:=w64 (x.at_+1) }
def isP (x:Reader) (s:ByteArray):Bool:=((decide (x.at_ < ((x.l.length:Nat):Int)))&&(((x.l.getD x.at_.toNat default).text).toList == s.toList))&&((((x.l.getD x.at_.toNat default).kind) == 0)||(((x.l.getD x.at_.toNat default).kind) == 3))
theorem isP_eq (x:Reader) (s:ByteArray):rule_reader_is x s=(isP x s,x):=rfl
theorem takeP_eq (x:Reader) (s:ByteArray):rule_reader_take x s=bif isP x s then (true,advP x) else (false,x):=by
 rw [take_eq,isP_eq]
 rfl
theorem failP_eq (x:Reader) (e:Int):rule_reader_fail x e=.error (errP x e):=by
 have h:rule_reader_fail x e=bif decide (x.at_ < ((x.l.length:Nat):Int)) then .error ⟨(x.l.getD x.at_.toNat default).pos,e⟩ else .error ⟨x.end_,e⟩:=rfl
 rw [h]
 unfold errP
 cases decide (x.at_ < ((x.l.length:Nat):Int)) <;> rfl
def bindE {E α β:Type} (v:Except E α) (f:α→Except E β):Except E β:=match v with | .ok a=>f a | .error e=>.error e
theorem needP_eq (x:Reader) (s:ByteArray):rule_reader_need x s=bif isP x s then .ok (advP x) else .error (errP x 9):=by
 have h:rule_reader_need x s=bif !(rule_reader_take x s).1 then okX (rule_reader_fail (rule_reader_take x s).2 9) (fun b=>.ok b) (fun e=>.error e) else .ok (rule_reader_take x s).2:=rfl
 rw [h,takeP_eq,failP_eq]
 cases isP x s <;> simp [okX,failP_eq]
theorem nameP_eq (x:Reader):rule_reader_name x=bif (decide (x.at_≥((x.l.length:Nat):Int)))||(((x.l.getD x.at_.toNat default).kind) != 0) then .error (errP x 9) else .ok ((x.l.getD x.at_.toNat default).text,x):=by
 have h:rule_reader_name x=bif (decide (x.at_≥((x.l.length:Nat):Int)))||(((x.l.getD x.at_.toNat default).kind) != 0) then okX (rule_reader_fail x 9) (fun b=>.ok ((b.l.getD b.at_.toNat default).text,b)) (fun e=>.error e) else .ok ((x.l.getD x.at_.toNat default).text,x):=rfl
 rw [h,failP_eq]
 rfl
theorem oneP_eq (x:Reader) (names:List ByteArray):rule_reader_one x names=bindE (rule_reader_name x) fun a=>bif decide (slices_IndexS names a.1 < 0) then .error (errP a.2 10) else .ok (slices_IndexS names a.1,a.2):=by
 have h:rule_reader_one x names=okX (rule_reader_name x) (fun a=>bif decide (slices_IndexS names a.1 < 0) then okX (rule_reader_fail a.2 10) (fun b=>.ok (slices_IndexS names a.1,b)) (fun e=>.error e) else .ok (slices_IndexS names a.1,a.2)) (fun e=>.error e):=rfl
 rw [h]
 unfold bindE okX
 cases rule_reader_name x with
 | error e=>rfl
 | ok a=>simp only [failP_eq]
noncomputable def termP (rv:Reader→Except Wrong (Term × Reader)) (x:Reader):Except Wrong (Term × Reader) :=
 bif isP x (⟨#[110,111,116]⟩:ByteArray) then bindE (rv (advP x)) fun a=>.ok ({ op:=3,n:=0,args:=[a.1] },a.2)
 else bif isP x (⟨#[105,102]⟩:ByteArray) then bindE (rv (advP x)) fun a=>bindE (rule_reader_need a.2 (⟨#[116,104,101,110]⟩:ByteArray)) fun y=>bindE (rv y) fun b=>bindE (rule_reader_need b.2 (⟨#[101,108,115,101]⟩:ByteArray)) fun z=>bindE (rv z) fun c=>.ok ({ op:=6,n:=0,args:=[a.1,b.1,c.1] },c.2)
 else bindE (rv x) fun a=>match rule_operators.find? fun o=>isP a.2 o.2 with
  | some o=>bindE (rv (advP a.2)) fun b=>.ok ({ op:=o.1,n:=0,args:=[a.1,b.1] },b.2)
  | none=>.ok (a.1,a.2)
theorem find_eq {α β γ:Type} [Inhabited β] (p:β→Bool) (F:Nat→α) (g:γ) (K:α) (G:β→α):∀ (l:List β) (k:Nat) (l0:List β),l=l0.drop k→(∀ i,i < l0.length→F i=G (l0.getD i default)) →
  ((List.range' k l.length).findSome? fun i=>exitOf (cond (p (l0.getD i default)) (.inl (F i)) (.inr g:α ⊕ γ))).getD K=match l.find? p with | some o=>G o | none=>K
 | [],k,l0,_,_=>rfl
 | b :: r,k,l0,h,hF=>by
  have hk:k < l0.length:=by
   rcases Nat.lt_or_ge k l0.length with h1 | h1
   ·exact h1
   ·rw [List.drop_of_length_le h1] at h; cases h
  have hb:l0.getD k default=b:=by
   rw [List.drop_eq_getElem_cons hk] at h
   injection h with h1 h2
   simp [List.getD,hk,h1]
  have hr:r=l0.drop (k+1):=by
   rw [List.drop_eq_getElem_cons hk] at h
   injection h
  rw [List.length_cons,List.range'_succ,List.findSome?_cons,List.find?_cons,hb]
  cases hp:p b
  ·simp only [cond_false,exitOf]
   exact find_eq p F g K G r (k+1) l0 hr hF
  ·simp only [cond_true,exitOf,Option.getD_some]
   rw [hF k hk,hb]
theorem takeF {x:Reader} {s:ByteArray} (h:isP x s=false):rule_reader_take x s=(false,x):=by rw [takeP_eq,h]; rfl
theorem takeT {x:Reader} {s:ByteArray} (h:isP x s=true):rule_reader_take x s=(true,advP x):=by rw [takeP_eq,h]; rfl
theorem okX_inl {E β α γ:Type} (v:Except E β) (A:β→α) (B:E→α):okX v (fun b=>(.inl (A b):α ⊕ γ)) (fun e=>.inl (B e))=.inl (okX v A B):=by
 cases v <;> rfl
theorem okX_bind {E β α:Type} (v:Except E β) (A:β→Except E α):okX v A (fun e=>.error e)=bindE v A:=by
 cases v <;> rfl
noncomputable def opsF (rv:Reader→Except Wrong (Term × Reader)) (a:Term × Reader):Except Wrong (Term × Reader) :=
 match rule_operators.find? fun o=>isP a.2 o.2 with
  | some o=>bindE (rv (advP a.2)) fun b=>.ok ({ op:=o.1,n:=0,args:=[a.1,b.1] },b.2)
  | none=>.ok (a.1,a.2)
theorem ops_val (rv:Reader→Except Wrong (Term × Reader)) (a:Term × Reader) :
  pickS (((List.range rule_operators.length).findSome? fun i=>exitOf (cond (rule_reader_take a.2 (rule_operators.getD i default).2).1
   (okX (rv (rule_reader_take a.2 (rule_operators.getD i default).2).2) (fun b=>.inl (.inl (.ok (({ op:=(rule_operators.getD i default).1,n:=0,args:=[a.1,b.1] }:Term),b.2)))) (fun e=>.inl (.inl (.error e))))
   (.inr (rule_reader_take a.2 (rule_operators.getD i default).2).2):(Except Wrong (Term × Reader) ⊕ Reader) ⊕ Reader)).getD (.inr a.2)) (fun y=>.ok (a.1,y))=opsF rv a:=by
 have e:(fun i=>exitOf (cond (rule_reader_take a.2 (rule_operators.getD i default).2).1
   (okX (rv (rule_reader_take a.2 (rule_operators.getD i default).2).2) (fun b=>.inl (.inl (.ok (({ op:=(rule_operators.getD i default).1,n:=0,args:=[a.1,b.1] }:Term),b.2)))) (fun e=>.inl (.inl (.error e))))
   (.inr (rule_reader_take a.2 (rule_operators.getD i default).2).2):(Except Wrong (Term × Reader) ⊕ Reader) ⊕ Reader)) =
   fun i=>exitOf (cond (isP a.2 (rule_operators.getD i default).2) (.inl (.inl (bindE (rv (advP a.2)) fun b=>.ok ({ op:=(rule_operators.getD i default).1,n:=0,args:=[a.1,b.1] },b.2)))) (.inr a.2)):=by
  funext i
  rw [takeP_eq,okX_inl,okX_inl]
  cases isP a.2 (rule_operators.getD i default).2
  ·rfl
  ·simp only [cond_true,okX_bind]
 have k:=find_eq (γ:=Reader) (fun o:Int × ByteArray=>isP a.2 o.2) (fun i=>(.inl (bindE (rv (advP a.2)) fun b=>.ok ({ op:=(rule_operators.getD i default).1,n:=0,args:=[a.1,b.1] },b.2)):Except Wrong (Term × Reader) ⊕ Reader)) a.2 (.inr a.2) (fun o=>.inl (bindE (rv (advP a.2)) fun b=>.ok ({ op:=o.1,n:=0,args:=[a.1,b.1] },b.2))) rule_operators 0 rule_operators rfl (fun _ _=>rfl)
 rw [e,List.range_eq_range']
 refine (congrArg (fun z=>pickS z fun y=>.ok (a.1,y)) k).trans ?_
 unfold opsF
 cases rule_operators.find? fun o=>isP a.2 o.2 with
 | some o=>rfl
 | none=>rfl
theorem termP_ops (rv:Reader→Except Wrong (Term × Reader)) (x:Reader):termP rv x =
 bif isP x (⟨#[110,111,116]⟩:ByteArray) then bindE (rv (advP x)) fun a=>.ok ({ op:=3,n:=0,args:=[a.1] },a.2)
 else bif isP x (⟨#[105,102]⟩:ByteArray) then bindE (rv (advP x)) fun a=>bindE (rule_reader_need a.2 (⟨#[116,104,101,110]⟩:ByteArray)) fun y=>bindE (rv y) fun b=>bindE (rule_reader_need b.2 (⟨#[101,108,115,101]⟩:ByteArray)) fun z=>bindE (rv z) fun c=>.ok ({ op:=6,n:=0,args:=[a.1,b.1,c.1] },c.2)
 else bindE (rv x) fun a=>opsF rv a:=rfl
theorem termW_eq (rv:Reader→Except Wrong (Term × Reader)) (rp:Reader→Prop) (rf) (x:Reader):rule_reader_term_w rv rp rf x=termP rv x:=by
 have h:rule_reader_term_w rv rp rf x=bif (rule_reader_take x (⟨#[110,111,116]⟩:ByteArray)).1 then okX (rv (rule_reader_take x (⟨#[110,111,116]⟩:ByteArray)).2) (fun a=>.ok (({ op:=3,n:=0,args:=[a.1] }:Term),a.2)) (fun e=>.error e)
  else bif (rule_reader_take (rule_reader_take x (⟨#[110,111,116]⟩:ByteArray)).2 (⟨#[105,102]⟩:ByteArray)).1 then
   okX (rv (rule_reader_take (rule_reader_take x (⟨#[110,111,116]⟩:ByteArray)).2 (⟨#[105,102]⟩:ByteArray)).2) (fun a=>okX (rule_reader_need a.2 (⟨#[116,104,101,110]⟩:ByteArray)) (fun y=>okX (rv y) (fun b=>okX (rule_reader_need b.2 (⟨#[101,108,115,101]⟩:ByteArray)) (fun z=>okX (rv z) (fun c=>.ok (({ op:=6,n:=0,args:=[a.1,b.1,c.1] }:Term),c.2)) (fun e=>.error e)) (fun e=>.error e)) (fun e=>.error e)) (fun e=>.error e)) (fun e=>.error e)
  else okX (rv (rule_reader_take (rule_reader_take x (⟨#[110,111,116]⟩:ByteArray)).2 (⟨#[105,102]⟩:ByteArray)).2) (fun a=>pickS (((List.range rule_operators.length).findSome? fun i=>exitOf (cond (rule_reader_take a.2 (rule_operators.getD i default).2).1
   (okX (rv (rule_reader_take a.2 (rule_operators.getD i default).2).2) (fun b=>.inl (.inl (.ok (({ op:=(rule_operators.getD i default).1,n:=0,args:=[a.1,b.1] }:Term),b.2)))) (fun e=>.inl (.inl (.error e))))
   (.inr (rule_reader_take a.2 (rule_operators.getD i default).2).2):(Except Wrong (Term × Reader) ⊕ Reader) ⊕ Reader)).getD (.inr a.2)) (fun y=>.ok (a.1,y))) (fun e=>.error e):=rfl
 rw [h,termP_ops]
 simp only [okX_bind,ops_val]
 simp only [takeP_eq]
 cases isP x (⟨#[110,111,116]⟩:ByteArray)
 ·simp only [cond_false]
  cases isP x (⟨#[105,102]⟩:ByteArray) <;> rfl
 ·rfl
theorem termP_eq (x:Reader):rule_reader_term x=termP rule_reader_atom x:=by
 have h:rule_reader_term x=bif (rule_reader_take x (⟨#[110,111,116]⟩:ByteArray)).1 then okX (rule_reader_atom (rule_reader_take x (⟨#[110,111,116]⟩:ByteArray)).2) (fun a=>.ok (({ op:=3,n:=0,args:=[a.1] }:Term),a.2)) (fun e=>.error e)
  else bif (rule_reader_take (rule_reader_take x (⟨#[110,111,116]⟩:ByteArray)).2 (⟨#[105,102]⟩:ByteArray)).1 then
   okX (rule_reader_atom (rule_reader_take (rule_reader_take x (⟨#[110,111,116]⟩:ByteArray)).2 (⟨#[105,102]⟩:ByteArray)).2) (fun a=>okX (rule_reader_need a.2 (⟨#[116,104,101,110]⟩:ByteArray)) (fun y=>okX (rule_reader_atom y) (fun b=>okX (rule_reader_need b.2 (⟨#[101,108,115,101]⟩:ByteArray)) (fun z=>okX (rule_reader_atom z) (fun c=>.ok (({ op:=6,n:=0,args:=[a.1,b.1,c.1] }:Term),c.2)) (fun e=>.error e)) (fun e=>.error e)) (fun e=>.error e)) (fun e=>.error e)) (fun e=>.error e)
  else okX (rule_reader_atom (rule_reader_take (rule_reader_take x (⟨#[110,111,116]⟩:ByteArray)).2 (⟨#[105,102]⟩:ByteArray)).2) (fun a=>pickS (((List.range rule_operators.length).findSome? fun i=>exitOf (cond (rule_reader_take a.2 (rule_operators.getD i default).2).1
   (okX (rule_reader_atom (rule_reader_take a.2 (rule_operators.getD i default).2).2) (fun b=>.inl (.inl (.ok (({ op:=(rule_operators.getD i default).1,n:=0,args:=[a.1,b.1] }:Term),b.2)))) (fun e=>.inl (.inl (.error e))))
   (.inr (rule_reader_take a.2 (rule_operators.getD i default).2).2):(Except Wrong (Term × Reader) ⊕ Reader) ⊕ Reader)).getD (.inr a.2)) (fun y=>.ok (a.1,y))) (fun e=>.error e):=rfl
 rw [h,termP_ops]
 simp only [okX_bind,ops_val]
 simp only [takeP_eq]
 cases isP x (⟨#[110,111,116]⟩:ByteArray)
 ·simp only [cond_false]
  cases isP x (⟨#[105,102]⟩:ByteArray) <;> rfl
 ·rfl
noncomputable def atomP (rv:Reader→Except Wrong (Term × Reader)) (x:Reader):Except Wrong (Term × Reader) :=
 bif isP x (⟨#[40]⟩:ByteArray) then bindE (termP rv (advP x)) fun a=>bindE (rule_reader_need a.2 (⟨#[41]⟩:ByteArray)) fun y=>.ok (a.1,y)
 else bif isP x (⟨#[116,114,117,101]⟩:ByteArray) then .ok ({ op:=1,n:=1,args:=[] },advP x)
 else bif isP x (⟨#[102,97,108,115,101]⟩:ByteArray) then .ok ({ op:=1,n:=0,args:=[] },advP x)
 else bif isP x (⟨#[45]⟩:ByteArray) then
  (bif (decide ((advP x).at_ < (((advP x).l.length:Nat):Int)))&&((((advP x).l.getD (advP x).at_.toNat default).kind) == 1) then .ok ({ op:=0,n:=w64 (0 - (((advP x).l.getD (advP x).at_.toNat default).n)),args:=[] },advP (advP x))
   else .error (errP (advP x) 9))
 else bif (decide (x.at_ < ((x.l.length:Nat):Int)))&&(((x.l.getD x.at_.toNat default).kind) == 1) then .ok ({ op:=0,n:=(x.l.getD x.at_.toNat default).n,args:=[] },advP x)
 else bindE (rule_reader_one x rule_Variables) fun a=>.ok ({ op:=2,n:=a.1,args:=[] },advP a.2)
theorem atom_succ (fu:Nat) (x:Reader):rule_reader_atom_n (fu+1) x=atomP (rule_reader_atom_n fu) x:=by
 have h:rule_reader_atom_n (fu+1) x=bif (rule_reader_take x (⟨#[40]⟩:ByteArray)).1 then okX (rule_reader_term_w (rule_reader_atom_n fu) (fun _=>False) (fun _ h=>h.elim) (rule_reader_take x (⟨#[40]⟩:ByteArray)).2) (fun a=>okX (rule_reader_need a.2 (⟨#[41]⟩:ByteArray)) (fun y=>.ok (a.1,y)) (fun e=>.error e)) (fun e=>.error e)
  else bif (rule_reader_take (rule_reader_take x (⟨#[40]⟩:ByteArray)).2 (⟨#[116,114,117,101]⟩:ByteArray)).1 then .ok (({ op:=1,n:=1,args:=[] }:Term),(rule_reader_take (rule_reader_take x (⟨#[40]⟩:ByteArray)).2 (⟨#[116,114,117,101]⟩:ByteArray)).2)
  else bif (rule_reader_take (rule_reader_take (rule_reader_take x (⟨#[40]⟩:ByteArray)).2 (⟨#[116,114,117,101]⟩:ByteArray)).2 (⟨#[102,97,108,115,101]⟩:ByteArray)).1 then .ok (({ op:=1,n:=0,args:=[] }:Term),(rule_reader_take (rule_reader_take (rule_reader_take x (⟨#[40]⟩:ByteArray)).2 (⟨#[116,114,117,101]⟩:ByteArray)).2 (⟨#[102,97,108,115,101]⟩:ByteArray)).2)
  else (fun m:Bool × Reader=>bif (decide (m.2.at_ < ((m.2.l.length:Nat):Int)))&&(((m.2.l.getD m.2.at_.toNat default).kind) == 1) then (bif m.1 then .ok (({ op:=0,n:=w64 (0 - ((m.2.l.getD m.2.at_.toNat default).n)),args:=[] }:Term),advP m.2) else .ok (({ op:=0,n:=(m.2.l.getD m.2.at_.toNat default).n,args:=[] }:Term),advP m.2))
   else pickS (bif m.1 then okX (rule_reader_fail m.2 9) (fun b=>.inr b) (fun e=>.inl (.error e)) else .inr m.2) fun b=>okX (rule_reader_one b rule_Variables) (fun a=>.ok (({ op:=2,n:=a.1,args:=[] }:Term),advP a.2)) (fun e=>.error e)) (rule_reader_take (rule_reader_take (rule_reader_take (rule_reader_take x (⟨#[40]⟩:ByteArray)).2 (⟨#[116,114,117,101]⟩:ByteArray)).2 (⟨#[102,97,108,115,101]⟩:ByteArray)).2 (⟨#[45]⟩:ByteArray)):=rfl
 rw [h]
 unfold atomP
 cases h1:isP x (⟨#[40]⟩:ByteArray)
 ·rw [takeF h1]
  simp only [cond_false]
  cases h2:isP x (⟨#[116,114,117,101]⟩:ByteArray)
  ·rw [takeF h2]
   simp only [cond_false]
   cases h3:isP x (⟨#[102,97,108,115,101]⟩:ByteArray)
   ·rw [takeF h3]
    simp only [cond_false]
    cases h4:isP x (⟨#[45]⟩:ByteArray)
    ·rw [takeF h4]
     simp only [cond_false,pickS,okX_bind]
    ·rw [takeT h4]
     simp only [cond_true,failP_eq,okX,pickS]
   ·rw [takeT h3]; rfl
  ·rw [takeT h2]; rfl
 ·rw [takeT h1]
  simp only [cond_true,okX_bind,termW_eq]
theorem choiceP_eq (x:Reader) (o:Order):rule_reader_choice x o=bindE (rule_reader_one x rule_Questions) fun a=>bif slices_ContainsFunc_89 o.choices a.1 then .error (errP a.2 5)
  else bindE (rule_reader_need (advP a.2) (⟨#[58]⟩:ByteArray)) fun y=>bindE (rule_reader_one y rule_Factors) fun b=>bindE (rule_reader_need (rule_reader_take (advP b.2) (⟨#[119,104,111,108,101]⟩:ByteArray)).2 (⟨#[59]⟩:ByteArray)) fun z =>
   .ok (z,{ o with choices:=o.choices++[({ ask:=a.1,by_:=b.1,whole:=(rule_reader_take (advP b.2) (⟨#[119,104,111,108,101]⟩:ByteArray)).1 }:Choice)] }):=by
 have h:rule_reader_choice x o=okX (rule_reader_one x rule_Questions) (fun a=>pickS (bif slices_ContainsFunc_89 o.choices a.1 then okX (rule_reader_fail a.2 5) (fun b=>.inr b) (fun e=>.inl (.error e)) else .inr a.2) fun c=>okX (rule_reader_need (advP c) (⟨#[58]⟩:ByteArray)) (fun y=>okX (rule_reader_one y rule_Factors) (fun b=>okX (rule_reader_need (rule_reader_take (advP b.2) (⟨#[119,104,111,108,101]⟩:ByteArray)).2 (⟨#[59]⟩:ByteArray)) (fun z =>
   .ok (z,{ o with choices:=o.choices++[({ ask:=a.1,by_:=b.1,whole:=(rule_reader_take (advP b.2) (⟨#[119,104,111,108,101]⟩:ByteArray)).1 }:Choice)] })) (fun e=>.error e)) (fun e=>.error e)) (fun e=>.error e)) (fun e=>.error e):=rfl
 rw [h,okX_bind]
 unfold bindE
 cases rule_reader_one x rule_Questions with
 | error e=>rfl
 | ok a =>
  simp only [failP_eq]
  cases slices_ContainsFunc_89 o.choices a.1
  ·simp only [cond_false,pickS,okX_bind]; rfl
  ·rfl
theorem ruleP_eq (x:Reader) (o:Order):rule_reader_rule x o=bindE (rule_reader_one x rule_Questions) fun a=>bif slices_ContainsFunc_91 o.rules a.1 then .error (errP a.2 5)
  else bindE (rule_reader_need (advP a.2) (⟨#[61]⟩:ByteArray)) fun y=>bindE (rule_reader_term y) fun t=>bif isP t.2 (⟨#[59]⟩:ByteArray) then (bif (term_Check t.1).2 == 6 then .error (errP t.2 6) else .ok (advP t.2,{ o with rules:=o.rules++[({ ask:=a.1,term:=t.1 }:Rule)] })) else .error (errP t.2 9):=by
 have h:rule_reader_rule x o=okX (rule_reader_one x rule_Questions) (fun a=>pickS (bif slices_ContainsFunc_91 o.rules a.1 then okX (rule_reader_fail a.2 5) (fun b=>.inr b) (fun e=>.inl (.error e)) else .inr a.2) fun c=>okX (rule_reader_need (advP c) (⟨#[61]⟩:ByteArray)) (fun y=>okX (rule_reader_term y) (fun t=>pickS (bif !(rule_reader_is t.2 (⟨#[59]⟩:ByteArray)).1 then okX (rule_reader_fail (rule_reader_is t.2 (⟨#[59]⟩:ByteArray)).2 9) (fun b=>.inr b) (fun e=>.inl (.error e)) else .inr (rule_reader_is t.2 (⟨#[59]⟩:ByteArray)).2) fun d =>
   bif (term_Check t.1).2 == 6 then okX (rule_reader_fail d 6) (fun q=>.ok (advP q,{ o with rules:=o.rules++[({ ask:=a.1,term:=t.1 }:Rule)] })) (fun e=>.error e) else .ok (advP d,{ o with rules:=o.rules++[({ ask:=a.1,term:=t.1 }:Rule)] })) (fun e=>.error e)) (fun e=>.error e)) (fun e=>.error e):=rfl
 rw [h,okX_bind]
 unfold bindE
 cases rule_reader_one x rule_Questions with
 | error e=>rfl
 | ok a =>
  simp only [failP_eq,isP_eq]
  cases slices_ContainsFunc_91 o.rules a.1
  ·simp only [cond_false,pickS,okX]
   cases rule_reader_need (advP a.2) (⟨#[61]⟩:ByteArray) with
   | error e=>rfl
   | ok y =>
    simp only
    cases rule_reader_term y with
    | error e=>rfl
    | ok t =>
     simp only
     cases isP t.2 (⟨#[59]⟩:ByteArray)
     ·rfl
     ·simp only [Bool.not_true,cond_false,cond_true]
  ·rfl
noncomputable def bodyP (i:Order × Reader):(Except Wrong Reader ⊕ (Order × Reader)) ⊕ (Order × Reader) :=
 bif isP i.2 (⟨#[125]⟩:ByteArray) then .inl (.inr (i.1,advP i.2))
 else bif isP i.2 (⟨#[99,104,111,111,115,101]⟩:ByteArray) then okX (rule_reader_choice (advP i.2) i.1) (fun y=>.inr (y.2,y.1)) (fun e=>.inl (.inl (.error e)))
 else bif isP i.2 (⟨#[114,117,108,101]⟩:ByteArray) then okX (rule_reader_rule (advP i.2) i.1) (fun y=>.inr (y.2,y.1)) (fun e=>.inl (.inl (.error e)))
 else .inl (.inl (.error (errP i.2 9)))
noncomputable def bodyL (i:Order × Reader):Except Wrong Reader ⊕ (Order × Reader):=iter bodyP default ((i.2.l.length - i.2.at_.toNat)+1) i
def endO (b:Order × Reader):Reader:={ b.2 with list:=b.2.list++[({ name:=b.1.name,accepts:=b.1.accepts,choices:=isort (·.ask) b.1.choices,rules:=isort (·.ask) b.1.rules }:Order)] }
theorem orderP_eq (x:Reader):rule_reader_order x=bindE (rule_reader_need x (⟨#[111,114,100,101,114]⟩:ByteArray)) fun a=>bindE (rule_reader_name a) fun b =>
  bif slices_ContainsFunc_44 b.2.list ({ name:=b.1,accepts:=false,choices:=[],rules:=[] }:Order) then .error (errP b.2 5)
  else bif ((b.2.list.length:Nat):Int) == 20 then .error (errP b.2 6)
  else bindE (rule_reader_need (rule_reader_take (advP b.2) (⟨#[97,99,99,101,112,116,115]⟩:ByteArray)).2 (⟨#[123]⟩:ByteArray)) fun d =>
   pickS (bodyL (({ name:=b.1,accepts:=(rule_reader_take (advP b.2) (⟨#[97,99,99,101,112,116,115]⟩:ByteArray)).1,choices:=[],rules:=[] }:Order),d)) fun c=>.ok (endO c):=by
 have hb:(fun i:Order × Reader=>(bif !(rule_reader_take i.2 (⟨#[125]⟩:ByteArray)).1 then
   (bif (rule_reader_take (rule_reader_take i.2 (⟨#[125]⟩:ByteArray)).2 (⟨#[99,104,111,111,115,101]⟩:ByteArray)).1 then okX (rule_reader_choice (rule_reader_take (rule_reader_take i.2 (⟨#[125]⟩:ByteArray)).2 (⟨#[99,104,111,111,115,101]⟩:ByteArray)).2 i.1) (fun y=>.inr (y.2,y.1)) (fun e=>.inl (.inl (.error e)))
   else bif (rule_reader_take (rule_reader_take (rule_reader_take i.2 (⟨#[125]⟩:ByteArray)).2 (⟨#[99,104,111,111,115,101]⟩:ByteArray)).2 (⟨#[114,117,108,101]⟩:ByteArray)).1 then okX (rule_reader_rule (rule_reader_take (rule_reader_take (rule_reader_take i.2 (⟨#[125]⟩:ByteArray)).2 (⟨#[99,104,111,111,115,101]⟩:ByteArray)).2 (⟨#[114,117,108,101]⟩:ByteArray)).2 i.1) (fun y=>.inr (y.2,y.1)) (fun e=>.inl (.inl (.error e)))
   else okX (rule_reader_fail (rule_reader_take (rule_reader_take (rule_reader_take i.2 (⟨#[125]⟩:ByteArray)).2 (⟨#[99,104,111,111,115,101]⟩:ByteArray)).2 (⟨#[114,117,108,101]⟩:ByteArray)).2 9) (fun q=>.inr (i.1,q)) (fun e=>.inl (.inl (.error e))))
   else .inl (.inr (i.1,(rule_reader_take i.2 (⟨#[125]⟩:ByteArray)).2)):(Except Wrong Reader ⊕ (Order × Reader)) ⊕ (Order × Reader)))=bodyP:=by
  funext i
  unfold bodyP
  cases h1:isP i.2 (⟨#[125]⟩:ByteArray)
  ·rw [takeF h1]
   simp only [Bool.not_false,cond_true,cond_false]
   cases h2:isP i.2 (⟨#[99,104,111,111,115,101]⟩:ByteArray)
   ·rw [takeF h2]
    simp only [cond_false]
    cases h3:isP i.2 (⟨#[114,117,108,101]⟩:ByteArray)
    ·rw [takeF h3]
     simp only [cond_false,failP_eq,okX]
    ·rw [takeT h3]; rfl
   ·rw [takeT h2]; rfl
  ·rw [takeT h1]; rfl
 have h:rule_reader_order x=okX (rule_reader_need x (⟨#[111,114,100,101,114]⟩:ByteArray)) (fun a=>okX (rule_reader_name a) (fun b =>
   pickS (bif slices_ContainsFunc_44 b.2.list ({ name:=b.1,accepts:=false,choices:=[],rules:=[] }:Order) then okX (rule_reader_fail b.2 5) (fun q=>.inr q) (fun e=>.inl (.error e)) else .inr b.2) fun b4 =>
   pickS (bif ((b4.list.length:Nat):Int) == 20 then okX (rule_reader_fail b4 6) (fun q=>.inr q) (fun e=>.inl (.error e)) else .inr b4) fun b6 =>
   okX (rule_reader_need (rule_reader_take (advP b6) (⟨#[97,99,99,101,112,116,115]⟩:ByteArray)).2 (⟨#[123]⟩:ByteArray)) (fun d =>
   pickS (iter (fun i:Order × Reader=>(bif !(rule_reader_take i.2 (⟨#[125]⟩:ByteArray)).1 then
   (bif (rule_reader_take (rule_reader_take i.2 (⟨#[125]⟩:ByteArray)).2 (⟨#[99,104,111,111,115,101]⟩:ByteArray)).1 then okX (rule_reader_choice (rule_reader_take (rule_reader_take i.2 (⟨#[125]⟩:ByteArray)).2 (⟨#[99,104,111,111,115,101]⟩:ByteArray)).2 i.1) (fun y=>.inr (y.2,y.1)) (fun e=>.inl (.inl (.error e)))
   else bif (rule_reader_take (rule_reader_take (rule_reader_take i.2 (⟨#[125]⟩:ByteArray)).2 (⟨#[99,104,111,111,115,101]⟩:ByteArray)).2 (⟨#[114,117,108,101]⟩:ByteArray)).1 then okX (rule_reader_rule (rule_reader_take (rule_reader_take (rule_reader_take i.2 (⟨#[125]⟩:ByteArray)).2 (⟨#[99,104,111,111,115,101]⟩:ByteArray)).2 (⟨#[114,117,108,101]⟩:ByteArray)).2 i.1) (fun y=>.inr (y.2,y.1)) (fun e=>.inl (.inl (.error e)))
   else okX (rule_reader_fail (rule_reader_take (rule_reader_take (rule_reader_take i.2 (⟨#[125]⟩:ByteArray)).2 (⟨#[99,104,111,111,115,101]⟩:ByteArray)).2 (⟨#[114,117,108,101]⟩:ByteArray)).2 9) (fun q=>.inr (i.1,q)) (fun e=>.inl (.inl (.error e))))
   else .inl (.inr (i.1,(rule_reader_take i.2 (⟨#[125]⟩:ByteArray)).2)):(Except Wrong Reader ⊕ (Order × Reader)) ⊕ (Order × Reader))) default ((d.l.length - d.at_.toNat)+1) (({ name:=b.1,accepts:=(rule_reader_take (advP b6) (⟨#[97,99,99,101,112,116,115]⟩:ByteArray)).1,choices:=[],rules:=[] }:Order),d)) fun c=>.ok (endO c)) (fun e=>.error e)) (fun e=>.error e)) (fun e=>.error e):=rfl
 rw [h,okX_bind,hb]
 unfold bindE
 cases rule_reader_need x (⟨#[111,114,100,101,114]⟩:ByteArray) with
 | error e=>rfl
 | ok a =>
  simp only [okX_bind]
  unfold bindE
  cases rule_reader_name a with
  | error e=>rfl
  | ok b =>
   simp only [failP_eq]
   cases slices_ContainsFunc_44 b.2.list ({ name:=b.1,accepts:=false,choices:=[],rules:=[] }:Order)
   ·simp only [cond_false,pickS,failP_eq]
    cases ((b.2.list.length:Nat):Int) == 20
    ·rfl
    ·rfl
   ·rfl
noncomputable def ordersP (i:Reader):(Except Wrong (List Order) ⊕ Reader) ⊕ Reader :=
 bif decide (i.at_ < ((i.l.length:Nat):Int)) then okX (rule_reader_order i) (fun y=>.inr y) (fun e=>.inl (.inl (.error e))) else .inl (.inr i)
noncomputable def readP (i:Reader):Except Wrong (List Order):=pickS (iter ordersP default ((i.l.length - i.at_.toNat)+1) i) fun b=>.ok b.list
theorem parseP_eq (s:ByteArray):rule_Parse s=bif (lex_Scan s).2.2 != 0 then ([],(lex_Scan s).2.1,(lex_Scan s).2.2)
  else match readP { l:=(lex_Scan s).1,at_:=0,end_:=s.size,list:=[] } with | .ok l=>(l,0,0) | .error e=>([],e.pos,e.e):=by
 have h:rule_Parse s=parseV (bif (lex_Scan s).2.2 != 0 then .inl ([],(lex_Scan s).2.1,(lex_Scan s).2.2) else .inr (lex_Scan s)) fun x=>readP { l:=x.1,at_:=0,end_:=s.size,list:=[] }:=rfl
 rw [h]
 cases (lex_Scan s).2.2 != 0 <;> rfl
def spanL (p:Int→Bool):List UInt8→Nat
 | []=>0
 | b :: r=>bif p ((b.toNat:Nat):Int) then spanL p r+1 else 0
theorem spanL_le (p:Int→Bool):∀ l:List UInt8,spanL p l≤l.length
 | []=>Nat.le_refl _
 | b :: r=>by
  unfold spanL
  have:=spanL_le p r
  cases p ((b.toNat:Nat):Int)
  ·exact Nat.zero_le _
  ·simp only [cond_true,List.length_cons]; omega
theorem spanL_drop (p:Int→Bool):∀ l:List UInt8,spanL p (l.drop (spanL p l))=0
 | []=>rfl
 | b :: r=>by
  cases h:p ((b.toNat:Nat):Int)
  ·simp only [spanL,h,cond_false,List.drop_zero]
  ·simp only [spanL,h,cond_true,List.drop_succ_cons]; exact spanL_drop p r
theorem drop_at {l:List UInt8} {i:Nat} (h:i < l.length):l.drop i=l.getD i 0 :: l.drop (i+1):=by
 rw [List.drop_eq_getElem_cons h]
 simp [List.getD,h]
theorem bsize (s:ByteArray):s.size=s.data.toList.length:=rfl
theorem ext_drop (s:ByteArray) (i:Nat):(s.extract i s.size).data.toList=s.data.toList.drop i:=by
 rw [ByteArray.data_extract,Array.toList_extract,List.extract_eq_take_drop]
 rw [List.take_of_length_le (by rw [List.length_drop,bsize]; exact Nat.le_refl _)]
theorem span_step {p:Int→Bool} {s:ByteArray} {i:Nat} (h:spanL p s.data.toList=i+spanL p (s.data.toList.drop i)) (hc:(decide (((i:Nat):Int) < ((s.size:Nat):Int))&&p ((s.data.toList.getD i 0).toNat:Int))=true):spanL p s.data.toList=i+1+spanL p (s.data.toList.drop (i+1)):=by
 simp only [Bool.and_eq_true,decide_eq_true_eq] at hc
 have hlt:i < s.data.toList.length:=by have:=bsize s; omega
 rw [drop_at hlt] at h
 simp only [spanL,hc.2,cond_true] at h
 omega
theorem span_stop {p:Int→Bool} {s:ByteArray} {i:Nat} (h:spanL p s.data.toList=i+spanL p (s.data.toList.drop i)) (hc:(decide (((i:Nat):Int) < ((s.size:Nat):Int))&&p ((s.data.toList.getD i 0).toNat:Int))=false):spanL p s.data.toList=i:=by
 by_cases hlt:i < s.data.toList.length
 ·have h1:decide (((i:Nat):Int) < ((s.size:Nat):Int))=true:=decide_eq_true (by have:=bsize s; omega)
  rw [h1,Bool.true_and] at hc
  rw [drop_at hlt] at h
  simp only [spanL,hc,cond_false] at h
  omega
 ·rw [List.drop_of_length_le (by omega)] at h
  exact h
theorem span82_eq (s:ByteArray):lex_span_82 s=((spanL lex_blank s.data.toList:Nat):Int):=by
 refine Sk.pvalE (lex_span_82_sk s) (L:=fun x=>x=((spanL lex_blank s.data.toList:Nat):Int)) ?_
 unfold lex_span_82_sk
 simp only [Sk.pstE,Sk.isLoop,reduceCtorEq,ON,kk,lex_blank_k]
 refine ⟨fun b=>b=((spanL lex_blank s.data.toList:Nat):Int),⟨fun i=>i≤s.size∧spanL lex_blank s.data.toList=i+spanL lex_blank (s.data.toList.drop i),⟨Nat.zero_le _,by simp⟩,fun i hi x hx=>⟨fun hc _=>?_,fun hc=>?_⟩⟩,fun b _ hb=>hb⟩
 ·subst hx
  have:=span_step hi.2 hc
  simp only [Bool.and_eq_true,decide_eq_true_eq] at hc
  exact ⟨⟨by omega,this⟩,by omega⟩
 ·subst hx
  have:=span_stop hi.2 hc
  show ((i:Nat):Int)=_
  rw [this]
noncomputable def gapS:List UInt8→Bool→Nat
 | [],_=>0
 | b :: r,c=>bif c then (bif b == 10 then gapS r false+1 else gapS r true+1) else bif lex_blank ((b.toNat:Nat):Int) then gapS r false+1 else bif b == 35 then gapS r true+1 else 0
theorem gapS_le:∀ (l:List UInt8) (c:Bool),gapS l c≤l.length
 | [],_=>Nat.le_refl _
 | b :: r,c=>by
  have h1:=gapS_le r false
  have h2:=gapS_le r true
  simp only [gapS]
  cases c <;> cases lex_blank ((b.toNat:Nat):Int) <;> cases b == 10 <;> cases b == 35 <;> simp only [cond_true,cond_false,List.length_cons] <;> omega
theorem gapS_span:∀ l:List UInt8,gapS l false=spanL lex_blank l+gapS (l.drop (spanL lex_blank l)) false
 | []=>rfl
 | b :: r=>by
  cases h:lex_blank ((b.toNat:Nat):Int)
  ·simp only [spanL,h,cond_false,List.drop_zero,Nat.zero_add]
  ·simp only [spanL,h,cond_true,List.drop_succ_cons]
   have:=gapS_span r
   simp only [gapS,h,cond_false,cond_true]
   omega
theorem gapS_nb {l:List UInt8} (h:spanL lex_blank l=0) (h2:(l.getD 0 0 == 35)=false):gapS l false=0:=by
 cases l with
 | nil=>rfl
 | cons b r =>
  have h2:(b == 35)=false:=h2
  cases hb:lex_blank ((b.toNat:Nat):Int)
  ·simp only [gapS,hb,h2,cond_false]
  ·simp [spanL,hb] at h
theorem gapS_tf {l:List UInt8} (h:l=[]∨l.getD 0 0=10):gapS l true=gapS l false:=by
 cases l with
 | nil=>rfl
 | cons b r =>
  rcases h with h | h
  ·cases h
  ·have h:b=10:=h
   subst h
   have e:lex_blank (((10:UInt8).toNat:Nat):Int)=true:=by kernel_rfl
   have e2:((10:UInt8) == 10)=true:=rfl
   simp only [gapS,e,e2,cond_true,cond_false]
theorem u8i (b k:UInt8):(((b.toNat:Nat):Int) == ((k.toNat:Nat):Int))=(b == k):=by
 rw [Bool.eq_iff_iff,beq_iff_eq,beq_iff_eq]
 exact ⟨fun h=>UInt8.toNat_inj.1 (by omega),fun h=>by rw [h]⟩
theorem gap_eq (s:ByteArray) (hs:s.size≤1000000):lex_gap s=((gapS s.data.toList false:Nat):Int):=by
 refine Sk.pvalE (lex_gap_sk s) (L:=fun x=>x=((gapS s.data.toList false:Nat):Int)) ?_
 unfold lex_gap_sk
 simp only [Sk.pstE,Sk.isLoop,reduceCtorEq,ON,kk,lex_span_82_k]
 have hN:s.size=s.data.toList.length:=bsize s
 intro x hx _
 rw [span82_eq] at hx
 subst hx
 have hsl:=spanL_le lex_blank s.data.toList
 refine ⟨fun i=>i=((gapS s.data.toList false:Nat):Int),⟨fun i=>0≤i∧i≤(s.size:Int)∧gapS s.data.toList false=i.toNat+gapS (s.data.toList.drop i.toNat) false∧spanL lex_blank (s.data.toList.drop i.toNat)=0,⟨by omega,by omega,?_,?_⟩,fun i hi _=>⟨fun hc=>?_,fun hc=>?_⟩⟩,fun b _ hb=>hb⟩
 ·rw [Int.toNat_natCast]; exact gapS_span _
 ·rw [Int.toNat_natCast]; exact spanL_drop _ _
 ·simp only [Bool.and_eq_true,decide_eq_true_eq] at hc
  obtain ⟨h0,h1,h2,h3⟩:=hi
  have hlt:i.toNat < s.data.toList.length:=by omega
  have hb:s.data.toList.getD i.toNat 0=35:=by have:=u8i (s.data.toList.getD i.toNat 0) 35; rw [show (((35:UInt8).toNat:Nat):Int)=35 from rfl,hc.2] at this; exact eq_of_beq this.symm
  refine ⟨fun b=>0≤b∧b≤(s.size:Int)∧i < b∧gapS (s.data.toList.drop i.toNat) false=(b - i).toNat+gapS (s.data.toList.drop b.toNat) false∧spanL lex_blank (s.data.toList.drop b.toNat)=0,
   ⟨fun b=>i < b∧b≤(s.size:Int)∧gapS (s.data.toList.drop i.toNat) false=(b - i).toNat+gapS (s.data.toList.drop b.toNat) false,
    ⟨fun j=>i≤j∧j≤(s.size:Int)∧gapS (s.data.toList.drop i.toNat) false=(j - i).toNat+gapS (s.data.toList.drop j.toNat) true,⟨by omega,by omega,?_⟩,fun j hj _=>⟨fun hcj=>?_,fun hcj=>?_⟩⟩,fun b _ hb x hx _=>?_⟩,fun b _ hb=>⟨⟨hb.1,hb.2.1,by omega,hb.2.2.2.2⟩,by omega⟩⟩
  ·rw [drop_at hlt,hb]
   have e1:lex_blank (((35:UInt8).toNat:Nat):Int)=false:=by kernel_rfl
   have e2:((35:UInt8) == 10)=false:=rfl
   simp only [gapS,e1,e2,cond_true,cond_false,beq_self_eq_true]
   omega
  ·simp only [Bool.and_eq_true,decide_eq_true_eq,bne_iff_ne] at hcj
   have hw:w64 (j+1)=j+1:=w64_id (by omega) (by omega)
   rw [hw]
   refine ⟨⟨by omega,by omega,?_⟩,by omega⟩
   have hltj:j.toNat < s.data.toList.length:=by omega
   have hne:(s.data.toList.getD j.toNat 0 == 10)=false:=by
    rw [beq_eq_false_iff_ne]; intro e; exact hcj.2 (by rw [e]; rfl)
   rw [hj.2.2,drop_at hltj]
   simp only [gapS,hne,cond_true,cond_false]
   rw [show (j+1).toNat=j.toNat+1 by omega]
   omega
  ·have hji:j≠i:=by
    intro e
    subst e
    have g1:decide (j < (s.size:Int))=true:=decide_eq_true hc.1
    rw [g1,hb] at hcj
    revert hcj
    decide
   refine ⟨by omega,hj.2.1,?_⟩
   rw [hj.2.2,gapS_tf]
   by_cases hlt2:j < (s.size:Int)
   ·have g1:decide (j < (s.size:Int))=true:=decide_eq_true hlt2
    rw [g1,Bool.true_and,bne_eq_false_iff_eq] at hcj
    right
    rw [drop_at (by omega)]
    show s.data.toList.getD j.toNat 0=10
    have:=u8i (s.data.toList.getD j.toNat 0) 10
    rw [hcj] at this
    exact eq_of_beq this.symm
   ·left
    exact List.drop_of_length_le (by omega)
  ·rw [span82_eq,ext_drop] at hx
   subst hx
   have q1:=spanL_le lex_blank (s.data.toList.drop b.toNat)
   rw [List.length_drop] at q1
   have hw:w64 (b+((spanL lex_blank (s.data.toList.drop b.toNat):Nat):Int))=b+((spanL lex_blank (s.data.toList.drop b.toNat):Nat):Int):=w64_id (by omega) (by omega)
   rw [hw]
   have q2:=gapS_span (s.data.toList.drop b.toNat)
   have q3:=spanL_drop lex_blank (s.data.toList.drop b.toNat)
   rw [List.drop_drop] at q2 q3
   have q4:(b+((spanL lex_blank (s.data.toList.drop b.toNat):Nat):Int)).toNat=b.toNat+spanL lex_blank (s.data.toList.drop b.toNat):=by omega
   refine ⟨by omega,by omega,by omega,?_,?_⟩
   ·rw [q4,hb.2.2,q2]; omega
   ·rw [q4]; exact q3
 ·obtain ⟨h0,h1,h2,h3⟩:=hi
  have:gapS (s.data.toList.drop i.toNat) false=0:=by
   refine gapS_nb h3 ?_
   by_cases hlt:i < (s.size:Int)
   ·have g1:decide (i < (s.size:Int))=true:=decide_eq_true hlt
    rw [g1,Bool.true_and] at hc
    rw [drop_at (by omega)]
    have:=u8i (s.data.toList.getD i.toNat 0) 35
    rw [show (((35:UInt8).toNat:Nat):Int)=35 from rfl,hc] at this
    exact this.symm
   ·rw [List.drop_of_length_le (by omega)]; rfl
  show i=_
  omega
noncomputable def nextP (r:List UInt8):Token × Int × Int:=lex_next ⟨r.toArray⟩
noncomputable def lexStep (k:List UInt8→Nat→Except (Nat × Int) (List Token)) (l:List UInt8) (p:Nat):Except (Nat × Int) (List Token) :=
 bif (l.drop (gapS l false)).isEmpty then .ok []
 else bif (nextP (l.drop (gapS l false))).2.2 != 0 then .error (p+gapS l false,(nextP (l.drop (gapS l false))).2.2)
 else match k ((l.drop (gapS l false)).drop (nextP (l.drop (gapS l false))).2.1.toNat) (p+gapS l false+(nextP (l.drop (gapS l false))).2.1.toNat) with
  | .ok ts=>.ok ({ (nextP (l.drop (gapS l false))).1 with pos:=((p+gapS l false:Nat):Int) } :: ts)
  | .error e=>.error e
noncomputable def lexAll:Nat→List UInt8→Nat→Except (Nat × Int) (List Token)
 | 0,_,_=>.ok []
 | fu+1,l,p=>lexStep (lexAll fu) l p
noncomputable def lexA (l:List UInt8) (p:Nat):Except (Nat × Int) (List Token):=lexAll (l.length+1) l p
theorem nextP_len {r:List UInt8} (h:r.length≤1000000) (h1:r.isEmpty=false) (he:((nextP r).2.2 != 0)=false):1≤(nextP r).2.1∧(nextP r).2.1≤(r.length:Int):=by
 have hr:1≤r.length:=by cases r with | nil=>cases h1 | cons _ _=>simp
 have he:(nextP r).2.2=0:=by simpa using he
 exact lex_next_post ⟨r.toArray⟩ ⟨h,hr⟩ he
theorem lexStep_congr {k k':List UInt8→Nat→Except (Nat × Int) (List Token)} {l:List UInt8} {p:Nat} (hl:l.length≤1000000) (h:∀ l' p',l'.length < l.length→k l' p'=k' l' p'):lexStep k l p=lexStep k' l p:=by
 have g1:=gapS_le l false
 have hrl:(l.drop (gapS l false)).length=l.length - gapS l false:=List.length_drop
 unfold lexStep
 cases he:(l.drop (gapS l false)).isEmpty
 ·cases hn:(nextP (l.drop (gapS l false))).2.2 != 0
  ·have hb:=nextP_len (by omega) he hn
   have hr:1≤(l.drop (gapS l false)).length:=by
    cases hq:l.drop (gapS l false) with
    | nil=>rw [hq] at he; cases he
    | cons _ _=>simp
   rw [h _ _ (by rw [List.length_drop]; omega)]
  ·rfl
 ·rfl
theorem lexAll_fuel:∀ (fu fu':Nat) (l:List UInt8) (p:Nat),l.length≤1000000→l.length < fu→l.length < fu'→lexAll fu l p=lexAll fu' l p
 | 0,_,_,_,_,h,_=>absurd h (Nat.not_lt_zero _)
 | _+1,0,_,_,_,_,h=>absurd h (Nat.not_lt_zero _)
 | fu+1,fu'+1,l,p,hl,h,h'=>lexStep_congr hl fun l' p' hl'=>lexAll_fuel fu fu' l' p' (by omega) (by omega) (by omega)
theorem lexA_eq (l:List UInt8) (p:Nat) (hl:l.length≤1000000):lexA l p=lexStep lexA l p :=
 lexStep_congr (k:=lexAll l.length) hl fun l' p' hl'=>lexAll_fuel l.length (l'.length+1) l' p' (by omega) hl' (Nat.lt_succ_self _)
def scanR:Except (Nat × Int) (List Token)→List Token × Int × Int
 | .ok ts=>(ts,0,0)
 | .error e=>([],((e.1:Nat):Int),e.2)
def preE (o:List Token):Except (Nat × Int) (List Token)→Except (Nat × Int) (List Token)
 | .ok ts=>.ok (o++ts)
 | .error e=>.error e
theorem ext_arr (s:ByteArray) (i:Nat):s.extract i s.size=⟨(s.data.toList.drop i).toArray⟩:=by
 apply ByteArray.ext
 rw [← ext_drop,Array.toArray_toList]
theorem scan_eq (s:ByteArray) (hs:s.size≤20000):lex_Scan s=scanR (lexA s.data.toList 0):=by
 refine Sk.pvalE (lex_Scan_sk s) (L:=fun x=>x=scanR (lexA s.data.toList 0)) ?_
 unfold lex_Scan_sk
 simp only [Sk.pstE,Sk.isLoop,reduceCtorEq,ON,kk,lex_gap_k,lex_next_k]
 have hN:s.size=s.data.toList.length:=bsize s
 refine ⟨fun h=>absurd (of_decide_eq_true h) (by omega),fun _=>⟨fun i=>0≤i.2∧i.2≤(s.size:Int)∧lexA s.data.toList 0=preE i.1 (lexA (s.data.toList.drop i.2.toNat) i.2.toNat),⟨by decide,Int.natCast_nonneg _,?_⟩,fun i hi x hx _=>?_⟩⟩
 ·show _=preE [] (lexA (s.data.toList.drop 0) 0)
  rw [List.drop_zero]
  cases lexA s.data.toList 0 <;> rfl
 ·obtain ⟨h0,h1,h2⟩:=hi
  have hsz:(s.extract i.2.toNat s.size).size≤1000000:=by rw [ByteArray.size_extract]; omega
  rw [gap_eq _ hsz,ext_drop] at hx
  have g1:=gapS_le (s.data.toList.drop i.2.toNat) false
  rw [List.length_drop] at g1
  have hw:w64 (i.2+x)=i.2+x:=w64_id (by omega) (by omega)
  have hw2:(i.2+x).toNat=i.2.toNat+gapS (s.data.toList.drop i.2.toNat) false:=by omega
  rw [hw]
  rw [lexA_eq (s.data.toList.drop i.2.toNat) i.2.toNat (by rw [List.length_drop]; omega)] at h2
  unfold lexStep at h2
  rw [List.drop_drop] at h2
  have hxr:s.extract (i.2+x).toNat s.size=⟨(s.data.toList.drop (i.2.toNat+gapS (s.data.toList.drop i.2.toNat) false)).toArray⟩:=by rw [ext_arr,hw2]
  refine ⟨fun hc=>?_,fun hc y hy hyp=>?_⟩
  ·have hc:=eq_of_beq hc
   have:s.data.toList.drop (i.2.toNat+gapS (s.data.toList.drop i.2.toNat) false)=[]:=List.drop_of_length_le (by omega)
   rw [h2,this]
   show (i.1,0,0)=scanR (.ok (i.1++[]))
   rw [List.append_nil]; rfl
  ·have hc:=ne_of_beq_false hc
   have hne:(s.data.toList.drop (i.2.toNat+gapS (s.data.toList.drop i.2.toNat) false)).isEmpty=false:=by
    cases hq:s.data.toList.drop (i.2.toNat+gapS (s.data.toList.drop i.2.toNat) false) with
    | nil =>
     have:=congrArg List.length hq
     rw [List.length_drop] at this
     simp only [List.length_nil] at this
     omega
    | cons _ _=>rfl
   rw [hxr] at hy hyp
   have hy:y=nextP (s.data.toList.drop (i.2.toNat+gapS (s.data.toList.drop i.2.toNat) false)):=hy
   rw [hne,← hy] at h2
   simp only [cond_false] at h2
   have hlen:(⟨(s.data.toList.drop (i.2.toNat+gapS (s.data.toList.drop i.2.toNat) false)).toArray⟩:ByteArray).size=s.size - (i.2.toNat+gapS (s.data.toList.drop i.2.toNat) false):=by
    show (s.data.toList.drop (i.2.toNat+gapS (s.data.toList.drop i.2.toNat) false)).toArray.size=_
    rw [List.size_toArray,List.length_drop]; omega
   rw [hlen] at hyp
   have hyp:=hyp ⟨by omega,by omega⟩
   refine ⟨fun he=>?_,fun he _=>?_⟩
   ·rw [h2,he]
    show _=scanR (.error _)
    unfold scanR
    simp only
    rw [← hw2]
    rw [Int.toNat_of_nonneg (by omega)]
   ·rw [he] at h2
    simp only [cond_false] at h2
    have hb:=hyp (by simpa using he)
    have hw3:w64 (i.2+x+y.2.1)=i.2+x+y.2.1:=w64_id (by omega) (by omega)
    rw [hw3]
    refine ⟨⟨by omega,by omega,?_⟩,by omega⟩
    have e1:(i.2+x+y.2.1).toNat=i.2.toNat+gapS (s.data.toList.drop i.2.toNat) false+y.2.1.toNat:=by omega
    have e2:((i.2.toNat+gapS (s.data.toList.drop i.2.toNat) false:Nat):Int)=i.2+x:=by omega
    show _=preE (i.1++[_]) (lexA (s.data.toList.drop (i.2+x+y.2.1).toNat) (i.2+x+y.2.1).toNat)
    rw [h2,e1,List.drop_drop,e2]
    cases lexA (s.data.toList.drop (i.2.toNat+gapS (s.data.toList.drop i.2.toNat) false+y.2.1.toNat)) (i.2.toNat+gapS (s.data.toList.drop i.2.toNat) false+y.2.1.toNat) with
    | ok ts=>simp [preE]
    | error e=>rfl
def shT (φ:Int→Int) (t:Token):Token:={ t with pos:=φ t.pos }
def shL (n:Nat):Except (Nat × Int) (List Token)→Except (Nat × Int) (List Token)
 | .ok ts=>.ok (ts.map (shT (· + (n:Int))))
 | .error e=>.error (e.1+n,e.2)
theorem lexAll_shift (n:Nat):∀ (fu:Nat) (l:List UInt8) (p:Nat),lexAll fu l (p+n)=shL n (lexAll fu l p)
 | 0,_,_=>rfl
 | fu+1,l,p=>by
  have ih:=lexAll_shift n fu
  show lexStep (lexAll fu) l (p+n)=shL n (lexStep (lexAll fu) l p)
  unfold lexStep
  cases (l.drop (gapS l false)).isEmpty
  ·cases (nextP (l.drop (gapS l false))).2.2 != 0
   ·simp only [cond_false]
    rw [show p+n+gapS l false+(nextP (l.drop (gapS l false))).2.1.toNat=p+gapS l false+(nextP (l.drop (gapS l false))).2.1.toNat+n by omega,ih]
    cases lexAll fu ((l.drop (gapS l false)).drop (nextP (l.drop (gapS l false))).2.1.toNat) (p+gapS l false+(nextP (l.drop (gapS l false))).2.1.toNat) with
    | ok ts =>
     simp only [shL,List.map_cons,shT]
     rw [show ((p+n+gapS l false:Nat):Int)=((p+gapS l false:Nat):Int)+(n:Int) by omega]
    | error e=>rfl
   ·simp only [cond_false,cond_true,shL]
    rw [show p+n+gapS l false=p+gapS l false+n by omega]
  ·rfl
theorem gapS_rep (l:List UInt8):∀ n:Nat,gapS (List.replicate n 32++l) false=n+gapS l false
 | 0=>by simp
 | n+1=>by
  have e:lex_blank (((32:UInt8).toNat:Nat):Int)=true:=by kernel_rfl
  rw [List.replicate_succ,List.cons_append]
  simp only [gapS,e,cond_true,cond_false]
  rw [gapS_rep l n]
  omega
theorem lexA_front (l:List UInt8) (n:Nat) (h:n+l.length≤1000000):lexA (List.replicate n 32++l) 0=shL n (lexA l 0):=by
 have e1:lexA (List.replicate n 32++l) 0=lexA l n:=by
  rw [lexA_eq _ _ (by rw [List.length_append,List.length_replicate]; exact h),lexA_eq l n (by omega)]
  unfold lexStep
  have hd:(List.replicate n 32++l).drop (n+gapS l false)=l.drop (gapS l false):=by
   rw [List.drop_append,List.length_replicate,List.drop_of_length_le (by rw [List.length_replicate]; omega),List.nil_append]
   rw [show n+gapS l false - n=gapS l false by omega]
  rw [gapS_rep,hd]
  rw [show 0+(n+gapS l false)=n+gapS l false by omega]
 rw [e1]
 have:=lexAll_shift n (l.length+1) l 0
 rw [Nat.zero_add] at this
 exact this
def shW (φ:Int→Int) (w:Wrong):Wrong:={ w with pos:=φ w.pos }
def shR (φ:Int→Int) (x:Reader):Reader:={ x with l:=x.l.map (shT φ),end_:=φ x.end_ }
def mapX {α β:Type} (φ:Int→Int) (f:α→β):Except Wrong α→Except Wrong β
 | .ok a=>.ok (f a)
 | .error w=>.error (shW φ w)
theorem bindE_map {α β γ δ:Type} {φ:Int→Int} {f:α→β} {h:γ→δ} {v:Except Wrong α} {v':Except Wrong β} {g:β→Except Wrong δ} {g':α→Except Wrong γ} (hv:v'=mapX φ f v) (hg:∀ a,v=.ok a→g (f a)=mapX φ h (g' a)):bindE v' g=mapX φ h (bindE v g'):=by
 subst hv
 cases v with
 | error w=>rfl
 | ok a=>exact hg a rfl
section
variable (φ : Int → Int)
theorem sh_text (l:List Token) (i:Nat):((l.map (shT φ)).getD i default).text=(l.getD i default).text:=by
 by_cases h:i < l.length <;> simp [List.getD,h,shT]
theorem sh_kind (l:List Token) (i:Nat):((l.map (shT φ)).getD i default).kind=(l.getD i default).kind:=by
 by_cases h:i < l.length <;> simp [List.getD,h,shT]
theorem sh_n (l:List Token) (i:Nat):((l.map (shT φ)).getD i default).n=(l.getD i default).n:=by
 by_cases h:i < l.length <;> simp [List.getD,h,shT]
theorem sh_pos {l:List Token} {i:Nat} (h:i < l.length):((l.map (shT φ)).getD i default).pos=φ (l.getD i default).pos:=by
 simp [List.getD,h,shT]
theorem isP_sh (x:Reader) (s:ByteArray):isP (shR φ x) s=isP x s:=by
 unfold isP shR
 simp only [List.length_map,sh_text,sh_kind]
theorem advP_sh (x:Reader):advP (shR φ x)=shR φ (advP x):=rfl
theorem errP_sh {x:Reader} (h:0≤x.at_) (e:Int):errP (shR φ x) e=shW φ (errP x e):=by
 unfold errP shW
 cases hd:decide (x.at_ < ((x.l.length:Nat):Int))
 ·have:decide ((shR φ x).at_ < (((shR φ x).l.length:Nat):Int))=false:=by show decide (x.at_ < (((x.l.map (shT φ)).length:Nat):Int))=false; rw [List.length_map]; exact hd
  rw [this]; rfl
 ·have:decide ((shR φ x).at_ < (((shR φ x).l.length:Nat):Int))=true:=by show decide (x.at_ < (((x.l.map (shT φ)).length:Nat):Int))=true; rw [List.length_map]; exact hd
  rw [this]
  have hd:=of_decide_eq_true hd
  simp only [cond_true]
  show (⟨((x.l.map (shT φ)).getD x.at_.toNat default).pos,e⟩:Wrong)=_
  rw [sh_pos φ (by omega)]
theorem take_sh (x:Reader) (s:ByteArray):rule_reader_take (shR φ x) s=((rule_reader_take x s).1,shR φ (rule_reader_take x s).2):=by
 rw [takeP_eq,takeP_eq,isP_sh]
 cases isP x s <;> rfl
end
theorem isP_lt {x:Reader} {s:ByteArray} (h:isP x s=true):x.at_ < (x.l.length:Int):=by
 unfold isP at h
 simp only [Bool.and_eq_true,decide_eq_true_eq] at h
 exact h.1.1
theorem adv_good {x:Reader} (h:Rgd x) (hl:x.at_ < (x.l.length:Int)):Rgd (advP x)∧(advP x).at_=x.at_+1:=by
 unfold Rgd at *
 have hw:w64 (x.at_+1)=x.at_+1:=w64_id (by omega) (by omega)
 unfold advP
 simp only [hw]
 exact ⟨⟨by omega,by omega,by omega,by omega⟩,trivial⟩
theorem need_good {x y:Reader} {s:ByteArray} (h:Rgd x) (hy:rule_reader_need x s=.ok y):y=advP x∧Rgd y∧y.at_=x.at_+1:=by
 rw [needP_eq] at hy
 cases hi:isP x s with
 | false=>rw [hi] at hy; cases hy
 | true =>
  rw [hi] at hy
  cases hy
  have:=adv_good h (isP_lt hi)
  exact ⟨rfl,this.1,this.2⟩
theorem take_good {x:Reader} {s:ByteArray} (h:Rgd x):Rgd (rule_reader_take x s).2∧x.at_≤(rule_reader_take x s).2.at_∧(rule_reader_take x s).2.l=x.l:=by
 rw [takeP_eq]
 cases hi:isP x s with
 | false=>exact ⟨h,Int.le_refl _,rfl⟩
 | true =>
  have:=adv_good h (isP_lt hi)
  exact ⟨this.1,by show x.at_≤(advP x).at_; omega,rfl⟩
theorem name_good {x:Reader} {a:ByteArray × Reader} (hy:rule_reader_name x=.ok a):a.2=x∧x.at_ < (x.l.length:Int):=by
 rw [nameP_eq] at hy
 cases hc:(decide (x.at_≥((x.l.length:Nat):Int)))||(((x.l.getD x.at_.toNat default).kind) != 0) with
 | true=>rw [hc] at hy; cases hy
 | false =>
  rw [hc] at hy
  cases hy
  simp only [Bool.or_eq_false_iff,decide_eq_false_iff_not] at hc
  exact ⟨rfl,by omega⟩
theorem one_good {x:Reader} {names:List ByteArray} {a:Int × Reader} (hy:rule_reader_one x names=.ok a):a.2=x∧x.at_ < (x.l.length:Int):=by
 rw [oneP_eq] at hy
 cases hn:rule_reader_name x with
 | error e=>rw [hn] at hy; cases hy
 | ok b =>
  rw [hn] at hy
  have hb:=name_good hn
  have hy:(bif decide (slices_IndexS names b.1 < 0) then .error (errP b.2 10) else .ok (slices_IndexS names b.1,b.2):Except Wrong (Int × Reader))=.ok a:=hy
  cases hc:decide (slices_IndexS names b.1 < 0) with
  | true=>rw [hc] at hy; cases hy
  | false=>rw [hc] at hy; cases hy; exact hb
section
variable (φ : Int → Int)
theorem need_sh {x:Reader} (h:0≤x.at_) (s:ByteArray):rule_reader_need (shR φ x) s=mapX φ (shR φ) (rule_reader_need x s):=by
 rw [needP_eq,needP_eq,isP_sh,errP_sh φ h]
 cases isP x s <;> rfl
theorem name_sh {x:Reader} (h:0≤x.at_):rule_reader_name (shR φ x)=mapX φ (fun a=>(a.1,shR φ a.2)) (rule_reader_name x):=by
 rw [nameP_eq,nameP_eq,errP_sh φ h]
 have e:((decide ((shR φ x).at_≥(((shR φ x).l.length:Nat):Int)))||((((shR φ x).l.getD (shR φ x).at_.toNat default).kind) != 0))=((decide (x.at_≥((x.l.length:Nat):Int)))||(((x.l.getD x.at_.toNat default).kind) != 0)):=by
  unfold shR
  simp only [List.length_map,sh_kind]
 have e2:((shR φ x).l.getD (shR φ x).at_.toNat default).text=(x.l.getD x.at_.toNat default).text:=sh_text φ _ _
 rw [e,e2]
 cases (decide (x.at_≥((x.l.length:Nat):Int)))||(((x.l.getD x.at_.toNat default).kind) != 0) <;> rfl
theorem one_sh {x:Reader} (h:0≤x.at_) (names:List ByteArray):rule_reader_one (shR φ x) names=mapX φ (fun a=>(a.1,shR φ a.2)) (rule_reader_one x names):=by
 rw [oneP_eq,oneP_eq]
 refine bindE_map (name_sh φ h) fun a ha=>?_
 have hb:=name_good ha
 simp only
 rw [errP_sh φ (by rw [hb.1]; exact h)]
 cases decide (slices_IndexS names a.1 < 0) <;> rfl
abbrev pr (a:Term × Reader):Term × Reader:=(a.1,shR φ a.2)
structure AtomOK (rv:Reader→Except Wrong (Term × Reader)) (x:Reader):Prop where
 sh:∀ y,Rgd y→y.l.length=x.l.length→x.at_≤y.at_→rv (shR φ y)=mapX φ (pr φ) (rv y)
 ps:∀ y a,Rgd y→y.l.length=x.l.length→x.at_≤y.at_→rv y=.ok a→Rgd a.2∧a.2.l.length=y.l.length∧y.at_ < a.2.at_
theorem termP_sh {rv:Reader→Except Wrong (Term × Reader)} {x:Reader} (hg:Rgd x) (H:AtomOK φ rv x):termP rv (shR φ x)=mapX φ (pr φ) (termP rv x):=by
 rw [termP_ops,termP_ops,isP_sh,isP_sh,advP_sh]
 cases h1:isP x (⟨#[110,111,116]⟩:ByteArray)
 ·simp only [cond_false]
  cases h2:isP x (⟨#[105,102]⟩:ByteArray)
  ·simp only [cond_false]
   refine bindE_map (H.sh x hg rfl (Int.le_refl _)) fun a ha=>?_
   have q:=H.ps x a hg rfl (Int.le_refl _) ha
   unfold opsF
   have e:(fun o:Int × ByteArray=>isP (pr φ a).2 o.2)=fun o=>isP a.2 o.2:=by funext o; exact isP_sh φ _ _
   rw [e]
   cases hf:rule_operators.find? fun o=>isP a.2 o.2 with
   | none=>rfl
   | some o =>
    have ho:=List.find?_some hf
    have g:=adv_good q.1 (isP_lt ho)
    exact bindE_map (H.sh (advP a.2) g.1 q.2.1 (by omega)) fun b hb=>rfl
  ·simp only [cond_true]
   have g:=adv_good hg (isP_lt h2)
   refine bindE_map (H.sh (advP x) g.1 rfl (by omega)) fun a ha=>?_
   have q:=H.ps (advP x) a g.1 rfl (by omega) ha
   refine bindE_map (need_sh φ q.1.1 _) fun y hy=>?_
   have gy:=need_good q.1 hy
   have ly:y.l.length=x.l.length:=by rw [gy.1]; exact q.2.1
   refine bindE_map (H.sh y gy.2.1 ly (by omega)) fun b hb=>?_
   have qb:=H.ps y b gy.2.1 ly (by omega) hb
   refine bindE_map (need_sh φ qb.1.1 _) fun z hz=>?_
   have gz:=need_good qb.1 hz
   have lz:z.l.length=x.l.length:=by rw [gz.1]; exact qb.2.1.trans ly
   exact bindE_map (H.sh z gz.2.1 lz (by omega)) fun c hc=>rfl
 ·simp only [cond_true]
  have g:=adv_good hg (isP_lt h1)
  exact bindE_map (H.sh (advP x) g.1 rfl (by omega)) fun a ha=>rfl
end
theorem atom_ps {fu:Nat} {y:Reader} {a:Term × Reader} (hg:Rgd y) (hm:y.l.length - y.at_.toNat+1≤fu) (h:rule_reader_atom_n fu y=.ok a):Rgd a.2∧a.2.l.length=y.l.length∧y.at_ < a.2.at_:=by
 have hp:OkP (fun a:Term × Reader=>Rs y a.2∧y.at_+1≤a.2.at_) (rule_reader_atom_n fu y):=(rule_reader_atom_fnN fu y hm hg).2
 rw [h] at hp
 obtain ⟨⟨h1,h2,h3,h4⟩,h5⟩:=hp
 unfold Rgd at *
 exact ⟨⟨by omega,by omega,by omega,by omega⟩,h1,by omega⟩
theorem term_ps {fu:Nat} {x:Reader} {a:Term × Reader} (hg:Rgd x) (hm:x.l.length - x.at_.toNat+1≤fu) (h:termP (rule_reader_atom_n fu) x=.ok a):Rgd a.2∧a.2.l.length=x.l.length∧x.at_ < a.2.at_:=by
 have hp:=rule_reader_term_w_post (rule_reader_atom_n fu) (fun y=>y.l.length - y.at_.toNat+1≤fu∧Rgd y) (fun y h=>rule_reader_atom_fnN fu y h.1 h.2) x ⟨hg,fun y hy hr=>⟨by have:=hr.2.2.1; have:=hr.1; omega,hy⟩⟩
 rw [termW_eq,h] at hp
 obtain ⟨⟨h1,h2,h3,h4⟩,h5⟩:=hp
 unfold Rgd at *
 exact ⟨⟨by omega,by omega,by omega,by omega⟩,h1,by omega⟩
section
variable (φ : Int → Int)
theorem numC_sh (y:Reader):((decide ((shR φ y).at_ < (((shR φ y).l.length:Nat):Int)))&&((((shR φ y).l.getD (shR φ y).at_.toNat default).kind) == 1))=((decide (y.at_ < ((y.l.length:Nat):Int)))&&(((y.l.getD y.at_.toNat default).kind) == 1)):=by
 unfold shR
 simp only [List.length_map,sh_kind]
theorem numN_sh (y:Reader):((shR φ y).l.getD (shR φ y).at_.toNat default).n=(y.l.getD y.at_.toNat default).n:=sh_n φ _ _
theorem atom_sh:∀ (fu:Nat) (x:Reader),Rgd x→x.l.length - x.at_.toNat+1≤fu→rule_reader_atom_n fu (shR φ x)=mapX φ (pr φ) (rule_reader_atom_n fu x)
 | 0,x,_,h=>absurd h (by omega)
 | fu+1,x,hg,hm=>by
  rw [atom_succ,atom_succ]
  unfold atomP
  rw [isP_sh,isP_sh,isP_sh,isP_sh,advP_sh,advP_sh,numC_sh,numC_sh,numN_sh,numN_sh]
  cases h1:isP x (⟨#[40]⟩:ByteArray)
  ·simp only [cond_false]
   cases h2:isP x (⟨#[116,114,117,101]⟩:ByteArray)
   ·simp only [cond_false]
    cases h3:isP x (⟨#[102,97,108,115,101]⟩:ByteArray)
    ·simp only [cond_false]
     cases h4:isP x (⟨#[45]⟩:ByteArray)
     ·simp only [cond_false]
      cases (decide (x.at_ < ((x.l.length:Nat):Int)))&&(((x.l.getD x.at_.toNat default).kind) == 1)
      ·simp only [cond_false]
       exact bindE_map (one_sh φ hg.1 _) fun a ha=>rfl
      ·rfl
     ·simp only [cond_true]
      have g:=adv_good hg (isP_lt h4)
      rw [errP_sh φ g.1.1]
      cases (decide ((advP x).at_ < (((advP x).l.length:Nat):Int)))&&((((advP x).l.getD (advP x).at_.toNat default).kind) == 1) <;> rfl
    ·rfl
   ·rfl
  ·simp only [cond_true]
   have g:=adv_good hg (isP_lt h1)
   have hm2:(advP x).l.length - (advP x).at_.toNat+1≤fu:=by
    have e:(advP x).l=x.l:=rfl
    have:=isP_lt h1
    have:=hg.1
    rw [e,g.2]; omega
   have H:AtomOK φ (rule_reader_atom_n fu) (advP x):=⟨fun y hy hl ha=>atom_sh fu y hy (by have:=hy.1; have:=g.1.1; omega),fun y a hy hl ha hr=>atom_ps hy (by have:=hy.1; have:=g.1.1; omega) hr⟩
   refine bindE_map (termP_sh φ g.1 H) fun a ha=>?_
   have q:=term_ps g.1 hm2 ha
   exact bindE_map (need_sh φ q.1.1 _) fun y hy=>rfl
theorem atomF_sh {x:Reader} (hg:Rgd x):rule_reader_atom (shR φ x)=mapX φ (pr φ) (rule_reader_atom x):=by
 have e:(shR φ x).l.length=x.l.length:=by unfold shR; simp
 have:=atom_sh φ (x.l.length - x.at_.toNat+1) x hg (Nat.le_refl _)
 unfold rule_reader_atom
 rw [e]
 exact this
theorem atomF_ps {y:Reader} {a:Term × Reader} (hg:Rgd y) (h:rule_reader_atom y=.ok a):Rgd a.2∧a.2.l.length=y.l.length∧y.at_ < a.2.at_:=atom_ps hg (Nat.le_refl _) h
theorem term_sh {x:Reader} (hg:Rgd x):rule_reader_term (shR φ x)=mapX φ (pr φ) (rule_reader_term x):=by
 rw [termP_eq,termP_eq]
 exact termP_sh φ hg ⟨fun y hy _ _=>atomF_sh φ hy,fun y a hy _ _ hr=>atomF_ps hy hr⟩
end
theorem termF_ps {x:Reader} {a:Term × Reader} (hg:Rgd x) (h:rule_reader_term x=.ok a):Rgd a.2∧a.2.l.length=x.l.length∧x.at_ < a.2.at_:=by
 have hp:=rule_reader_term_post x hg
 rw [h] at hp
 obtain ⟨⟨h1,h2,h3,h4⟩,h5⟩:=hp
 unfold Rgd at *
 exact ⟨⟨by omega,by omega,by omega,by omega⟩,h1,by omega⟩
theorem bindE_ok {E α β:Type} {v:Except E α} {f:α→Except E β} {b:β} (h:bindE v f=.ok b):∃ a,v=.ok a∧f a=.ok b:=by
 cases v with
 | error e=>cases h
 | ok a=>exact ⟨a,rfl,h⟩
theorem cond_okF {E α:Type} {c:Bool} {e:E} {v:Except E α} {a:α} (h:(bif c then .error e else v)=.ok a):c=false∧v=.ok a:=by
 cases c
 ·exact ⟨rfl,h⟩
 ·cases h
theorem cond_okT {E α:Type} {c:Bool} {e:E} {v:Except E α} {a:α} (h:(bif c then v else .error e)=.ok a):c=true∧v=.ok a:=by
 cases c
 ·cases h
 ·exact ⟨rfl,h⟩
theorem choice_good {x:Reader} {o:Order} {p:Reader × Order} (hg:Rgd x) (h:rule_reader_choice x o=.ok p):Rgd p.1∧p.1.l.length=x.l.length∧x.at_ < p.1.at_:=by
 rw [choiceP_eq] at h
 obtain ⟨a,ha,h⟩:=bindE_ok h
 have ga:=one_good ha
 obtain ⟨-,h⟩:=cond_okF h
 obtain ⟨y,hy,h⟩:=bindE_ok h
 rw [ga.1] at hy
 have g1:=adv_good hg ga.2
 have gy:=need_good g1.1 hy
 obtain ⟨b,hb,h⟩:=bindE_ok h
 have gb:=one_good hb
 obtain ⟨z,hz,h⟩:=bindE_ok h
 rw [gb.1] at hz
 have g2:=adv_good gy.2.1 gb.2
 have gt:=take_good (s:=(⟨#[119,104,111,108,101]⟩:ByteArray)) g2.1
 have gz:=need_good gt.1 hz
 cases h
 refine ⟨gz.2.1,?_,by show x.at_ < z.at_; omega⟩
 show z.l.length=_
 rw [gz.1]
 show (rule_reader_take (advP y) _).2.l.length=_
 rw [gt.2.2]
 show y.l.length=_
 rw [gy.1]
 rfl
theorem rule_good {x:Reader} {o:Order} {p:Reader × Order} (hg:Rgd x) (h:rule_reader_rule x o=.ok p):Rgd p.1∧p.1.l.length=x.l.length∧x.at_ < p.1.at_:=by
 rw [ruleP_eq] at h
 obtain ⟨a,ha,h⟩:=bindE_ok h
 have ga:=one_good ha
 obtain ⟨-,h⟩:=cond_okF h
 obtain ⟨y,hy,h⟩:=bindE_ok h
 rw [ga.1] at hy
 have g1:=adv_good hg ga.2
 have gy:=need_good g1.1 hy
 obtain ⟨t,ht,h⟩:=bindE_ok h
 have gt:=termF_ps gy.2.1 ht
 obtain ⟨hi,h⟩:=cond_okT h
 obtain ⟨-,h⟩:=cond_okF h
 have g2:=adv_good gt.1 (isP_lt hi)
 cases h
 refine ⟨g2.1,?_,by show x.at_ < (advP t.2).at_; omega⟩
 show t.2.l.length=_
 rw [gt.2.1,gy.1]
 rfl
section
variable (φ : Int → Int)
theorem choice_sh {x:Reader} (hg:Rgd x) (o:Order):rule_reader_choice (shR φ x) o=mapX φ (fun p=>(shR φ p.1,p.2)) (rule_reader_choice x o):=by
 rw [choiceP_eq,choiceP_eq]
 refine bindE_map (one_sh φ hg.1 _) fun a ha=>?_
 have ga:=one_good ha
 simp only
 rw [errP_sh φ (by rw [ga.1]; exact hg.1),advP_sh]
 cases slices_ContainsFunc_89 o.choices a.1
 ·simp only [cond_false]
  have g1:=adv_good hg ga.2
  rw [ga.1]
  refine bindE_map (need_sh φ g1.1.1 _) fun y hy=>?_
  have gy:=need_good g1.1 hy
  refine bindE_map (one_sh φ gy.2.1.1 _) fun b hb=>?_
  have gb:=one_good hb
  simp only
  rw [advP_sh,take_sh,gb.1]
  have g2:=adv_good gy.2.1 gb.2
  have gt:=take_good (s:=(⟨#[119,104,111,108,101]⟩:ByteArray)) g2.1
  exact bindE_map (need_sh φ gt.1.1 _) fun z hz=>rfl
 ·rfl
theorem rule_sh {x:Reader} (hg:Rgd x) (o:Order):rule_reader_rule (shR φ x) o=mapX φ (fun p=>(shR φ p.1,p.2)) (rule_reader_rule x o):=by
 rw [ruleP_eq,ruleP_eq]
 refine bindE_map (one_sh φ hg.1 _) fun a ha=>?_
 have ga:=one_good ha
 simp only
 rw [errP_sh φ (by rw [ga.1]; exact hg.1),advP_sh]
 cases slices_ContainsFunc_91 o.rules a.1
 ·simp only [cond_false]
  have g1:=adv_good hg ga.2
  rw [ga.1]
  refine bindE_map (need_sh φ g1.1.1 _) fun y hy=>?_
  have gy:=need_good g1.1 hy
  refine bindE_map (term_sh φ gy.2.1) fun t ht=>?_
  have gt:=termF_ps gy.2.1 ht
  simp only
  rw [isP_sh,errP_sh φ gt.1.1,errP_sh φ gt.1.1,advP_sh]
  cases isP t.2 (⟨#[59]⟩:ByteArray)
  ·rfl
  ·simp only [cond_true]
   cases (term_Check t.1).2 == 6 <;> rfl
 ·rfl
theorem iter_map {α β ι κ:Type} {f:ι→α ⊕ ι} {f':κ→β ⊕ κ} {S:ι→κ} {A:α→β} {d:α} {d':β} (I:ι→Prop) (m:ι→Nat) (h:∀ i,I i→(∃ a,f i=.inl a∧f' (S i)=.inl (A a))∨∃ j,f i=.inr j∧f' (S i)=.inr (S j)∧I j∧m j < m i) :
  ∀ (n:Nat) (i:ι),I i→m i < n→iter f' d' n (S i)=A (iter f d n i)
 | 0,i,_,hn=>absurd hn (Nat.not_lt_zero _)
 | n+1,i,hi,hn=>by
  unfold iter
  rcases h i hi with ⟨a,h1,h2⟩ | ⟨j,h1,h2,h3,h4⟩
  ·rw [h1,h2]
  ·rw [h1,h2]
   exact iter_map I m h n j h3 (by omega)
def bmap:Except Wrong Reader ⊕ (Order × Reader)→Except Wrong Reader ⊕ (Order × Reader)
 | .inl v=>.inl (mapX φ (shR φ) v)
 | .inr b=>.inr (b.1,shR φ b.2)
theorem body_sh (i:Order × Reader) (hg:Rgd i.2):bodyL (i.1,shR φ i.2)=bmap φ (bodyL i):=by
 unfold bodyL
 have e:(shR φ i.2).l.length=i.2.l.length:=by unfold shR; simp
 show iter bodyP default ((shR φ i.2).l.length - i.2.at_.toNat+1) _=_
 rw [e]
 refine iter_map (S:=fun i:Order × Reader=>(i.1,shR φ i.2)) (A:=bmap φ) (fun i=>Rgd i.2) (fun i=>i.2.l.length - i.2.at_.toNat) (fun i hi=>?_) _ i hg (Nat.lt_succ_self _)
 unfold bodyP
 simp only
 rw [isP_sh,isP_sh,isP_sh,advP_sh,errP_sh φ hi.1]
 cases h1:isP i.2 (⟨#[125]⟩:ByteArray)
 ·simp only [cond_false]
  cases h2:isP i.2 (⟨#[99,104,111,111,115,101]⟩:ByteArray)
  ·simp only [cond_false]
   cases h3:isP i.2 (⟨#[114,117,108,101]⟩:ByteArray)
   ·left; exact ⟨_,rfl,rfl⟩
   ·simp only [cond_true]
    have g:=adv_good hi (isP_lt h3)
    rw [rule_sh φ g.1]
    cases hr:rule_reader_rule (advP i.2) i.1 with
    | error e=>left; exact ⟨_,rfl,rfl⟩
    | ok p =>
     have gp:=rule_good g.1 hr
     right
     refine ⟨_,rfl,rfl,gp.1,?_⟩
     have e2:(advP i.2).l.length=i.2.l.length:=rfl
     have:=isP_lt h3
     have:=hi.1
     show p.1.l.length - p.1.at_.toNat < _
     omega
  ·simp only [cond_true]
   have g:=adv_good hi (isP_lt h2)
   rw [choice_sh φ g.1]
   cases hr:rule_reader_choice (advP i.2) i.1 with
   | error e=>left; exact ⟨_,rfl,rfl⟩
   | ok p =>
    have gp:=choice_good g.1 hr
    right
    refine ⟨_,rfl,rfl,gp.1,?_⟩
    have e2:(advP i.2).l.length=i.2.l.length:=rfl
    have:=isP_lt h2
    have:=hi.1
    show p.1.l.length - p.1.at_.toNat < _
    omega
 ·left; exact ⟨_,rfl,rfl⟩
theorem order_sh {x:Reader} (hg:Rgd x):rule_reader_order (shR φ x)=mapX φ (shR φ) (rule_reader_order x):=by
 rw [orderP_eq,orderP_eq]
 refine bindE_map (need_sh φ hg.1 _) fun a ha=>?_
 have ga:=need_good hg ha
 refine bindE_map (name_sh φ ga.2.1.1) fun b hb=>?_
 have gb:=name_good hb
 simp only
 have gb2:Rgd b.2:=by rw [gb.1]; exact ga.2.1
 rw [errP_sh φ gb2.1,errP_sh φ gb2.1,advP_sh,take_sh]
 show (bif slices_ContainsFunc_44 b.2.list _ then _ else bif ((b.2.list.length:Nat):Int) == 20 then _ else _)=_
 cases slices_ContainsFunc_44 b.2.list ({ name:=b.1,accepts:=false,choices:=[],rules:=[] }:Order)
 ·simp only [cond_false]
  cases ((b.2.list.length:Nat):Int) == 20
  ·simp only [cond_false]
   have g1:=adv_good gb2 (by rw [gb.1]; exact gb.2)
   have gt:=take_good (s:=(⟨#[97,99,99,101,112,116,115]⟩:ByteArray)) g1.1
   refine bindE_map (need_sh φ gt.1.1 _) fun d hd=>?_
   have gd:=need_good gt.1 hd
   rw [body_sh φ (_,d) gd.2.1]
   cases bodyL (({ name:=b.1,accepts:=(rule_reader_take (advP b.2) (⟨#[97,99,99,101,112,116,115]⟩:ByteArray)).1,choices:=[],rules:=[] }:Order),d) with
   | inl v=>rfl
   | inr c=>rfl
  ·rfl
 ·rfl
theorem order_good {x y:Reader} (hg:Rgd x) (h:rule_reader_order x=.ok y):Rgd y∧y.l.length=x.l.length∧x.at_ < y.at_:=by
 have hp:=rule_reader_order_post x hg
 rw [h] at hp
 obtain ⟨h1,h2,h3,h4⟩:=hp
 unfold Rgd at *
 exact ⟨⟨by omega,by omega,by omega,by omega⟩,h1,by omega⟩
theorem read_sh {x:Reader} (hg:Rgd x):readP (shR φ x)=mapX φ id (readP x):=by
 unfold readP
 have e:(shR φ x).l.length=x.l.length:=by unfold shR; simp
 rw [e]
 have:=iter_map (f:=ordersP) (f':=ordersP) (S:=shR φ) (A:=fun v:Except Wrong (List Order) ⊕ Reader=>match v with | .inl w=>.inl (mapX φ id w) | .inr b=>.inr (shR φ b)) (d:=default) (d':=default) (fun i=>Rgd i) (fun i=>i.l.length - i.at_.toNat) (fun i hi=>by
  have e:(shR φ i).l.length=i.l.length:=by unfold shR; simp
  unfold ordersP
  rw [e,order_sh φ hi]
  show (∃ a,_∧(bif decide (i.at_ < _) then _ else _)=_)∨∃ j,_∧(bif decide (i.at_ < _) then _ else _)=_∧_
  cases hd:decide (i.at_ < ((i.l.length:Nat):Int))
  ·left; exact ⟨_,rfl,rfl⟩
  ·simp only [cond_true]
   cases hr:rule_reader_order i with
   | error e=>left; exact ⟨_,rfl,rfl⟩
   | ok y =>
    have gy:=order_good hi hr
    right
    refine ⟨_,rfl,rfl,gy.1,?_⟩
    have:=of_decide_eq_true hd
    have:=hi.1
    omega) (x.l.length - x.at_.toNat+1) x hg (Nat.lt_succ_self _)
 show pickS (iter ordersP default (x.l.length - x.at_.toNat+1) (shR φ x)) _=_
 rw [this]
 cases iter ordersP default (x.l.length - x.at_.toNat+1) x with
 | inl w=>rfl
 | inr b=>rfl
end
def NZ {α:Type} (v:Except Wrong α):Prop:=∀ w,v=.error w→w.e≠0
theorem nz_ok {α:Type} (a:α):NZ (.ok a):=fun w h=>by cases h
theorem nz_err {α:Type} (x:Reader) {e:Int} (h:e≠0):NZ (.error (errP x e):Except Wrong α):=fun w hw=>by cases hw; exact h
theorem nz_bind {α β:Type} {v:Except Wrong α} {f:α→Except Wrong β} (h:NZ v) (hf:∀ a,v=.ok a→NZ (f a)):NZ (bindE v f):=by
 cases v with
 | error e=>exact fun w hw=>h w (by cases hw; rfl)
 | ok a=>exact hf a rfl
theorem nz_cond {α:Type} {c:Bool} {v w:Except Wrong α} (h:c=true→NZ v) (h2:c=false→NZ w):NZ (bif c then v else w):=by
 cases c
 ·exact h2 rfl
 ·exact h rfl
theorem need_nz (x:Reader) (s:ByteArray):NZ (rule_reader_need x s):=by
 rw [needP_eq]
 exact nz_cond (fun _=>nz_ok _) (fun _=>nz_err _ (by decide))
theorem name_nz (x:Reader):NZ (rule_reader_name x):=by
 rw [nameP_eq]
 exact nz_cond (fun _=>nz_err _ (by decide)) (fun _=>nz_ok _)
theorem one_nz (x:Reader) (names:List ByteArray):NZ (rule_reader_one x names):=by
 rw [oneP_eq]
 exact nz_bind (name_nz x) fun a _=>nz_cond (fun _=>nz_err _ (by decide)) (fun _=>nz_ok _)
theorem termP_nz {rv:Reader→Except Wrong (Term × Reader)} {x:Reader} (hg:Rgd x) (H:∀ y,Rgd y→y.l.length=x.l.length→x.at_≤y.at_→NZ (rv y)) (HP:AtomOK id rv x):NZ (termP rv x):=by
 rw [termP_ops]
 refine nz_cond (fun h1=>?_) fun h1=>nz_cond (fun h2=>?_) fun h2=>?_
 ·have g:=adv_good hg (isP_lt h1)
  exact nz_bind (H _ g.1 rfl (by omega)) fun a _=>nz_ok _
 ·have g:=adv_good hg (isP_lt h2)
  refine nz_bind (H _ g.1 rfl (by omega)) fun a ha=>nz_bind (need_nz _ _) fun y hy=>?_
  have q:=HP.ps (advP x) a g.1 rfl (by omega) ha
  have gy:=need_good q.1 hy
  have ly:y.l.length=x.l.length:=by rw [gy.1]; exact q.2.1
  refine nz_bind (H _ gy.2.1 ly (by omega)) fun b hb=>nz_bind (need_nz _ _) fun z hz=>?_
  have qb:=HP.ps y b gy.2.1 ly (by omega) hb
  have gz:=need_good qb.1 hz
  have lz:z.l.length=x.l.length:=by rw [gz.1]; exact qb.2.1.trans ly
  exact nz_bind (H _ gz.2.1 lz (by omega)) fun c _=>nz_ok _
 ·refine nz_bind (H _ hg rfl (Int.le_refl _)) fun a ha=>?_
  have q:=HP.ps x a hg rfl (Int.le_refl _) ha
  unfold opsF
  cases hf:rule_operators.find? fun o=>isP a.2 o.2 with
  | none=>exact nz_ok _
  | some o =>
   have ho:=List.find?_some hf
   have g:=adv_good q.1 (isP_lt ho)
   exact nz_bind (H _ g.1 q.2.1 (by omega)) fun b _=>nz_ok _
theorem atomOK_n {fu:Nat} {x:Reader} (hg:Rgd x) (hm:x.l.length - x.at_.toNat+1≤fu):AtomOK id (rule_reader_atom_n fu) x :=
 ⟨fun y hy hl ha=>atom_sh id fu y hy (by have:=hy.1; have:=hg.1; omega),fun y a hy hl ha hr=>atom_ps hy (by have:=hy.1; have:=hg.1; omega) hr⟩
theorem atom_nz:∀ (fu:Nat) (x:Reader),Rgd x→x.l.length - x.at_.toNat+1≤fu→NZ (rule_reader_atom_n fu x)
 | 0,x,_,h=>absurd h (by omega)
 | fu+1,x,hg,hm=>by
  rw [atom_succ]
  unfold atomP
  refine nz_cond (fun h1=>?_) fun _=>nz_cond (fun _=>nz_ok _) fun _=>nz_cond (fun _=>nz_ok _) fun _=>nz_cond (fun _=>nz_cond (fun _=>nz_ok _) fun _=>nz_err _ (by decide)) fun _=>nz_cond (fun _=>nz_ok _) fun _=>nz_bind (one_nz _ _) fun a _=>nz_ok _
  have g:=adv_good hg (isP_lt h1)
  have hm2:(advP x).l.length - (advP x).at_.toNat+1≤fu:=by
   have e:(advP x).l=x.l:=rfl
   have:=isP_lt h1
   have:=hg.1
   rw [e,g.2]; omega
  exact nz_bind (termP_nz g.1 (fun y hy hl ha=>atom_nz fu y hy (by have:=hy.1; have:=g.1.1; omega)) (atomOK_n g.1 hm2)) fun a _=>nz_bind (need_nz _ _) fun y _=>nz_ok _
theorem term_nz {x:Reader} (hg:Rgd x):NZ (rule_reader_term x):=by
 rw [termP_eq]
 exact termP_nz hg (fun y hy _ _=>atom_nz _ y hy (Nat.le_refl _)) ⟨fun y hy _ _=>atomF_sh id hy,fun y a hy _ _ hr=>atomF_ps hy hr⟩
theorem choice_nz (x:Reader) (o:Order):NZ (rule_reader_choice x o):=by
 rw [choiceP_eq]
 exact nz_bind (one_nz _ _) fun a _=>nz_cond (fun _=>nz_err _ (by decide)) fun _=>nz_bind (need_nz _ _) fun y _=>nz_bind (one_nz _ _) fun b _=>nz_bind (need_nz _ _) fun z _=>nz_ok _
theorem rule_nz {x:Reader} (hg:Rgd x) (o:Order):NZ (rule_reader_rule x o):=by
 rw [ruleP_eq]
 refine nz_bind (one_nz _ _) fun a ha=>nz_cond (fun _=>nz_err _ (by decide)) fun _=>nz_bind (need_nz _ _) fun y hy=>?_
 have ga:=one_good ha
 rw [ga.1] at hy
 have g1:=adv_good hg ga.2
 have gy:=need_good g1.1 hy
 exact nz_bind (term_nz gy.2.1) fun t _=>nz_cond (fun _=>nz_cond (fun _=>nz_err _ (by decide)) fun _=>nz_ok _) fun _=>nz_err _ (by decide)
theorem iter_inv {α ι:Type} {f:ι→α ⊕ ι} {d:α} (I:ι→Prop) (m:ι→Nat) (L:α→Prop) (h:∀ i,I i→(∃ a,f i=.inl a∧L a)∨∃ j,f i=.inr j∧I j∧m j < m i):∀ (n:Nat) (i:ι),I i→m i < n→L (iter f d n i)
 | 0,i,_,hn=>absurd hn (Nat.not_lt_zero _)
 | n+1,i,hi,hn=>by
  unfold iter
  rcases h i hi with ⟨a,h1,h2⟩ | ⟨j,h1,h3,h4⟩
  ·rw [h1]; exact h2
  ·rw [h1]; exact iter_inv I m L h n j h3 (by omega)
theorem body_nz (i:Order × Reader) (hg:Rgd i.2):∀ v,bodyL i=.inl v→NZ v:=by
 unfold bodyL
 refine iter_inv (fun i=>Rgd i.2) (fun i=>i.2.l.length - i.2.at_.toNat) (fun r:Except Wrong Reader ⊕ (Order × Reader)=>∀ v,r=.inl v→NZ v) (fun i hi=>?_) _ i hg (Nat.lt_succ_self _)
 unfold bodyP
 cases h1:isP i.2 (⟨#[125]⟩:ByteArray)
 ·simp only [cond_false]
  cases h2:isP i.2 (⟨#[99,104,111,111,115,101]⟩:ByteArray)
  ·simp only [cond_false]
   cases h3:isP i.2 (⟨#[114,117,108,101]⟩:ByteArray)
   ·left; exact ⟨_,rfl,fun v hv=>by cases hv; exact nz_err _ (by decide)⟩
   ·simp only [cond_true]
    have g:=adv_good hi (isP_lt h3)
    cases hr:rule_reader_rule (advP i.2) i.1 with
    | error e=>left; exact ⟨_,rfl,fun v hv=>by cases hv; exact fun w hw=>by cases hw; exact rule_nz g.1 i.1 _ hr⟩
    | ok p =>
     have gp:=rule_good g.1 hr
     right
     refine ⟨_,rfl,gp.1,?_⟩
     have e2:(advP i.2).l.length=i.2.l.length:=rfl
     have:=isP_lt h3
     have:=hi.1
     show p.1.l.length - p.1.at_.toNat < _
     omega
  ·simp only [cond_true]
   have g:=adv_good hi (isP_lt h2)
   cases hr:rule_reader_choice (advP i.2) i.1 with
   | error e=>left; exact ⟨_,rfl,fun v hv=>by cases hv; exact fun w hw=>by cases hw; exact choice_nz _ i.1 _ hr⟩
   | ok p =>
    have gp:=choice_good g.1 hr
    right
    refine ⟨_,rfl,gp.1,?_⟩
    have e2:(advP i.2).l.length=i.2.l.length:=rfl
    have:=isP_lt h2
    have:=hi.1
    show p.1.l.length - p.1.at_.toNat < _
    omega
 ·left; exact ⟨_,rfl,fun v hv=>by cases hv⟩
theorem order_nz {x:Reader} (hg:Rgd x):NZ (rule_reader_order x):=by
 rw [orderP_eq]
 refine nz_bind (need_nz _ _) fun a ha=>nz_bind (name_nz _) fun b hb=>nz_cond (fun _=>nz_err _ (by decide)) fun _=>nz_cond (fun _=>nz_err _ (by decide)) fun _=>nz_bind (need_nz _ _) fun d hd=>?_
 have ga:=need_good hg ha
 have gb:=name_good hb
 have gb2:Rgd b.2:=by rw [gb.1]; exact ga.2.1
 have g1:=adv_good gb2 (by rw [gb.1]; exact gb.2)
 have gt:=take_good (s:=(⟨#[97,99,99,101,112,116,115]⟩:ByteArray)) g1.1
 have gd:=need_good gt.1 hd
 have hn:=body_nz (({ name:=b.1,accepts:=(rule_reader_take (advP b.2) (⟨#[97,99,99,101,112,116,115]⟩:ByteArray)).1,choices:=[],rules:=[] }:Order),d) gd.2.1
 cases hc:bodyL (({ name:=b.1,accepts:=(rule_reader_take (advP b.2) (⟨#[97,99,99,101,112,116,115]⟩:ByteArray)).1,choices:=[],rules:=[] }:Order),d) with
 | inl v=>exact hn v hc
 | inr c=>exact nz_ok _
theorem read_nz {x:Reader} (hg:Rgd x):NZ (readP x):=by
 unfold readP
 have:=iter_inv (f:=ordersP) (d:=default) (fun i=>Rgd i) (fun i=>i.l.length - i.at_.toNat) (fun r:Except Wrong (List Order) ⊕ Reader=>∀ v,r=.inl v→NZ v) (fun i hi=>by
  unfold ordersP
  cases hd:decide (i.at_ < ((i.l.length:Nat):Int))
  ·left; exact ⟨_,rfl,fun v hv=>by cases hv⟩
  ·simp only [cond_true]
   cases hr:rule_reader_order i with
   | error e=>left; exact ⟨_,rfl,fun v hv=>by cases hv; exact fun w hw=>by cases hw; exact order_nz hi _ hr⟩
   | ok y =>
    have gy:=order_good hi hr
    right
    refine ⟨_,rfl,gy.1,?_⟩
    have:=of_decide_eq_true hd
    have:=hi.1
    omega) (x.l.length - x.at_.toNat+1) x hg (Nat.lt_succ_self _)
 cases hc:iter ordersP default (x.l.length - x.at_.toNat+1) x with
 | inl v=>exact this v hc
 | inr b=>exact nz_ok _
theorem lexAll_pos:∀ (fu:Nat) (l:List UInt8) (p:Nat),l.length≤1000000→(∀ ts,lexAll fu l p=.ok ts→∀ t,t∈ts→(p:Int)≤t.pos∧t.pos≤((p+l.length:Nat):Int))∧∀ e,lexAll fu l p=.error e→e.2≠0∧e.1≤p+l.length
 | 0,_,_,_=>⟨fun ts h t ht=>(by cases h; cases ht),fun e h=>(by cases h)⟩
 | fu+1,l,p,hl=>by
  have g1:=gapS_le l false
  have hrl:(l.drop (gapS l false)).length=l.length - gapS l false:=List.length_drop
  show (∀ ts,lexStep (lexAll fu) l p=.ok ts→_)∧∀ e,lexStep (lexAll fu) l p=.error e→_
  unfold lexStep
  cases he:(l.drop (gapS l false)).isEmpty
  ·cases hn:(nextP (l.drop (gapS l false))).2.2 != 0
   ·have hb:=nextP_len (by omega) he hn
    have ih:=lexAll_pos fu ((l.drop (gapS l false)).drop (nextP (l.drop (gapS l false))).2.1.toNat) (p+gapS l false+(nextP (l.drop (gapS l false))).2.1.toNat) (by rw [List.length_drop]; omega)
    have hdl:((l.drop (gapS l false)).drop (nextP (l.drop (gapS l false))).2.1.toNat).length=l.length - gapS l false - (nextP (l.drop (gapS l false))).2.1.toNat:=by rw [List.length_drop,hrl]
    simp only [cond_false]
    cases hc:lexAll fu ((l.drop (gapS l false)).drop (nextP (l.drop (gapS l false))).2.1.toNat) (p+gapS l false+(nextP (l.drop (gapS l false))).2.1.toNat) with
    | ok ts0 =>
     have ih1:=ih.1 ts0 hc
     refine ⟨fun ts h t ht=>?_,fun e h=>(by cases h)⟩
     cases h
     rcases List.mem_cons.1 ht with rfl | ht
     ·simp only; omega
     ·have:=ih1 t ht
      omega
    | error e0 =>
     have ih2:=ih.2 e0 hc
     refine ⟨fun ts h=>(by cases h),fun e h=>?_⟩
     cases h
     exact ⟨ih2.1,by omega⟩
   ·simp only [cond_false,cond_true]
    refine ⟨fun ts h=>(by cases h),fun e h=>?_⟩
    cases h
    exact ⟨by simpa using hn,by show p+gapS l false≤_; omega⟩
  ·exact ⟨fun ts h t ht=>(by cases h; cases ht),fun e h=>(by cases h)⟩
def startP (s:ByteArray) (ts:List Token):Reader:={ l:=ts,at_:=0,end_:=s.size,list:=[] }
theorem parse_plain (s:ByteArray) (hs:s.size≤20000):rule_Parse s=match lexA s.data.toList 0 with
  | .error e=>([],((e.1:Nat):Int),e.2)
  | .ok ts=>match readP (startP s ts) with | .ok l=>(l,0,0) | .error w=>([],w.pos,w.e):=by
 rw [parseP_eq,scan_eq s hs]
 have hp:=(lexAll_pos (s.data.toList.length+1) s.data.toList 0 (by have:=bsize s; omega)).2
 cases hc:lexA s.data.toList 0 with
 | error e =>
  have:=(hp e hc).1
  have hb:(e.2 != 0)=true:=by simpa using this
  simp only [scanR,hb,cond_true]
 | ok ts=>rfl
theorem toks_len {s:ByteArray} (hs:s.size≤20000) {ts:List Token} (h:lexA s.data.toList 0=.ok ts):ts.length≤20000:=by
 have:=lex_Scan_post s
 rw [scan_eq s hs,h] at this
 exact this
theorem start_good {s:ByteArray} (hs:s.size≤20000) {ts:List Token} (h:lexA s.data.toList 0=.ok ts):Rgd (startP s ts):=by
 have:=toks_len hs h
 unfold Rgd startP
 exact ⟨Int.le_refl _,Int.natCast_nonneg _,this,Nat.zero_le _⟩
def clampP (B p:Int):Int:=if p < 0 then 0 else if B < p then B else p
theorem parse_err {s:ByteArray} (hs:s.size≤20000):((rule_Parse s).2.2=0→(rule_Parse s).2.1=0)∧((rule_Parse s).2.2≠0→(rule_Parse s).1=[]∧0≤(rule_Parse s).2.1∧(rule_Parse s).2.1≤(s.size:Int)):=by
 have hN:=bsize s
 rw [parse_plain s hs]
 have hp:=lexAll_pos (s.data.toList.length+1) s.data.toList 0 (by omega)
 cases hc:lexA s.data.toList 0 with
 | error e =>
  have:=hp.2 e hc
  dsimp only
  exact ⟨fun h=>absurd h this.1,fun _=>⟨rfl,Int.natCast_nonneg _,by show ((e.1:Nat):Int)≤_; omega⟩⟩
 | ok ts =>
  have hpos:=hp.1 ts hc
  have hg:=start_good hs hc
  dsimp only
  cases hr:readP (startP s ts) with
  | ok l=>dsimp only; exact ⟨fun _=>rfl,fun h=>absurd rfl h⟩
  | error w =>
   dsimp only
   refine ⟨fun h=>absurd h (read_nz hg w hr),fun _=>⟨rfl,?_⟩⟩
   have hsh:=read_sh (clampP s.size) hg
   have e:shR (clampP s.size) (startP s ts)=startP s ts:=by
    unfold shR startP
    have e1:ts.map (shT (clampP s.size))=ts:=by
     conv=>rhs; rw [← List.map_id ts]
     refine List.map_congr_left fun t ht=>?_
     have:=hpos t ht
     unfold shT clampP
     rw [if_neg (by omega),if_neg (by omega)]
     rfl
    have e2:clampP s.size s.size=s.size:=by
     unfold clampP
     rw [if_neg (by omega),if_neg (by omega)]
    simp only [e1,e2]
   rw [e,hr] at hsh
   have hw:w.pos=clampP s.size w.pos:=by
    have:(Except.error w:Except Wrong (List Order))=.error (shW (clampP s.size) w):=hsh
    injection this with this
    exact congrArg Wrong.pos this
   show 0≤w.pos∧w.pos≤_
   rw [hw]
   unfold clampP
   split
   ·omega
   ·split <;> omega
theorem parse_front (s:ByteArray) (n:Nat) (hs:n+s.size≤20000):rule_Parse (spc n++s)=bif (rule_Parse s).2.2 == 0 then rule_Parse s else ([],(rule_Parse s).2.1+n,(rule_Parse s).2.2):=by
 have hN:=bsize s
 have e0:(spc n++s).data.toList=List.replicate n 32++s.data.toList:=by
  rw [ByteArray.data_append,Array.toList_append]
  simp [spc]
 have hsz:(spc n++s).size=n+s.size:=by rw [ByteArray.size_append,spc_size]
 rw [parse_plain (spc n++s) (by omega),parse_plain s (by omega),e0,lexA_front _ _ (by omega)]
 have hp:=lexAll_pos (s.data.toList.length+1) s.data.toList 0 (by omega)
 cases hc:lexA s.data.toList 0 with
 | error e =>
  have:=(hp.2 e hc).1
  have hb:(e.2 == 0)=false:=by simpa using this
  simp only [shL,hb,cond_false]
  rw [show ((e.1+n:Nat):Int)=((e.1:Nat):Int)+n by omega]
 | ok ts =>
  have hg:=start_good (by omega:s.size≤20000) hc
  simp only [shL]
  have e:startP (spc n++s) (ts.map (shT (· + (n:Int))))=shR (· + (n:Int)) (startP s ts):=by
   unfold startP shR
   simp only
   rw [hsz]
   have:((n+s.size:Nat):Int)=(s.size:Int)+n:=by omega
   rw [this]
  rw [e,read_sh _ hg]
  cases hr:readP (startP s ts) with
  | ok l=>rfl
  | error w =>
   have:=read_nz hg w hr
   have hb:(w.e == 0)=false:=by simpa using this
   simp only [mapX,shW,hb,cond_false]
def KP (x y:Reader):Prop:=y.l=x.l∧y.end_=x.end_∧y.list=x.list
theorem KP.refl (x:Reader):KP x x:=⟨rfl,rfl,rfl⟩
theorem KP.trans {x y z:Reader} (h:KP x y) (g:KP y z):KP x z:=⟨g.1.trans h.1,g.2.1.trans h.2.1,g.2.2.trans h.2.2⟩
theorem adv_kp (x:Reader):KP x (advP x):=⟨rfl,rfl,rfl⟩
theorem need_kp {x y:Reader} {s:ByteArray} (h:rule_reader_need x s=.ok y):KP x y:=by
 rw [needP_eq] at h
 obtain ⟨-,h⟩:=cond_okT h
 cases h
 exact adv_kp x
theorem take_kp (x:Reader) (s:ByteArray):KP x (rule_reader_take x s).2:=by
 rw [takeP_eq]
 cases isP x s
 ·exact .refl x
 ·exact adv_kp x
theorem termP_kp {rv:Reader→Except Wrong (Term × Reader)} (H:∀ y a,rv y=.ok a→KP y a.2) {x:Reader} {a:Term × Reader} (h:termP rv x=.ok a):KP x a.2:=by
 rw [termP_ops] at h
 cases h1:isP x (⟨#[110,111,116]⟩:ByteArray)
 ·rw [h1] at h
  simp only [cond_false] at h
  cases h2:isP x (⟨#[105,102]⟩:ByteArray)
  ·rw [h2] at h
   simp only [cond_false] at h
   obtain ⟨b,hb,h⟩:=bindE_ok h
   refine (H _ b hb).trans ?_
   unfold opsF at h
   cases hf:rule_operators.find? fun o=>isP b.2 o.2 with
   | none=>rw [hf] at h; cases h; exact .refl _
   | some o =>
    rw [hf] at h
    obtain ⟨c,hc,h⟩:=bindE_ok h
    cases h
    exact (adv_kp _).trans (H _ c hc)
  ·rw [h2] at h
   simp only [cond_true] at h
   obtain ⟨b,hb,h⟩:=bindE_ok h
   obtain ⟨y,hy,h⟩:=bindE_ok h
   obtain ⟨c,hc,h⟩:=bindE_ok h
   obtain ⟨z,hz,h⟩:=bindE_ok h
   obtain ⟨d,hd,h⟩:=bindE_ok h
   cases h
   exact (adv_kp x).trans ((H _ b hb).trans ((need_kp hy).trans ((H _ c hc).trans ((need_kp hz).trans (H _ d hd)))))
 ·rw [h1] at h
  simp only [cond_true] at h
  obtain ⟨b,hb,h⟩:=bindE_ok h
  cases h
  exact (adv_kp x).trans (H _ b hb)
theorem cond_or {α:Type} {c:Bool} {v w:α} {P:α→Prop} (h:P (bif c then v else w)):(c=true∧P v)∨(c=false∧P w):=by
 cases c
 ·exact .inr ⟨rfl,h⟩
 ·exact .inl ⟨rfl,h⟩
theorem one_kp {x:Reader} {names:List ByteArray} {a:Int × Reader} (h:rule_reader_one x names=.ok a):KP x a.2:=by
 rw [(one_good h).1]; exact .refl x
theorem atom_kp:∀ (fu:Nat) (x:Reader) (a:Term × Reader),rule_reader_atom_n fu x=.ok a→KP x a.2
 | 0,x,a,h=>by cases h
 | fu+1,x,a,h=>by
  rw [atom_succ] at h
  unfold atomP at h
  rcases cond_or (P:=fun v:Except Wrong (Term × Reader)=>v=.ok a) h with ⟨-,h⟩ | ⟨-,h⟩
  ·obtain ⟨b,hb,h⟩:=bindE_ok h
   obtain ⟨y,hy,h⟩:=bindE_ok h
   cases h
   exact (adv_kp x).trans ((termP_kp (atom_kp fu) hb).trans (need_kp hy))
  rcases cond_or (P:=fun v:Except Wrong (Term × Reader)=>v=.ok a) h with ⟨-,h⟩ | ⟨-,h⟩
  ·cases h; exact adv_kp x
  rcases cond_or (P:=fun v:Except Wrong (Term × Reader)=>v=.ok a) h with ⟨-,h⟩ | ⟨-,h⟩
  ·cases h; exact adv_kp x
  rcases cond_or (P:=fun v:Except Wrong (Term × Reader)=>v=.ok a) h with ⟨-,h⟩ | ⟨-,h⟩
  ·obtain ⟨-,h⟩:=cond_okT h
   cases h; exact (adv_kp x).trans (adv_kp _)
  rcases cond_or (P:=fun v:Except Wrong (Term × Reader)=>v=.ok a) h with ⟨-,h⟩ | ⟨-,h⟩
  ·cases h; exact adv_kp x
  obtain ⟨b,hb,h⟩:=bindE_ok h
  cases h
  exact (one_kp hb).trans (adv_kp _)
theorem term_kp {x:Reader} {a:Term × Reader} (h:rule_reader_term x=.ok a):KP x a.2:=by
 rw [termP_eq] at h
 exact termP_kp (fun y b hb=>atom_kp _ y b hb) h
theorem choice_kp {x:Reader} {o:Order} {p:Reader × Order} (h:rule_reader_choice x o=.ok p):KP x p.1∧p.2.rules=o.rules:=by
 rw [choiceP_eq] at h
 obtain ⟨a,ha,h⟩:=bindE_ok h
 obtain ⟨-,h⟩:=cond_okF h
 obtain ⟨y,hy,h⟩:=bindE_ok h
 obtain ⟨b,hb,h⟩:=bindE_ok h
 obtain ⟨z,hz,h⟩:=bindE_ok h
 cases h
 exact ⟨(one_kp ha).trans ((adv_kp _).trans ((need_kp hy).trans ((one_kp hb).trans ((adv_kp _).trans ((take_kp _ _).trans (need_kp hz)))))),rfl⟩
theorem rule_kp {x:Reader} {o:Order} {p:Reader × Order} (h:rule_reader_rule x o=.ok p):KP x p.1∧∃ r:Rule,p.2.rules=o.rules++[r]∧r.term.depth≤8:=by
 rw [ruleP_eq] at h
 obtain ⟨a,ha,h⟩:=bindE_ok h
 obtain ⟨-,h⟩:=cond_okF h
 obtain ⟨y,hy,h⟩:=bindE_ok h
 obtain ⟨t,ht,h⟩:=bindE_ok h
 obtain ⟨-,h⟩:=cond_okT h
 obtain ⟨hc,h⟩:=cond_okF h
 cases h
 exact ⟨(one_kp ha).trans ((adv_kp _).trans ((need_kp hy).trans ((term_kp ht).trans (adv_kp _)))),_,rfl,(term_Check_post t.1).2 (by simpa using hc)⟩
def RD (o:Order):Prop:=∀ r,r∈o.rules→r.term.depth≤8
theorem body_kp (i:Order × Reader) (hi:RD i.1):∀ c,bodyL i=.inr c→KP i.2 c.2∧RD c.1:=by
 unfold bodyL
 have key:∀ (n:Nat) (j:Order × Reader),KP i.2 j.2→RD j.1→∀ c,iter bodyP default n j=.inr c→KP i.2 c.2∧RD c.1:=by
  intro n
  induction n with
  | zero=>intro j _ _ c h; cases h
  | succ n ih =>
   intro j h1 h2 c h
   unfold iter at h
   unfold bodyP at h
   cases q1:isP j.2 (⟨#[125]⟩:ByteArray)
   ·rw [q1] at h
    simp only [cond_false] at h
    cases q2:isP j.2 (⟨#[99,104,111,111,115,101]⟩:ByteArray)
    ·rw [q2] at h
     simp only [cond_false] at h
     cases q3:isP j.2 (⟨#[114,117,108,101]⟩:ByteArray)
     ·rw [q3] at h; cases h
     ·rw [q3] at h
      simp only [cond_true] at h
      cases hr:rule_reader_rule (advP j.2) j.1 with
      | error e=>rw [hr] at h; cases h
      | ok p =>
       rw [hr] at h
       obtain ⟨k1,r,k2,k3⟩:=rule_kp hr
       refine ih (p.2,p.1) (h1.trans ((adv_kp _).trans k1)) (fun r' hr'=>?_) c h
       have hr':r'∈p.2.rules:=hr'
       rw [k2] at hr'
       rcases List.mem_append.1 hr' with hr' | hr'
       ·exact h2 r' hr'
       ·rw [List.mem_singleton.1 hr']; exact k3
    ·rw [q2] at h
     simp only [cond_true] at h
     cases hr:rule_reader_choice (advP j.2) j.1 with
     | error e=>rw [hr] at h; cases h
     | ok p =>
      rw [hr] at h
      obtain ⟨k1,k2⟩:=choice_kp hr
      exact ih (p.2,p.1) (h1.trans ((adv_kp _).trans k1)) (fun r hr=>h2 r (by rw [← k2]; exact hr)) c h
   ·rw [q1] at h
    cases h
    exact ⟨h1.trans (adv_kp _),h2⟩
 exact key _ i (.refl _) hi
theorem body_inl (i:Order × Reader) (y:Reader):¬ bodyL i=.inl (.ok y):=by
 have key:∀ (n:Nat) (j:Order × Reader),¬ iter bodyP default n j=.inl (.ok y):=by
  intro n
  induction n with
  | zero=>intro j h; cases h
  | succ n ih =>
   intro j h
   unfold iter at h
   unfold bodyP at h
   cases q1:isP j.2 (⟨#[125]⟩:ByteArray)
   ·rw [q1] at h
    simp only [cond_false] at h
    cases q2:isP j.2 (⟨#[99,104,111,111,115,101]⟩:ByteArray)
    ·rw [q2] at h
     simp only [cond_false] at h
     cases q3:isP j.2 (⟨#[114,117,108,101]⟩:ByteArray)
     ·rw [q3] at h; cases h
     ·rw [q3] at h
      simp only [cond_true] at h
      cases hr:rule_reader_rule (advP j.2) j.1 with
      | error e=>rw [hr] at h; cases h
      | ok p=>rw [hr] at h; exact ih _ h
    ·rw [q2] at h
     simp only [cond_true] at h
     cases hr:rule_reader_choice (advP j.2) j.1 with
     | error e=>rw [hr] at h; cases h
     | ok p=>rw [hr] at h; exact ih _ h
   ·rw [q1] at h; cases h
 exact key _ i
theorem order_kp {x y:Reader} (h:rule_reader_order x=.ok y):y.l=x.l∧y.end_=x.end_∧∃ o,y.list=x.list++[o]∧RD o:=by
 rw [orderP_eq] at h
 obtain ⟨a,ha,h⟩:=bindE_ok h
 obtain ⟨b,hb,h⟩:=bindE_ok h
 obtain ⟨-,h⟩:=cond_okF h
 obtain ⟨-,h⟩:=cond_okF h
 obtain ⟨d,hd,h⟩:=bindE_ok h
 have k0:KP x d:=(need_kp ha).trans ((by rw [(name_good hb).1]; exact .refl a:KP a b.2).trans ((adv_kp _).trans ((take_kp _ _).trans (need_kp hd))))
 have k:=body_kp (({ name:=b.1,accepts:=(rule_reader_take (advP b.2) (⟨#[97,99,99,101,112,116,115]⟩:ByteArray)).1,choices:=[],rules:=[] }:Order),d) (fun r hr=>by cases hr)
 cases hc:bodyL (({ name:=b.1,accepts:=(rule_reader_take (advP b.2) (⟨#[97,99,99,101,112,116,115]⟩:ByteArray)).1,choices:=[],rules:=[] }:Order),d) with
 | inl v =>
  rw [hc] at h
  have h:v=.ok y:=h
  subst h
  exact absurd hc (body_inl _ _)
 | inr c =>
  rw [hc] at h
  have h:(.ok (endO c):Except Wrong Reader)=.ok y:=h
  cases h
  obtain ⟨k1,k2⟩:=k c hc
  have kk:=k0.trans k1
  refine ⟨kk.1,kk.2.1,_,congrArg (·++_) kk.2.2,fun r hr=>k2 r ?_⟩
  exact (isort_perm (·.ask) c.1.rules).mem_iff.1 hr
theorem read_deep {x:Reader} (hx:∀ o,o∈x.list→RD o) {l:List Order} (h:readP x=.ok l):∀ o,o∈l→RD o:=by
 have key:∀ (n:Nat) (j:Reader),(∀ o,o∈j.list→RD o)→∀ v,iter ordersP default n j=v→∀ l,pickS v (fun b=>.ok b.list)=.ok l→∀ o,o∈l→RD o:=by
  intro n
  induction n with
  | zero=>intro j _ v h l hl; subst h; cases hl
  | succ n ih =>
   intro j hj v h l hl
   unfold iter at h
   unfold ordersP at h
   cases hd:decide (j.at_ < ((j.l.length:Nat):Int))
   ·rw [hd] at h
    simp only [cond_false] at h
    subst h
    cases hl
    exact hj
   ·rw [hd] at h
    simp only [cond_true] at h
    cases hr:rule_reader_order j with
    | error e=>rw [hr] at h; subst h; cases hl
    | ok y =>
     rw [hr] at h
     obtain ⟨-,-,o,k1,k2⟩:=order_kp hr
     refine ih y (fun o' ho'=>?_) v h l hl
     rw [k1] at ho'
     rcases List.mem_append.1 ho' with ho' | ho'
     ·exact hj o' ho'
     ·rw [List.mem_singleton.1 ho']; exact k2
 exact key _ x hx _ rfl l h
theorem sameTerm_refl:∀ (fu:Nat) (t:Term) (lv:Int),t.depth≤fu→(t.depth:Int)≤lv→lv≤1000→R16_SameTerm_n fu t t lv=true
 | 0,t,_,h,_,_=>absurd h (by have:=t.depth_pos; omega)
 | fu+1,t,lv,h,h1,h2=>by
  have key:R16_SameTerm_n (fu+1) t t lv=(R16_SameTerm_sk (R16_SameTerm_n fu) (fun _ _ _=>False) (fun _ _ _ h=>h.elim) t t lv).val:=rfl
  rw [key]
  refine Sk.pvalE (R16_SameTerm_sk (R16_SameTerm_n fu) (fun _ _ _=>False) (fun _ _ _ h=>h.elim) t t lv) (L:=fun x=>x=true) ?_
  have hp:=t.depth_pos
  have hw:w64 (lv - 1)=lv - 1:=w64_id (by omega) (by omega)
  unfold R16_SameTerm_sk
  simp only [Sk.pstE,Sk.isLoop,reduceCtorEq,ON,kk,R16_SameTerm_kr,hw]
  refine ⟨fun hc=>absurd hc (by simp; omega),fun _=>⟨fun _=>True,fun i=>i≤t.args.length,Nat.zero_le _,fun i hi=>⟨fun hc x hx=>?_,fun _=>trivial⟩⟩⟩
  have hc:=of_decide_eq_true hc
  have hm:=lget_mem (show i < t.args.length by omega) default
  have hd:=depth_mem hm
  rw [sameTerm_refl fu (t.args.getD i default) (lv - 1) (by omega) (by omega) (by omega)] at hx
  subst hx
  exact ⟨fun h=>(by cases h),fun _ _=>⟨by omega,by omega⟩⟩
theorem same_refl (l:List Order) (h:∀ o,o∈l→RD o):R16_Same l l=true:=by
 refine Sk.pvalE (R16_Same_sk l l) (L:=fun x=>x=true) ?_
 unfold R16_Same_sk
 simp only [Sk.pstE,Sk.isLoop,reduceCtorEq,ON,kk,R16_SameTerm_k,beq_self_eq_true,bne_self_eq_false,Bool.not_true,Bool.or_false,Bool.false_or,Bool.and_self]
 refine ⟨fun _=>True,fun i=>i≤l.length,Nat.zero_le _,fun i hi=>⟨fun hc=>⟨fun _=>True,fun _=>⟨fun _=>True,⟨fun k=>k≤(l.getD i default).choices.length,Nat.zero_le _,fun k hk _=>⟨fun hc2 _ _=>?_,fun _=>trivial⟩⟩,fun _ _ _=>⟨fun _=>True,⟨fun k=>k≤(l.getD i default).rules.length,Nat.zero_le _,fun k hk _=>⟨fun hc3 x hx=>?_,fun _=>trivial⟩⟩,fun _ _ _=>trivial⟩⟩,fun _ _ _ _=>?_⟩,fun _=>trivial⟩⟩
 ·have hc2:=of_decide_eq_true hc2
  exact ⟨by omega,by omega⟩
 ·have hc:=of_decide_eq_true hc
  have hc3:=of_decide_eq_true hc3
  have hd:=h _ (lget_mem (show i < l.length by omega) default) _ (lget_mem (show k < (l.getD i default).rules.length by omega) default)
  have:=sameTerm_refl _ ((l.getD i default).rules.getD k default).term 200 (Nat.le_refl _) (by omega) (by decide)
  have hx:x=true:=hx.trans this
  subst hx
  exact ⟨fun h=>(by cases h),fun _ _=>⟨by omega,by omega⟩⟩
 ·have hc:=of_decide_eq_true hc
  exact ⟨by omega,by omega⟩
theorem sane16_true:L16_sane=true:=by kernel_rfl
theorem parse_deep {s:ByteArray} (hs:s.size≤20000):∀ o,o∈(rule_Parse s).1→RD o:=by
 rw [parse_plain s hs]
 cases hc:lexA s.data.toList 0 with
 | error e=>intro o h; cases h
 | ok ts =>
  dsimp only
  cases hr:readP (startP s ts) with
  | ok l=>exact read_deep (fun o h=>by cases h) hr
  | error w=>intro o h; cases h
theorem L16_RuleMoves_law (s:ByteArray) (blanks:Int):L16_RuleMoves s blanks=true:=by
 refine Sk.pvalE (L16_RuleMoves_sk s blanks) (L:=fun x=>x=true) ?_
 unfold L16_RuleMoves_sk
 simp only [Sk.pstE,Sk.isLoop,reduceCtorEq,ON,kk,L16_sane_k,rule_Parse_k,R16_Same_k]
 intro x hx
 rw [sane16_true] at hx
 subst hx
 refine ⟨fun _=>rfl,fun hc=>?_⟩
 simp only [LN] at hc
 refine ⟨fun b=>b=spc blanks.toNat,⟨fun i=>0≤i.2∧i.2≤blanks∧i.1=spc i.2.toNat,⟨by omega,by omega,rfl⟩,fun i hi=>⟨fun h _=>?_,fun h=>?_⟩⟩,fun b _ hb y hy z hz=>?_⟩
 ·have h:=of_decide_eq_true h
  have hw:w64 (i.2+1)=i.2+1:=w64_id (by omega) (by omega)
  refine ⟨⟨by omega,by omega,?_⟩,by omega⟩
  rw [hi.2.2]
  exact spc_add (by omega) (by omega)
 ·have h:=of_decide_eq_false h
  rw [hi.2.2,show i.2=blanks by omega]
 ·subst hb
  have hs:s.size≤20000:=by omega
  have hf:=parse_front s blanks.toNat (by omega)
  rw [← hz,← hy] at hf
  have he:=parse_err hs
  rw [← hy] at he
  have hd:=parse_deep hs
  rw [← hy] at hd
  refine ⟨fun h=>?_,fun h x hx=>?_⟩
  ·have h0:y.2.2≠0:=by simpa using h
   have hb:(y.2.2 == 0)=false:=by simpa using h0
   rw [hb] at hf
   simp only [cond_false] at hf
   have hp:=he.2 h0
   have hw:w64 (y.2.1+blanks)=y.2.1+blanks:=w64_id (by omega) (by omega)
   have hbn:((blanks.toNat:Nat):Int)=blanks:=by omega
   rw [hf,hw,hbn]
   simp
  ·have h0:y.2.2=0:=by simpa using h
   have hb:(y.2.2 == 0)=true:=by simpa using h0
   rw [hb] at hf
   simp only [cond_true] at hf
   rw [hf] at hx ⊢
   rw [same_refl y.1 hd] at hx
   rw [hx,h0,he.1 h0]
   rfl
end Go.Proofs.YtgibnoahjhfmcaaGreatDoor
