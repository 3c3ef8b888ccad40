/- Functions, as sketches. -/
import Derived.Test.YtgibnoahjhfmcaaGreatDoorRa13
namespace Go.Proofs.YtgibnoahjhfmcaaGreatDoor
open Go Go.Av
set_option linter.unusedSimpArgs false
set_option linter.unusedVariables false
set_option maxHeartbeats 1000000
set_option maxRecDepth 100000
def errP (x:Reader) (e:Int):Wrong:=⟨bif decide (x.at_ < ((x.l.length:Nat):Int)) then (x.l.getD x.at_.toNat default).pos else x.end_,e⟩
def advP (x:Reader):Reader:={ x with at_:=w64 (x.at_+1) }
def isP (x:Reader) (s:ByteArray):Bool:=((decide (x.at_ < ((x.l.length:Nat):Int)))&&(((x.l.getD x.at_.toNat default).text).toList == s.toList))&&((((x.l.getD x.at_.toNat default).kind) == 0)||(((x.l.getD x.at_.toNat default).kind) == 3))
theorem isP_eq (x:Reader) (s:ByteArray):rule_reader_is x s=(isP x s,x):=rfl
theorem takeP_eq (x:Reader) (s:ByteArray):rule_reader_take x s=bif isP x s then (true,advP x) else (false,x):=by
 rw [take_eq,isP_eq]
 rfl
theorem failP_eq (x:Reader) (e:Int):rule_reader_fail x e=.error (errP x e):=by
 have h:rule_reader_fail x e=bif decide (x.at_ < ((x.l.length:Nat):Int)) then .error ⟨(x.l.getD x.at_.toNat default).pos,e⟩ else .error ⟨x.end_,e⟩:=rfl
 rw [h]
 unfold errP
 cases decide (x.at_ < ((x.l.length:Nat):Int)) <;> rfl
def bindE {E α β:Type} (v:Except E α) (f:α→Except E β):Except E β:=match v with | .ok a=>f a | .error e=>.error e
theorem needP_eq (x:Reader) (s:ByteArray):rule_reader_need x s=bif isP x s then .ok (advP x) else .error (errP x 9):=by
 have h:rule_reader_need x s=bif !(rule_reader_take x s).1 then okX (rule_reader_fail (rule_reader_take x s).2 9) (fun b=>.ok b) (fun e=>.error e) else .ok (rule_reader_take x s).2:=rfl
 rw [h,takeP_eq,failP_eq]
 cases isP x s <;> simp [okX,failP_eq]
theorem nameP_eq (x:Reader):rule_reader_name x=bif (decide (x.at_≥((x.l.length:Nat):Int)))||(((x.l.getD x.at_.toNat default).kind) != 0) then .error (errP x 9) else .ok ((x.l.getD x.at_.toNat default).text,x):=by
 have h:rule_reader_name x=bif (decide (x.at_≥((x.l.length:Nat):Int)))||(((x.l.getD x.at_.toNat default).kind) != 0) then okX (rule_reader_fail x 9) (fun b=>.ok ((b.l.getD b.at_.toNat default).text,b)) (fun e=>.error e) else .ok ((x.l.getD x.at_.toNat default).text,x):=rfl
 rw [h,failP_eq]
 rfl
theorem oneP_eq (x:Reader) (names:List ByteArray):rule_reader_one x names=bindE (rule_reader_name x) fun a=>bif decide (slices_IndexS names a.1 < 0) then .error (errP a.2 10) else .ok (slices_IndexS names a.1,a.2):=by
 have h:rule_reader_one x names=okX (rule_reader_name x) (fun a=>bif decide (slices_IndexS names a.1 < 0) then okX (rule_reader_fail a.2 10) (fun b=>.ok (slices_IndexS names a.1,b)) (fun e=>.error e) else .ok (slices_IndexS names a.1,a.2)) (fun e=>.error e):=rfl
 rw [h]
 unfold bindE okX
 cases rule_reader_name x with
 | error e=>rfl
 | ok a=>simp only [failP_eq]
noncomputable def termP (rv:Reader→Except Wrong (Term × Reader)) (x:Reader):Except Wrong (Term × Reader) :=
 bif isP x (⟨#[110,111,116]⟩:ByteArray) then bindE (rv (advP x)) fun a=>.ok ({ op:=3,n:=0,args:=[a.1] },a.2)
 else bif isP x (⟨#[105,102]⟩:ByteArray) then bindE (rv (advP x)) fun a=>bindE (rule_reader_need a.2 (⟨#[116,104,101,110]⟩:ByteArray)) fun y=>bindE (rv y) fun b=>bindE (rule_reader_need b.2 (⟨#[101,108,115,101]⟩:ByteArray)) fun z=>bindE (rv z) fun c=>.ok ({ op:=6,n:=0,args:=[a.1,b.1,c.1] },c.2)
 else bindE (rv x) fun a=>match rule_operators.find? fun o=>isP a.2 o.2 with
  | some o=>bindE (rv (advP a.2)) fun b=>.ok ({ op:=o.1,n:=0,args:=[a.1,b.1] },b.2)
  | none=>.ok (a.1,a.2)
theorem find_eq {α β γ:Type} [Inhabited β] (p:β→Bool) (F:Nat→α) (g:γ) (K:α) (G:β→α):∀ (l:List β) (k:Nat) (l0:List β),l=l0.drop k→(∀ i,i < l0.length→F i=G (l0.getD i default)) →
  ((List.range' k l.length).findSome? fun i=>exitOf (cond (p (l0.getD i default)) (.inl (F i)) (.inr g:α ⊕ γ))).getD K=match l.find? p with | some o=>G o | none=>K
 | [],k,l0,_,_=>rfl
 | b :: r,k,l0,h,hF=>by
  have hk:k < l0.length:=by
   rcases Nat.lt_or_ge k l0.length with h1 | h1
   ·exact h1
   ·rw [List.drop_of_length_le h1] at h; cases h
  have hb:l0.getD k default=b:=by
   rw [List.drop_eq_getElem_cons hk] at h
   injection h with h1 h2
   simp [List.getD,hk,h1]
  have hr:r=l0.drop (k+1):=by
   rw [List.drop_eq_getElem_cons hk] at h
   injection h
  rw [List.length_cons,List.range'_succ,List.findSome?_cons,List.find?_cons,hb]
  cases hp:p b
  ·simp only [cond_false,exitOf]
   exact find_eq p F g K G r (k+1) l0 hr hF
  ·simp only [cond_true,exitOf,Option.getD_some]
   rw [hF k hk,hb]
theorem takeF {x:Reader} {s:ByteArray} (h:isP x s=false):rule_reader_take x s=(false,x):=by rw [takeP_eq,h]; rfl
theorem takeT {x:Reader} {s:ByteArray} (h:isP x s=true):rule_reader_take x s=(true,advP x):=by rw [takeP_eq,h]; rfl
theorem okX_inl {E β α γ:Type} (v:Except E β) (A:β→α) (B:E→α):okX v (fun b=>(.inl (A b):α ⊕ γ)) (fun e=>.inl (B e))=.inl (okX v A B):=by
 cases v <;> rfl
theorem okX_bind {E β α:Type} (v:Except E β) (A:β→Except E α):okX v A (fun e=>.error e)=bindE v A:=by
 cases v <;> rfl
noncomputable def opsF (rv:Reader→Except Wrong (Term × Reader)) (a:Term × Reader):Except Wrong (Term × Reader) :=
 match rule_operators.find? fun o=>isP a.2 o.2 with
  | some o=>bindE (rv (advP a.2)) fun b=>.ok ({ op:=o.1,n:=0,args:=[a.1,b.1] },b.2)
  | none=>.ok (a.1,a.2)
theorem ops_val (rv:Reader→Except Wrong (Term × Reader)) (a:Term × Reader) :
  pickS (((List.range rule_operators.length).findSome? fun i=>exitOf (cond (rule_reader_take a.2 (rule_operators.getD i default).2).1
   (okX (rv (rule_reader_take a.2 (rule_operators.getD i default).2).2) (fun b=>.inl (.inl (.ok (({ op:=(rule_operators.getD i default).1,n:=0,args:=[a.1,b.1] }:Term),b.2)))) (fun e=>.inl (.inl (.error e))))
   (.inr (rule_reader_take a.2 (rule_operators.getD i default).2).2):(Except Wrong (Term × Reader) ⊕ Reader) ⊕ Reader)).getD (.inr a.2)) (fun y=>.ok (a.1,y))=opsF rv a:=by
 have e:(fun i=>exitOf (cond (rule_reader_take a.2 (rule_operators.getD i default).2).1
   (okX (rv (rule_reader_take a.2 (rule_operators.getD i default).2).2) (fun b=>.inl (.inl (.ok (({ op:=(rule_operators.getD i default).1,n:=0,args:=[a.1,b.1] }:Term),b.2)))) (fun e=>.inl (.inl (.error e))))
   (.inr (rule_reader_take a.2 (rule_operators.getD i default).2).2):(Except Wrong (Term × Reader) ⊕ Reader) ⊕ Reader)) =
   fun i=>exitOf (cond (isP a.2 (rule_operators.getD i default).2) (.inl (.inl (bindE (rv (advP a.2)) fun b=>.ok ({ op:=(rule_operators.getD i default).1,n:=0,args:=[a.1,b.1] },b.2)))) (.inr a.2)):=by
  funext i
  rw [takeP_eq,okX_inl,okX_inl]
  cases isP a.2 (rule_operators.getD i default).2
  ·rfl
  ·simp only [cond_true,okX_bind]
 have k:=find_eq (γ:=Reader) (fun o:Int × ByteArray=>isP a.2 o.2) (fun i=>(.inl (bindE (rv (advP a.2)) fun b=>.ok ({ op:=(rule_operators.getD i default).1,n:=0,args:=[a.1,b.1] },b.2)):Except Wrong (Term × Reader) ⊕ Reader)) a.2 (.inr a.2) (fun o=>.inl (bindE (rv (advP a.2)) fun b=>.ok ({ op:=o.1,n:=0,args:=[a.1,b.1] },b.2))) rule_operators 0 rule_operators rfl (fun _ _=>rfl)
 rw [e,List.range_eq_range']
 refine (congrArg (fun z=>pickS z fun y=>.ok (a.1,y)) k).trans ?_
 unfold opsF
 cases rule_operators.find? fun o=>isP a.2 o.2 with
 | some o=>rfl
 | none=>rfl
theorem termP_ops (rv:Reader→Except Wrong (Term × Reader)) (x:Reader):termP rv x =
 bif isP x (⟨#[110,111,116]⟩:ByteArray) then bindE (rv (advP x)) fun a=>.ok ({ op:=3,n:=0,args:=[a.1] },a.2)
 else bif isP x (⟨#[105,102]⟩:ByteArray) then bindE (rv (advP x)) fun a=>bindE (rule_reader_need a.2 (⟨#[116,104,101,110]⟩:ByteArray)) fun y=>bindE (rv y) fun b=>bindE (rule_reader_need b.2 (⟨#[101,108,115,101]⟩:ByteArray)) fun z=>bindE (rv z) fun c=>.ok ({ op:=6,n:=0,args:=[a.1,b.1,c.1] },c.2)
 else bindE (rv x) fun a=>opsF rv a:=rfl
theorem termW_eq (rv:Reader→Except Wrong (Term × Reader)) (rp:Reader→Prop) (rf) (x:Reader):rule_reader_term_w rv rp rf x=termP rv x:=by
 have h:rule_reader_term_w rv rp rf x=bif (rule_reader_take x (⟨#[110,111,116]⟩:ByteArray)).1 then okX (rv (rule_reader_take x (⟨#[110,111,116]⟩:ByteArray)).2) (fun a=>.ok (({ op:=3,n:=0,args:=[a.1] }:Term),a.2)) (fun e=>.error e)
  else bif (rule_reader_take (rule_reader_take x (⟨#[110,111,116]⟩:ByteArray)).2 (⟨#[105,102]⟩:ByteArray)).1 then
   okX (rv (rule_reader_take (rule_reader_take x (⟨#[110,111,116]⟩:ByteArray)).2 (⟨#[105,102]⟩:ByteArray)).2) (fun a=>okX (rule_reader_need a.2 (⟨#[116,104,101,110]⟩:ByteArray)) (fun y=>okX (rv y) (fun b=>okX (rule_reader_need b.2 (⟨#[101,108,115,101]⟩:ByteArray)) (fun z=>okX (rv z) (fun c=>.ok (({ op:=6,n:=0,args:=[a.1,b.1,c.1] }:Term),c.2)) (fun e=>.error e)) (fun e=>.error e)) (fun e=>.error e)) (fun e=>.error e)) (fun e=>.error e)
  else okX (rv (rule_reader_take (rule_reader_take x (⟨#[110,111,116]⟩:ByteArray)).2 (⟨#[105,102]⟩:ByteArray)).2) (fun a=>pickS (((List.range rule_operators.length).findSome? fun i=>exitOf (cond (rule_reader_take a.2 (rule_operators.getD i default).2).1
   (okX (rv (rule_reader_take a.2 (rule_operators.getD i default).2).2) (fun b=>.inl (.inl (.ok (({ op:=(rule_operators.getD i default).1,n:=0,args:=[a.1,b.1] }:Term),b.2)))) (fun e=>.inl (.inl (.error e))))
   (.inr (rule_reader_take a.2 (rule_operators.getD i default).2).2):(Except Wrong (Term × Reader) ⊕ Reader) ⊕ Reader)).getD (.inr a.2)) (fun y=>.ok (a.1,y))) (fun e=>.error e):=rfl
 rw [h,termP_ops]
 simp only [okX_bind,ops_val]
 simp only [takeP_eq]
 cases isP x (⟨#[110,111,116]⟩:ByteArray)
 ·simp only [cond_false]
  cases isP x (⟨#[105,102]⟩:ByteArray) <;> rfl
 ·rfl
theorem termP_eq (x:Reader):rule_reader_term x=termP rule_reader_atom x:=by
 have h:rule_reader_term x=bif (rule_reader_take x (⟨#[110,111,116]⟩:ByteArray)).1 then okX (rule_reader_atom (rule_reader_take x (⟨#[110,111,116]⟩:ByteArray)).2) (fun a=>.ok (({ op:=3,n:=0,args:=[a.1] }:Term),a.2)) (fun e=>.error e)
  else bif (rule_reader_take (rule_reader_take x (⟨#[110,111,116]⟩:ByteArray)).2 (⟨#[105,102]⟩:ByteArray)).1 then
   okX (rule_reader_atom (rule_reader_take (rule_reader_take x (⟨#[110,111,116]⟩:ByteArray)).2 (⟨#[105,102]⟩:ByteArray)).2) (fun a=>okX (rule_reader_need a.2 (⟨#[116,104,101,110]⟩:ByteArray)) (fun y=>okX (rule_reader_atom y) (fun b=>okX (rule_reader_need b.2 (⟨#[101,108,115,101]⟩:ByteArray)) (fun z=>okX (rule_reader_atom z) (fun c=>.ok (({ op:=6,n:=0,args:=[a.1,b.1,c.1] }:Term),c.2)) (fun e=>.error e)) (fun e=>.error e)) (fun e=>.error e)) (fun e=>.error e)) (fun e=>.error e)
  else okX (rule_reader_atom (rule_reader_take (rule_reader_take x (⟨#[110,111,116]⟩:ByteArray)).2 (⟨#[105,102]⟩:ByteArray)).2) (fun a=>pickS (((List.range rule_operators.length).findSome? fun i=>exitOf (cond (rule_reader_take a.2 (rule_operators.getD i default).2).1
   (okX (rule_reader_atom (rule_reader_take a.2 (rule_operators.getD i default).2).2) (fun b=>.inl (.inl (.ok (({ op:=(rule_operators.getD i default).1,n:=0,args:=[a.1,b.1] }:Term),b.2)))) (fun e=>.inl (.inl (.error e))))
   (.inr (rule_reader_take a.2 (rule_operators.getD i default).2).2):(Except Wrong (Term × Reader) ⊕ Reader) ⊕ Reader)).getD (.inr a.2)) (fun y=>.ok (a.1,y))) (fun e=>.error e):=rfl
 rw [h,termP_ops]
 simp only [okX_bind,ops_val]
 simp only [takeP_eq]
 cases isP x (⟨#[110,111,116]⟩:ByteArray)
 ·simp only [cond_false]
  cases isP x (⟨#[105,102]⟩:ByteArray) <;> rfl
 ·rfl
noncomputable def atomP (rv:Reader→Except Wrong (Term × Reader)) (x:Reader):Except Wrong (Term × Reader) :=
 bif isP x (⟨#[40]⟩:ByteArray) then bindE (termP rv (advP x)) fun a=>bindE (rule_reader_need a.2 (⟨#[41]⟩:ByteArray)) fun y=>.ok (a.1,y)
 else bif isP x (⟨#[116,114,117,101]⟩:ByteArray) then .ok ({ op:=1,n:=1,args:=[] },advP x)
 else bif isP x (⟨#[102,97,108,115,101]⟩:ByteArray) then .ok ({ op:=1,n:=0,args:=[] },advP x)
 else bif isP x (⟨#[45]⟩:ByteArray) then
  (bif (decide ((advP x).at_ < (((advP x).l.length:Nat):Int)))&&((((advP x).l.getD (advP x).at_.toNat default).kind) == 1) then .ok ({ op:=0,n:=w64 (0 - (((advP x).l.getD (advP x).at_.toNat default).n)),args:=[] },advP (advP x))
   else .error (errP (advP x) 9))
 else bif (decide (x.at_ < ((x.l.length:Nat):Int)))&&(((x.l.getD x.at_.toNat default).kind) == 1) then .ok ({ op:=0,n:=(x.l.getD x.at_.toNat default).n,args:=[] },advP x)
 else bindE (rule_reader_one x rule_Variables) fun a=>.ok ({ op:=2,n:=a.1,args:=[] },advP a.2)
theorem atom_succ (fu:Nat) (x:Reader):rule_reader_atom_n (fu+1) x=atomP (rule_reader_atom_n fu) x:=by
 have h:rule_reader_atom_n (fu+1) x=bif (rule_reader_take x (⟨#[40]⟩:ByteArray)).1 then okX (rule_reader_term_w (rule_reader_atom_n fu) (fun _=>False) (fun _ h=>h.elim) (rule_reader_take x (⟨#[40]⟩:ByteArray)).2) (fun a=>okX (rule_reader_need a.2 (⟨#[41]⟩:ByteArray)) (fun y=>.ok (a.1,y)) (fun e=>.error e)) (fun e=>.error e)
  else bif (rule_reader_take (rule_reader_take x (⟨#[40]⟩:ByteArray)).2 (⟨#[116,114,117,101]⟩:ByteArray)).1 then .ok (({ op:=1,n:=1,args:=[] }:Term),(rule_reader_take (rule_reader_take x (⟨#[40]⟩:ByteArray)).2 (⟨#[116,114,117,101]⟩:ByteArray)).2)
  else bif (rule_reader_take (rule_reader_take (rule_reader_take x (⟨#[40]⟩:ByteArray)).2 (⟨#[116,114,117,101]⟩:ByteArray)).2 (⟨#[102,97,108,115,101]⟩:ByteArray)).1 then .ok (({ op:=1,n:=0,args:=[] }:Term),(rule_reader_take (rule_reader_take (rule_reader_take x (⟨#[40]⟩:ByteArray)).2 (⟨#[116,114,117,101]⟩:ByteArray)).2 (⟨#[102,97,108,115,101]⟩:ByteArray)).2)
  else (fun m:Bool × Reader=>bif (decide (m.2.at_ < ((m.2.l.length:Nat):Int)))&&(((m.2.l.getD m.2.at_.toNat default).kind) == 1) then (bif m.1 then .ok (({ op:=0,n:=w64 (0 - ((m.2.l.getD m.2.at_.toNat default).n)),args:=[] }:Term),advP m.2) else .ok (({ op:=0,n:=(m.2.l.getD m.2.at_.toNat default).n,args:=[] }:Term),advP m.2))
   else pickS (bif m.1 then okX (rule_reader_fail m.2 9) (fun b=>.inr b) (fun e=>.inl (.error e)) else .inr m.2) fun b=>okX (rule_reader_one b rule_Variables) (fun a=>.ok (({ op:=2,n:=a.1,args:=[] }:Term),advP a.2)) (fun e=>.error e)) (rule_reader_take (rule_reader_take (rule_reader_take (rule_reader_take x (⟨#[40]⟩:ByteArray)).2 (⟨#[116,114,117,101]⟩:ByteArray)).2 (⟨#[102,97,108,115,101]⟩:ByteArray)).2 (⟨#[45]⟩:ByteArray)):=rfl
 rw [h]
 unfold atomP
 cases h1:isP x (⟨#[40]⟩:ByteArray)
 ·rw [takeF h1]
  simp only [cond_false]
  cases h2:isP x (⟨#[116,114,117,101]⟩:ByteArray)
  ·rw [takeF h2]
   simp only [cond_false]
   cases h3:isP x (⟨#[102,97,108,115,101]⟩:ByteArray)
   ·rw [takeF h3]
    simp only [cond_false]
    cases h4:isP x (⟨#[45]⟩:ByteArray)
    ·rw [takeF h4]
     simp only [cond_false,pickS,okX_bind]
    ·rw [takeT h4]
     simp only [cond_true,failP_eq,okX,pickS]
   ·rw [takeT h3]; rfl
  ·rw [takeT h2]; rfl
 ·rw [takeT h1]
  simp only [cond_true,okX_bind,termW_eq]
theorem choiceP_eq (x:Reader) (o:Order):rule_reader_choice x o=bindE (rule_reader_one x rule_Questions) fun a=>bif slices_ContainsFunc_89 o.choices a.1 then .error (errP a.2 5)
  else bindE (rule_reader_need (advP a.2) (⟨#[58]⟩:ByteArray)) fun y=>bindE (rule_reader_one y rule_Factors) fun b=>bindE (rule_reader_need (rule_reader_take (advP b.2) (⟨#[119,104,111,108,101]⟩:ByteArray)).2 (⟨#[59]⟩:ByteArray)) fun z =>
   .ok (z,{ o with choices:=o.choices++[({ ask:=a.1,by_:=b.1,whole:=(rule_reader_take (advP b.2) (⟨#[119,104,111,108,101]⟩:ByteArray)).1 }:Choice)] }):=by
 have h:rule_reader_choice x o=okX (rule_reader_one x rule_Questions) (fun a=>pickS (bif slices_ContainsFunc_89 o.choices a.1 then okX (rule_reader_fail a.2 5) (fun b=>.inr b) (fun e=>.inl (.error e)) else .inr a.2) fun c=>okX (rule_reader_need (advP c) (⟨#[58]⟩:ByteArray)) (fun y=>okX (rule_reader_one y rule_Factors) (fun b=>okX (rule_reader_need (rule_reader_take (advP b.2) (⟨#[119,104,111,108,101]⟩:ByteArray)).2 (⟨#[59]⟩:ByteArray)) (fun z =>
   .ok (z,{ o with choices:=o.choices++[({ ask:=a.1,by_:=b.1,whole:=(rule_reader_take (advP b.2) (⟨#[119,104,111,108,101]⟩:ByteArray)).1 }:Choice)] })) (fun e=>.error e)) (fun e=>.error e)) (fun e=>.error e)) (fun e=>.error e):=rfl
 rw [h,okX_bind]
 unfold bindE
 cases rule_reader_one x rule_Questions with
 | error e=>rfl
 | ok a =>
  simp only [failP_eq]
  cases slices_ContainsFunc_89 o.choices a.1
  ·simp only [cond_false,pickS,okX_bind]; rfl
  ·rfl
theorem ruleP_eq (x:Reader) (o:Order):rule_reader_rule x o=bindE (rule_reader_one x rule_Questions) fun a=>bif slices_ContainsFunc_91 o.rules a.1 then .error (errP a.2 5)
  else bindE (rule_reader_need (advP a.2) (⟨#[61]⟩:ByteArray)) fun y=>bindE (rule_reader_term y) fun t=>bif isP t.2 (⟨#[59]⟩:ByteArray) then (bif (term_Check t.1).2 == 6 then .error (errP t.2 6) else .ok (advP t.2,{ o with rules:=o.rules++[({ ask:=a.1,term:=t.1 }:Rule)] })) else .error (errP t.2 9):=by
 have h:rule_reader_rule x o=okX (rule_reader_one x rule_Questions) (fun a=>pickS (bif slices_ContainsFunc_91 o.rules a.1 then okX (rule_reader_fail a.2 5) (fun b=>.inr b) (fun e=>.inl (.error e)) else .inr a.2) fun c=>okX (rule_reader_need (advP c) (⟨#[61]⟩:ByteArray)) (fun y=>okX (rule_reader_term y) (fun t=>pickS (bif !(rule_reader_is t.2 (⟨#[59]⟩:ByteArray)).1 then okX (rule_reader_fail (rule_reader_is t.2 (⟨#[59]⟩:ByteArray)).2 9) (fun b=>.inr b) (fun e=>.inl (.error e)) else .inr (rule_reader_is t.2 (⟨#[59]⟩:ByteArray)).2) fun d =>
   bif (term_Check t.1).2 == 6 then okX (rule_reader_fail d 6) (fun q=>.ok (advP q,{ o with rules:=o.rules++[({ ask:=a.1,term:=t.1 }:Rule)] })) (fun e=>.error e) else .ok (advP d,{ o with rules:=o.rules++[({ ask:=a.1,term:=t.1 }:Rule)] })) (fun e=>.error e)) (fun e=>.error e)) (fun e=>.error e):=rfl
 rw [h,okX_bind]
 unfold bindE
 cases rule_reader_one x rule_Questions with
 | error e=>rfl
 | ok a =>
  simp only [failP_eq,isP_eq]
  cases slices_ContainsFunc_91 o.rules a.1
  ·simp only [cond_false,pickS,okX]
   cases rule_reader_need (advP a.2) (⟨#[61]⟩:ByteArray) with
   | error e=>rfl
   | ok y =>
    simp only
    cases rule_reader_term y with
    | error e=>rfl
    | ok t =>
     simp only
     cases isP t.2 (⟨#[59]⟩:ByteArray)
     ·rfl
     ·simp only [Bool.not_true,cond_false,cond_true]
  ·rfl
noncomputable def bodyP (i:Order × Reader):(Except Wrong Reader ⊕ (Order × Reader)) ⊕ (Order × Reader) :=
 bif isP i.2 (⟨#[125]⟩:ByteArray) then .inl (.inr (i.1,advP i.2))
 else bif isP i.2 (⟨#[99,104,111,111,115,101]⟩:ByteArray) then okX (rule_reader_choice (advP i.2) i.1) (fun y=>.inr (y.2,y.1)) (fun e=>.inl (.inl (.error e)))
 else bif isP i.2 (⟨#[114,117,108,101]⟩:ByteArray) then okX (rule_reader_rule (advP i.2) i.1) (fun y=>.inr (y.2,y.1)) (fun e=>.inl (.inl (.error e)))
 else .inl (.inl (.error (errP i.2 9)))
noncomputable def bodyL (i:Order × Reader):Except Wrong Reader ⊕ (Order × Reader):=iter bodyP default ((i.2.l.length - i.2.at_.toNat)+1) i
def endO (b:Order × Reader):Reader:={ b.2 with list:=b.2.list++[({ name:=b.1.name,accepts:=b.1.accepts,choices:=isort (·.ask) b.1.choices,rules:=isort (·.ask) b.1.rules }:Order)] }
theorem orderP_eq (x:Reader):rule_reader_order x=bindE (rule_reader_need x (⟨#[111,114,100,101,114]⟩:ByteArray)) fun a=>bindE (rule_reader_name a) fun b =>
  bif slices_ContainsFunc_44 b.2.list ({ name:=b.1,accepts:=false,choices:=[],rules:=[] }:Order) then .error (errP b.2 5)
  else bif ((b.2.list.length:Nat):Int) == 20 then .error (errP b.2 6)
  else bindE (rule_reader_need (rule_reader_take (advP b.2) (⟨#[97,99,99,101,112,116,115]⟩:ByteArray)).2 (⟨#[123]⟩:ByteArray)) fun d =>
   pickS (bodyL (({ name:=b.1,accepts:=(rule_reader_take (advP b.2) (⟨#[97,99,99,101,112,116,115]⟩:ByteArray)).1,choices:=[],rules:=[] }:Order),d)) fun c=>.ok (endO c):=by
 have hb:(fun i:Order × Reader=>(bif !(rule_reader_take i.2 (⟨#[125]⟩:ByteArray)).1 then
   (bif (rule_reader_take (rule_reader_take i.2 (⟨#[125]⟩:ByteArray)).2 (⟨#[99,104,111,111,115,101]⟩:ByteArray)).1 then okX (rule_reader_choice (rule_reader_take (rule_reader_take i.2 (⟨#[125]⟩:ByteArray)).2 (⟨#[99,104,111,111,115,101]⟩:ByteArray)).2 i.1) (fun y=>.inr (y.2,y.1)) (fun e=>.inl (.inl (.error e)))
   else bif (rule_reader_take (rule_reader_take (rule_reader_take i.2 (⟨#[125]⟩:ByteArray)).2 (⟨#[99,104,111,111,115,101]⟩:ByteArray)).2 (⟨#[114,117,108,101]⟩:ByteArray)).1 then okX (rule_reader_rule (rule_reader_take (rule_reader_take (rule_reader_take i.2 (⟨#[125]⟩:ByteArray)).2 (⟨#[99,104,111,111,115,101]⟩:ByteArray)).2 (⟨#[114,117,108,101]⟩:ByteArray)).2 i.1) (fun y=>.inr (y.2,y.1)) (fun e=>.inl (.inl (.error e)))
   else okX (rule_reader_fail (rule_reader_take (rule_reader_take (rule_reader_take i.2 (⟨#[125]⟩:ByteArray)).2 (⟨#[99,104,111,111,115,101]⟩:ByteArray)).2 (⟨#[114,117,108,101]⟩:ByteArray)).2 9) (fun q=>.inr (i.1,q)) (fun e=>.inl (.inl (.error e))))
   else .inl (.inr (i.1,(rule_reader_take i.2 (⟨#[125]⟩:ByteArray)).2)):(Except Wrong Reader ⊕ (Order × Reader)) ⊕ (Order × Reader)))=bodyP:=by
  funext i
  unfold bodyP
  cases h1:isP i.2 (⟨#[125]⟩:ByteArray)
  ·rw [takeF h1]
   simp only [Bool.not_false,cond_true,cond_false]
   cases h2:isP i.2 (⟨#[99,104,111,111,115,101]⟩:ByteArray)
   ·rw [takeF h2]
    simp only [cond_false]
    cases h3:isP i.2 (⟨#[114,117,108,101]⟩:ByteArray)
    ·rw [takeF h3]
     simp only [cond_false,failP_eq,okX]
    ·rw [takeT h3]; rfl
   ·rw [takeT h2]; rfl
  ·rw [takeT h1]; rfl
 have h:rule_reader_order x=okX (rule_reader_need x (⟨#[111,114,100,101,114]⟩:ByteArray)) (fun a=>okX (rule_reader_name a) (fun b =>
   pickS (bif slices_ContainsFunc_44 b.2.list ({ name:=b.1,accepts:=false,choices:=[],rules:=[] }:Order) then okX (rule_reader_fail b.2 5) (fun q=>.inr q) (fun e=>.inl (.error e)) else .inr b.2) fun b4 =>
   pickS (bif ((b4.list.length:Nat):Int) == 20 then okX (rule_reader_fail b4 6) (fun q=>.inr q) (fun e=>.inl (.error e)) else .inr b4) fun b6 =>
   okX (rule_reader_need (rule_reader_take (advP b6) (⟨#[97,99,99,101,112,116,115]⟩:ByteArray)).2 (⟨#[123]⟩:ByteArray)) (fun d =>
   pickS (iter (fun i:Order × Reader=>(bif !(rule_reader_take i.2 (⟨#[125]⟩:ByteArray)).1 then
   (bif (rule_reader_take (rule_reader_take i.2 (⟨#[125]⟩:ByteArray)).2 (⟨#[99,104,111,111,115,101]⟩:ByteArray)).1 then okX (rule_reader_choice (rule_reader_take (rule_reader_take i.2 (⟨#[125]⟩:ByteArray)).2 (⟨#[99,104,111,111,115,101]⟩:ByteArray)).2 i.1) (fun y=>.inr (y.2,y.1)) (fun e=>.inl (.inl (.error e)))
   else bif (rule_reader_take (rule_reader_take (rule_reader_take i.2 (⟨#[125]⟩:ByteArray)).2 (⟨#[99,104,111,111,115,101]⟩:ByteArray)).2 (⟨#[114,117,108,101]⟩:ByteArray)).1 then okX (rule_reader_rule (rule_reader_take (rule_reader_take (rule_reader_take i.2 (⟨#[125]⟩:ByteArray)).2 (⟨#[99,104,111,111,115,101]⟩:ByteArray)).2 (⟨#[114,117,108,101]⟩:ByteArray)).2 i.1) (fun y=>.inr (y.2,y.1)) (fun e=>.inl (.inl (.error e)))
   else okX (rule_reader_fail (rule_reader_take (rule_reader_take (rule_reader_take i.2 (⟨#[125]⟩:ByteArray)).2 (⟨#[99,104,111,111,115,101]⟩:ByteArray)).2 (⟨#[114,117,108,101]⟩:ByteArray)).2 9) (fun q=>.inr (i.1,q)) (fun e=>.inl (.inl (.error e))))
   else .inl (.inr (i.1,(rule_reader_take i.2 (⟨#[125]⟩:ByteArray)).2)):(Except Wrong Reader ⊕ (Order × Reader)) ⊕ (Order × Reader))) default ((d.l.length - d.at_.toNat)+1) (({ name:=b.1,accepts:=(rule_reader_take (advP b6) (⟨#[97,99,99,101,112,116,115]⟩:ByteArray)).1,choices:=[],rules:=[] }:Order),d)) fun c=>.ok (endO c)) (fun e=>.error e)) (fun e=>.error e)) (fun e=>.error e):=rfl
 rw [h,okX_bind,hb]
 unfold bindE
 cases rule_reader_need x (⟨#[111,114,100,101,114]⟩:ByteArray) with
 | error e=>rfl
 | ok a =>
  simp only [okX_bind]
  unfold bindE
  cases rule_reader_name a with
  | error e=>rfl
  | ok b =>
   simp only [failP_eq]
   cases slices_ContainsFunc_44 b.2.list ({ name:=b.1,accepts:=false,choices:=[],rules:=[] }:Order)
   ·simp only [cond_false,pickS,failP_eq]
    cases ((b.2.list.length:Nat):Int) == 20
    ·rfl
    ·rfl
   ·rfl
noncomputable def ordersP (i:Reader):(Except Wrong (List Order) ⊕ Reader) ⊕ Reader :=
 bif decide (i.at_ < ((i.l.length:Nat):Int)) then okX (rule_reader_order i) (fun y=>.inr y) (fun e=>.inl (.inl (.error e))) else .inl (.inr i)
noncomputable def readP (i:Reader):Except Wrong (List Order):=pickS (iter ordersP default ((i.l.length - i.at_.toNat)+1) i) fun b=>.ok b.list
theorem parseP_eq (s:ByteArray):rule_Parse s=bif (lex_Scan s).2.2 != 0 then ([],(lex_Scan s).2.1,(lex_Scan s).2.2)
  else match readP { l:=(lex_Scan s).1,at_:=0,end_:=s.size,list:=[] } with | .ok l=>(l,0,0) | .error e=>([],e.pos,e.e):=by
 have h:rule_Parse s=parseV (bif (lex_Scan s).2.2 != 0 then .inl ([],(lex_Scan s).2.1,(lex_Scan s).2.2) else .inr (lex_Scan s)) fun x=>readP { l:=x.1,at_:=0,end_:=s.size,list:=[] }:=rfl
 rw [h]
 cases (lex_Scan s).2.2 != 0 <;> rfl
def spanL (p:Int→Bool):List UInt8→Nat
 | []=>0
 | b :: r=>bif p ((b.toNat:Nat):Int) then spanL p r+1 else 0
theorem spanL_le (p:Int→Bool):∀ l:List UInt8,spanL p l≤l.length
 | []=>Nat.le_refl _
 | b :: r=>by
  unfold spanL
  have:=spanL_le p r
  cases p ((b.toNat:Nat):Int)
  ·exact Nat.zero_le _
  ·simp only [cond_true,List.length_cons]; omega
theorem spanL_drop (p:Int→Bool):∀ l:List UInt8,spanL p (l.drop (spanL p l))=0
 | []=>rfl
 | b :: r=>by
  cases h:p ((b.toNat:Nat):Int)
  ·simp only [spanL,h,cond_false,List.drop_zero]
  ·simp only [spanL,h,cond_true,List.drop_succ_cons]; exact spanL_drop p r
theorem drop_at {l:List UInt8} {i:Nat} (h:i < l.length):l.drop i=l.getD i 0 :: l.drop (i+1):=by
 rw [List.drop_eq_getElem_cons h]
 simp [List.getD,h]
theorem bsize (s:ByteArray):s.size=s.data.toList.length:=rfl
theorem ext_drop (s:ByteArray) (i:Nat):(s.extract i s.size).data.toList=s.data.toList.drop i:=by
 rw [ByteArray.data_extract,Array.toList_extract,List.extract_eq_take_drop]
 rw [List.take_of_length_le (by rw [List.length_drop,bsize]; exact Nat.le_refl _)]
theorem span_step {p:Int→Bool} {s:ByteArray} {i:Nat} (h:spanL p s.data.toList=i+spanL p (s.data.toList.drop i)) (hc:(decide (((i:Nat):Int) < ((s.size:Nat):Int))&&p ((s.data.toList.getD i 0).toNat:Int))=true):spanL p s.data.toList=i+1+spanL p (s.data.toList.drop (i+1)):=by
 simp only [Bool.and_eq_true,decide_eq_true_eq] at hc
 have hlt:i < s.data.toList.length:=by have:=bsize s; omega
 rw [drop_at hlt] at h
 simp only [spanL,hc.2,cond_true] at h
 omega
theorem span_stop {p:Int→Bool} {s:ByteArray} {i:Nat} (h:spanL p s.data.toList=i+spanL p (s.data.toList.drop i)) (hc:(decide (((i:Nat):Int) < ((s.size:Nat):Int))&&p ((s.data.toList.getD i 0).toNat:Int))=false):spanL p s.data.toList=i:=by
 by_cases hlt:i < s.data.toList.length
 ·have h1:decide (((i:Nat):Int) < ((s.size:Nat):Int))=true:=decide_eq_true (by have:=bsize s; omega)
  rw [h1,Bool.true_and] at hc
  rw [drop_at hlt] at h
  simp only [spanL,hc,cond_false] at h
  omega
 ·rw [List.drop_of_length_le (by omega)] at h
  exact h
theorem span82_eq (s:ByteArray):lex_span_82 s=((spanL lex_blank s.data.toList:Nat):Int):=by
 refine Sk.pvalE (lex_span_82_sk s) (L:=fun x=>x=((spanL lex_blank s.data.toList:Nat):Int)) ?_
 unfold lex_span_82_sk
 simp only [Sk.pstE,Sk.isLoop,reduceCtorEq,ON,kk,lex_blank_k]
 refine ⟨fun b=>b=((spanL lex_blank s.data.toList:Nat):Int),⟨fun i=>i≤s.size∧spanL lex_blank s.data.toList=i+spanL lex_blank (s.data.toList.drop i),⟨Nat.zero_le _,by simp⟩,fun i hi x hx=>⟨fun hc _=>?_,fun hc=>?_⟩⟩,fun b _ hb=>hb⟩
 ·subst hx
  have:=span_step hi.2 hc
  simp only [Bool.and_eq_true,decide_eq_true_eq] at hc
  exact ⟨⟨by omega,this⟩,by omega⟩
 ·subst hx
  have:=span_stop hi.2 hc
  show ((i:Nat):Int)=_
  rw [this]
theorem span68_eq (s:ByteArray):lex_span_68 s=((spanL lex_inner s.data.toList:Nat):Int):=by
 refine Sk.pvalE (lex_span_68_sk s) (L:=fun x=>x=((spanL lex_inner s.data.toList:Nat):Int)) ?_
 unfold lex_span_68_sk
 simp only [Sk.pstE,Sk.isLoop,reduceCtorEq,ON,kk,lex_inner_k]
 refine ⟨fun b=>b=((spanL lex_inner s.data.toList:Nat):Int),⟨fun i=>i≤s.size∧spanL lex_inner s.data.toList=i+spanL lex_inner (s.data.toList.drop i),⟨Nat.zero_le _,by simp⟩,fun i hi x hx=>⟨fun hc _=>?_,fun hc=>?_⟩⟩,fun b _ hb=>hb⟩
 ·subst hx
  have:=span_step hi.2 hc
  simp only [Bool.and_eq_true,decide_eq_true_eq] at hc
  exact ⟨⟨by omega,this⟩,by omega⟩
 ·subst hx
  have:=span_stop hi.2 hc
  show ((i:Nat):Int)=_
  rw [this]
theorem span83_eq (s:ByteArray):lex_span_83 s=((spanL lex_digit s.data.toList:Nat):Int):=by
 refine Sk.pvalE (lex_span_83_sk s) (L:=fun x=>x=((spanL lex_digit s.data.toList:Nat):Int)) ?_
 unfold lex_span_83_sk
 simp only [Sk.pstE,Sk.isLoop,reduceCtorEq,ON,kk,lex_digit_k]
 refine ⟨fun b=>b=((spanL lex_digit s.data.toList:Nat):Int),⟨fun i=>i≤s.size∧spanL lex_digit s.data.toList=i+spanL lex_digit (s.data.toList.drop i),⟨Nat.zero_le _,by simp⟩,fun i hi x hx=>⟨fun hc _=>?_,fun hc=>?_⟩⟩,fun b _ hb=>hb⟩
 ·subst hx
  have:=span_step hi.2 hc
  simp only [Bool.and_eq_true,decide_eq_true_eq] at hc
  exact ⟨⟨by omega,this⟩,by omega⟩
 ·subst hx
  have:=span_stop hi.2 hc
  show ((i:Nat):Int)=_
  rw [this]
noncomputable def gapS:List UInt8→Bool→Nat
 | [],_=>0
 | b :: r,c=>bif c then (bif b == 10 then gapS r false+1 else gapS r true+1) else bif lex_blank ((b.toNat:Nat):Int) then gapS r false+1 else bif b == 35 then gapS r true+1 else 0
theorem gapS_le:∀ (l:List UInt8) (c:Bool),gapS l c≤l.length
 | [],_=>Nat.le_refl _
 | b :: r,c=>by
  have h1:=gapS_le r false
  have h2:=gapS_le r true
  simp only [gapS]
  cases c <;> cases lex_blank ((b.toNat:Nat):Int) <;> cases b == 10 <;> cases b == 35 <;> simp only [cond_true,cond_false,List.length_cons] <;> omega
theorem gapS_span:∀ l:List UInt8,gapS l false=spanL lex_blank l+gapS (l.drop (spanL lex_blank l)) false
 | []=>rfl
 | b :: r=>by
  cases h:lex_blank ((b.toNat:Nat):Int)
  ·simp only [spanL,h,cond_false,List.drop_zero,Nat.zero_add]
  ·simp only [spanL,h,cond_true,List.drop_succ_cons]
   have:=gapS_span r
   simp only [gapS,h,cond_false,cond_true]
   omega
theorem gapS_nb {l:List UInt8} (h:spanL lex_blank l=0) (h2:(l.getD 0 0 == 35)=false):gapS l false=0:=by
 cases l with
 | nil=>rfl
 | cons b r =>
  have h2:(b == 35)=false:=h2
  cases hb:lex_blank ((b.toNat:Nat):Int)
  ·simp only [gapS,hb,h2,cond_false]
  ·simp [spanL,hb] at h
theorem gapS_tf {l:List UInt8} (h:l=[]∨l.getD 0 0=10):gapS l true=gapS l false:=by
 cases l with
 | nil=>rfl
 | cons b r =>
  rcases h with h | h
  ·cases h
  ·have h:b=10:=h
   subst h
   have e:lex_blank (((10:UInt8).toNat:Nat):Int)=true:=by kernel_rfl
   have e2:((10:UInt8) == 10)=true:=rfl
   simp only [gapS,e,e2,cond_true,cond_false]
theorem u8i (b k:UInt8):(((b.toNat:Nat):Int) == ((k.toNat:Nat):Int))=(b == k):=by
 rw [Bool.eq_iff_iff,beq_iff_eq,beq_iff_eq]
 exact ⟨fun h=>UInt8.toNat_inj.1 (by omega),fun h=>by rw [h]⟩
theorem gap_eq (s:ByteArray) (hs:s.size≤1000000):lex_gap s=((gapS s.data.toList false:Nat):Int):=by
 refine Sk.pvalE (lex_gap_sk s) (L:=fun x=>x=((gapS s.data.toList false:Nat):Int)) ?_
 unfold lex_gap_sk
 simp only [Sk.pstE,Sk.isLoop,reduceCtorEq,ON,kk,lex_span_82_k]
 have hN:s.size=s.data.toList.length:=bsize s
 intro x hx _
 rw [span82_eq] at hx
 subst hx
 have hsl:=spanL_le lex_blank s.data.toList
 refine ⟨fun i=>i=((gapS s.data.toList false:Nat):Int),⟨fun i=>0≤i∧i≤(s.size:Int)∧gapS s.data.toList false=i.toNat+gapS (s.data.toList.drop i.toNat) false∧spanL lex_blank (s.data.toList.drop i.toNat)=0,⟨by omega,by omega,?_,?_⟩,fun i hi _=>⟨fun hc=>?_,fun hc=>?_⟩⟩,fun b _ hb=>hb⟩
 ·rw [Int.toNat_natCast]; exact gapS_span _
 ·rw [Int.toNat_natCast]; exact spanL_drop _ _
 ·simp only [Bool.and_eq_true,decide_eq_true_eq] at hc
  obtain ⟨h0,h1,h2,h3⟩:=hi
  have hlt:i.toNat < s.data.toList.length:=by omega
  have hb:s.data.toList.getD i.toNat 0=35:=by have:=u8i (s.data.toList.getD i.toNat 0) 35; rw [show (((35:UInt8).toNat:Nat):Int)=35 from rfl,hc.2] at this; exact eq_of_beq this.symm
  refine ⟨fun b=>0≤b∧b≤(s.size:Int)∧i < b∧gapS (s.data.toList.drop i.toNat) false=(b - i).toNat+gapS (s.data.toList.drop b.toNat) false∧spanL lex_blank (s.data.toList.drop b.toNat)=0,
   ⟨fun b=>i < b∧b≤(s.size:Int)∧gapS (s.data.toList.drop i.toNat) false=(b - i).toNat+gapS (s.data.toList.drop b.toNat) false,
    ⟨fun j=>i≤j∧j≤(s.size:Int)∧gapS (s.data.toList.drop i.toNat) false=(j - i).toNat+gapS (s.data.toList.drop j.toNat) true,⟨by omega,by omega,?_⟩,fun j hj _=>⟨fun hcj=>?_,fun hcj=>?_⟩⟩,fun b _ hb x hx _=>?_⟩,fun b _ hb=>⟨⟨hb.1,hb.2.1,by omega,hb.2.2.2.2⟩,by omega⟩⟩
  ·rw [drop_at hlt,hb]
   have e1:lex_blank (((35:UInt8).toNat:Nat):Int)=false:=by kernel_rfl
   have e2:((35:UInt8) == 10)=false:=rfl
   simp only [gapS,e1,e2,cond_true,cond_false,beq_self_eq_true]
   omega
  ·simp only [Bool.and_eq_true,decide_eq_true_eq,bne_iff_ne] at hcj
   have hw:w64 (j+1)=j+1:=w64_id (by omega) (by omega)
   rw [hw]
   refine ⟨⟨by omega,by omega,?_⟩,by omega⟩
   have hltj:j.toNat < s.data.toList.length:=by omega
   have hne:(s.data.toList.getD j.toNat 0 == 10)=false:=by
    rw [beq_eq_false_iff_ne]; intro e; exact hcj.2 (by rw [e]; rfl)
   rw [hj.2.2,drop_at hltj]
   simp only [gapS,hne,cond_true,cond_false]
   rw [show (j+1).toNat=j.toNat+1 by omega]
   omega
  ·have hji:j≠i:=by
    intro e
    subst e
    have g1:decide (j < (s.size:Int))=true:=decide_eq_true hc.1
    rw [g1,hb] at hcj
    revert hcj
    decide
   refine ⟨by omega,hj.2.1,?_⟩
   rw [hj.2.2,gapS_tf]
   by_cases hlt2:j < (s.size:Int)
   ·have g1:decide (j < (s.size:Int))=true:=decide_eq_true hlt2
    rw [g1,Bool.true_and,bne_eq_false_iff_eq] at hcj
    right
    rw [drop_at (by omega)]
    show s.data.toList.getD j.toNat 0=10
    have:=u8i (s.data.toList.getD j.toNat 0) 10
    rw [hcj] at this
    exact eq_of_beq this.symm
   ·left
    exact List.drop_of_length_le (by omega)
  ·rw [span82_eq,ext_drop] at hx
   subst hx
   have q1:=spanL_le lex_blank (s.data.toList.drop b.toNat)
   rw [List.length_drop] at q1
   have hw:w64 (b+((spanL lex_blank (s.data.toList.drop b.toNat):Nat):Int))=b+((spanL lex_blank (s.data.toList.drop b.toNat):Nat):Int):=w64_id (by omega) (by omega)
   rw [hw]
   have q2:=gapS_span (s.data.toList.drop b.toNat)
   have q3:=spanL_drop lex_blank (s.data.toList.drop b.toNat)
   rw [List.drop_drop] at q2 q3
   have q4:(b+((spanL lex_blank (s.data.toList.drop b.toNat):Nat):Int)).toNat=b.toNat+spanL lex_blank (s.data.toList.drop b.toNat):=by omega
   refine ⟨by omega,by omega,by omega,?_,?_⟩
   ·rw [q4,hb.2.2,q2]; omega
   ·rw [q4]; exact q3
 ·obtain ⟨h0,h1,h2,h3⟩:=hi
  have:gapS (s.data.toList.drop i.toNat) false=0:=by
   refine gapS_nb h3 ?_
   by_cases hlt:i < (s.size:Int)
   ·have g1:decide (i < (s.size:Int))=true:=decide_eq_true hlt
    rw [g1,Bool.true_and] at hc
    rw [drop_at (by omega)]
    have:=u8i (s.data.toList.getD i.toNat 0) 35
    rw [show (((35:UInt8).toNat:Nat):Int)=35 from rfl,hc] at this
    exact this.symm
   ·rw [List.drop_of_length_le (by omega)]; rfl
  show i=_
  omega
noncomputable def nextP (r:List UInt8):Token × Int × Int:=lex_next ⟨r.toArray⟩
noncomputable def lexStep (k:List UInt8→Nat→Except (Nat × Int) (List Token)) (l:List UInt8) (p:Nat):Except (Nat × Int) (List Token) :=
 bif (l.drop (gapS l false)).isEmpty then .ok []
 else bif (nextP (l.drop (gapS l false))).2.2 != 0 then .error (p+gapS l false,(nextP (l.drop (gapS l false))).2.2)
 else match k ((l.drop (gapS l false)).drop (nextP (l.drop (gapS l false))).2.1.toNat) (p+gapS l false+(nextP (l.drop (gapS l false))).2.1.toNat) with
  | .ok ts=>.ok ({ (nextP (l.drop (gapS l false))).1 with pos:=((p+gapS l false:Nat):Int) } :: ts)
  | .error e=>.error e
noncomputable def lexAll:Nat→List UInt8→Nat→Except (Nat × Int) (List Token)
 | 0,_,_=>.ok []
 | fu+1,l,p=>lexStep (lexAll fu) l p
noncomputable def lexA (l:List UInt8) (p:Nat):Except (Nat × Int) (List Token):=lexAll (l.length+1) l p
theorem nextP_len {r:List UInt8} (h:r.length≤1000000) (h1:r.isEmpty=false) (he:((nextP r).2.2 != 0)=false):1≤(nextP r).2.1∧(nextP r).2.1≤(r.length:Int):=by
 have hr:1≤r.length:=by cases r with | nil=>cases h1 | cons _ _=>simp
 have he:(nextP r).2.2=0:=by simpa using he
 exact lex_next_post ⟨r.toArray⟩ ⟨h,hr⟩ he
theorem lexStep_congr {k k':List UInt8→Nat→Except (Nat × Int) (List Token)} {l:List UInt8} {p:Nat} (hl:l.length≤1000000) (h:∀ l' p',l'.length < l.length→k l' p'=k' l' p'):lexStep k l p=lexStep k' l p:=by
 have g1:=gapS_le l false
 have hrl:(l.drop (gapS l false)).length=l.length - gapS l false:=List.length_drop
 unfold lexStep
 cases he:(l.drop (gapS l false)).isEmpty
 ·cases hn:(nextP (l.drop (gapS l false))).2.2 != 0
  ·have hb:=nextP_len (by omega) he hn
   have hr:1≤(l.drop (gapS l false)).length:=by
    cases hq:l.drop (gapS l false) with
    | nil=>rw [hq] at he; cases he
    | cons _ _=>simp
   rw [h _ _ (by rw [List.length_drop]; omega)]
  ·rfl
 ·rfl
theorem lexAll_fuel:∀ (fu fu':Nat) (l:List UInt8) (p:Nat),l.length≤1000000→l.length < fu→l.length < fu'→lexAll fu l p=lexAll fu' l p
 | 0,_,_,_,_,h,_=>absurd h (Nat.not_lt_zero _)
 | _+1,0,_,_,_,_,h=>absurd h (Nat.not_lt_zero _)
 | fu+1,fu'+1,l,p,hl,h,h'=>lexStep_congr hl fun l' p' hl'=>lexAll_fuel fu fu' l' p' (by omega) (by omega) (by omega)
theorem lexA_eq (l:List UInt8) (p:Nat) (hl:l.length≤1000000):lexA l p=lexStep lexA l p :=
 lexStep_congr (k:=lexAll l.length) hl fun l' p' hl'=>lexAll_fuel l.length (l'.length+1) l' p' (by omega) hl' (Nat.lt_succ_self _)
def scanR:Except (Nat × Int) (List Token)→List Token × Int × Int
 | .ok ts=>(ts,0,0)
 | .error e=>([],((e.1:Nat):Int),e.2)
def preE (o:List Token):Except (Nat × Int) (List Token)→Except (Nat × Int) (List Token)
 | .ok ts=>.ok (o++ts)
 | .error e=>.error e
theorem ext_arr (s:ByteArray) (i:Nat):s.extract i s.size=⟨(s.data.toList.drop i).toArray⟩:=by
 apply ByteArray.ext
 rw [← ext_drop,Array.toArray_toList]
theorem scan_eq (s:ByteArray) (hs:s.size≤20000):lex_Scan s=scanR (lexA s.data.toList 0):=by
 refine Sk.pvalE (lex_Scan_sk s) (L:=fun x=>x=scanR (lexA s.data.toList 0)) ?_
 unfold lex_Scan_sk
 simp only [Sk.pstE,Sk.isLoop,reduceCtorEq,ON,kk,lex_gap_k,lex_next_k]
 have hN:s.size=s.data.toList.length:=bsize s
 refine ⟨fun h=>absurd (of_decide_eq_true h) (by omega),fun _=>⟨fun i=>0≤i.2∧i.2≤(s.size:Int)∧lexA s.data.toList 0=preE i.1 (lexA (s.data.toList.drop i.2.toNat) i.2.toNat),⟨by decide,Int.natCast_nonneg _,?_⟩,fun i hi x hx _=>?_⟩⟩
 ·show _=preE [] (lexA (s.data.toList.drop 0) 0)
  rw [List.drop_zero]
  cases lexA s.data.toList 0 <;> rfl
 ·obtain ⟨h0,h1,h2⟩:=hi
  have hsz:(s.extract i.2.toNat s.size).size≤1000000:=by rw [ByteArray.size_extract]; omega
  rw [gap_eq _ hsz,ext_drop] at hx
  have g1:=gapS_le (s.data.toList.drop i.2.toNat) false
  rw [List.length_drop] at g1
  have hw:w64 (i.2+x)=i.2+x:=w64_id (by omega) (by omega)
  have hw2:(i.2+x).toNat=i.2.toNat+gapS (s.data.toList.drop i.2.toNat) false:=by omega
  rw [hw]
  rw [lexA_eq (s.data.toList.drop i.2.toNat) i.2.toNat (by rw [List.length_drop]; omega)] at h2
  unfold lexStep at h2
  rw [List.drop_drop] at h2
  have hxr:s.extract (i.2+x).toNat s.size=⟨(s.data.toList.drop (i.2.toNat+gapS (s.data.toList.drop i.2.toNat) false)).toArray⟩:=by rw [ext_arr,hw2]
  refine ⟨fun hc=>?_,fun hc y hy hyp=>?_⟩
  ·have hc:=eq_of_beq hc
   have:s.data.toList.drop (i.2.toNat+gapS (s.data.toList.drop i.2.toNat) false)=[]:=List.drop_of_length_le (by omega)
   rw [h2,this]
   show (i.1,0,0)=scanR (.ok (i.1++[]))
   rw [List.append_nil]; rfl
  ·have hc:=ne_of_beq_false hc
   have hne:(s.data.toList.drop (i.2.toNat+gapS (s.data.toList.drop i.2.toNat) false)).isEmpty=false:=by
    cases hq:s.data.toList.drop (i.2.toNat+gapS (s.data.toList.drop i.2.toNat) false) with
    | nil =>
     have:=congrArg List.length hq
     rw [List.length_drop] at this
     simp only [List.length_nil] at this
     omega
    | cons _ _=>rfl
   rw [hxr] at hy hyp
   have hy:y=nextP (s.data.toList.drop (i.2.toNat+gapS (s.data.toList.drop i.2.toNat) false)):=hy
   rw [hne,← hy] at h2
   simp only [cond_false] at h2
   have hlen:(⟨(s.data.toList.drop (i.2.toNat+gapS (s.data.toList.drop i.2.toNat) false)).toArray⟩:ByteArray).size=s.size - (i.2.toNat+gapS (s.data.toList.drop i.2.toNat) false):=by
    show (s.data.toList.drop (i.2.toNat+gapS (s.data.toList.drop i.2.toNat) false)).toArray.size=_
    rw [List.size_toArray,List.length_drop]; omega
   rw [hlen] at hyp
   have hyp:=hyp ⟨by omega,by omega⟩
   refine ⟨fun he=>?_,fun he _=>?_⟩
   ·rw [h2,he]
    show _=scanR (.error _)
    unfold scanR
    simp only
    rw [← hw2]
    rw [Int.toNat_of_nonneg (by omega)]
   ·rw [he] at h2
    simp only [cond_false] at h2
    have hb:=hyp (by simpa using he)
    have hw3:w64 (i.2+x+y.2.1)=i.2+x+y.2.1:=w64_id (by omega) (by omega)
    rw [hw3]
    refine ⟨⟨by omega,by omega,?_⟩,by omega⟩
    have e1:(i.2+x+y.2.1).toNat=i.2.toNat+gapS (s.data.toList.drop i.2.toNat) false+y.2.1.toNat:=by omega
    have e2:((i.2.toNat+gapS (s.data.toList.drop i.2.toNat) false:Nat):Int)=i.2+x:=by omega
    show _=preE (i.1++[_]) (lexA (s.data.toList.drop (i.2+x+y.2.1).toNat) (i.2+x+y.2.1).toNat)
    rw [h2,e1,List.drop_drop,e2]
    cases lexA (s.data.toList.drop (i.2.toNat+gapS (s.data.toList.drop i.2.toNat) false+y.2.1.toNat)) (i.2.toNat+gapS (s.data.toList.drop i.2.toNat) false+y.2.1.toNat) with
    | ok ts=>simp [preE]
    | error e=>rfl
def shT (φ:Int→Int) (t:Token):Token:={ t with pos:=φ t.pos }
theorem gapS_rep (l:List UInt8):∀ n:Nat,gapS (List.replicate n 32++l) false=n+gapS l false
 | 0=>by simp
 | n+1=>by
  have e:lex_blank (((32:UInt8).toNat:Nat):Int)=true:=by kernel_rfl
  rw [List.replicate_succ,List.cons_append]
  simp only [gapS,e,cond_true,cond_false]
  rw [gapS_rep l n]
  omega
def shW (φ:Int→Int) (w:Wrong):Wrong:={ w with pos:=φ w.pos }
def shR (φ:Int→Int) (x:Reader):Reader:={ x with l:=x.l.map (shT φ),end_:=φ x.end_ }
def mapX {α β:Type} (φ:Int→Int) (f:α→β):Except Wrong α→Except Wrong β
 | .ok a=>.ok (f a)
 | .error w=>.error (shW φ w)
theorem bindE_map {α β γ δ:Type} {φ:Int→Int} {f:α→β} {h:γ→δ} {v:Except Wrong α} {v':Except Wrong β} {g:β→Except Wrong δ} {g':α→Except Wrong γ} (hv:v'=mapX φ f v) (hg:∀ a,v=.ok a→g (f a)=mapX φ h (g' a)):bindE v' g=mapX φ h (bindE v g'):=by
 subst hv
 cases v with
 | error w=>rfl
 | ok a=>exact hg a rfl
section
variable (φ : Int → Int)
theorem sh_text (l:List Token) (i:Nat):((l.map (shT φ)).getD i default).text=(l.getD i default).text:=by
 by_cases h:i < l.length <;> simp [List.getD,h,shT]
theorem sh_kind (l:List Token) (i:Nat):((l.map (shT φ)).getD i default).kind=(l.getD i default).kind:=by
 by_cases h:i < l.length <;> simp [List.getD,h,shT]
theorem sh_n (l:List Token) (i:Nat):((l.map (shT φ)).getD i default).n=(l.getD i default).n:=by
 by_cases h:i < l.length <;> simp [List.getD,h,shT]
theorem sh_pos {l:List Token} {i:Nat} (h:i < l.length):((l.map (shT φ)).getD i default).pos=φ (l.getD i default).pos:=by
 simp [List.getD,h,shT]
theorem isP_sh (x:Reader) (s:ByteArray):isP (shR φ x) s=isP x s:=by
 unfold isP shR
 simp only [List.length_map,sh_text,sh_kind]
theorem advP_sh (x:Reader):advP (shR φ x)=shR φ (advP x):=rfl
theorem errP_sh {x:Reader} (h:0≤x.at_) (e:Int):errP (shR φ x) e=shW φ (errP x e):=by
 unfold errP shW
 cases hd:decide (x.at_ < ((x.l.length:Nat):Int))
 ·have:decide ((shR φ x).at_ < (((shR φ x).l.length:Nat):Int))=false:=by show decide (x.at_ < (((x.l.map (shT φ)).length:Nat):Int))=false; rw [List.length_map]; exact hd
  rw [this]; rfl
 ·have:decide ((shR φ x).at_ < (((shR φ x).l.length:Nat):Int))=true:=by show decide (x.at_ < (((x.l.map (shT φ)).length:Nat):Int))=true; rw [List.length_map]; exact hd
  rw [this]
  have hd:=of_decide_eq_true hd
  simp only [cond_true]
  show (⟨((x.l.map (shT φ)).getD x.at_.toNat default).pos,e⟩:Wrong)=_
  rw [sh_pos φ (by omega)]
theorem take_sh (x:Reader) (s:ByteArray):rule_reader_take (shR φ x) s=((rule_reader_take x s).1,shR φ (rule_reader_take x s).2):=by
 rw [takeP_eq,takeP_eq,isP_sh]
 cases isP x s <;> rfl
end
theorem isP_lt {x:Reader} {s:ByteArray} (h:isP x s=true):x.at_ < (x.l.length:Int):=by
 unfold isP at h
 simp only [Bool.and_eq_true,decide_eq_true_eq] at h
 exact h.1.1
theorem adv_good {x:Reader} (h:Rgd x) (hl:x.at_ < (x.l.length:Int)):Rgd (advP x)∧(advP x).at_=x.at_+1:=by
 unfold Rgd at *
 have hw:w64 (x.at_+1)=x.at_+1:=w64_id (by omega) (by omega)
 unfold advP
 simp only [hw]
 exact ⟨⟨by omega,by omega,by omega,by omega⟩,trivial⟩
theorem need_good {x y:Reader} {s:ByteArray} (h:Rgd x) (hy:rule_reader_need x s=.ok y):y=advP x∧Rgd y∧y.at_=x.at_+1:=by
 rw [needP_eq] at hy
 cases hi:isP x s with
 | false=>rw [hi] at hy; cases hy
 | true =>
  rw [hi] at hy
  cases hy
  have:=adv_good h (isP_lt hi)
  exact ⟨rfl,this.1,this.2⟩
theorem take_good {x:Reader} {s:ByteArray} (h:Rgd x):Rgd (rule_reader_take x s).2∧x.at_≤(rule_reader_take x s).2.at_∧(rule_reader_take x s).2.l=x.l:=by
 rw [takeP_eq]
 cases hi:isP x s with
 | false=>exact ⟨h,Int.le_refl _,rfl⟩
 | true =>
  have:=adv_good h (isP_lt hi)
  exact ⟨this.1,by show x.at_≤(advP x).at_; omega,rfl⟩
theorem name_good {x:Reader} {a:ByteArray × Reader} (hy:rule_reader_name x=.ok a):a.2=x∧x.at_ < (x.l.length:Int):=by
 rw [nameP_eq] at hy
 cases hc:(decide (x.at_≥((x.l.length:Nat):Int)))||(((x.l.getD x.at_.toNat default).kind) != 0) with
 | true=>rw [hc] at hy; cases hy
 | false =>
  rw [hc] at hy
  cases hy
  simp only [Bool.or_eq_false_iff,decide_eq_false_iff_not] at hc
  exact ⟨rfl,by omega⟩
theorem one_good {x:Reader} {names:List ByteArray} {a:Int × Reader} (hy:rule_reader_one x names=.ok a):a.2=x∧x.at_ < (x.l.length:Int):=by
 rw [oneP_eq] at hy
 cases hn:rule_reader_name x with
 | error e=>rw [hn] at hy; cases hy
 | ok b =>
  rw [hn] at hy
  have hb:=name_good hn
  have hy:(bif decide (slices_IndexS names b.1 < 0) then .error (errP b.2 10) else .ok (slices_IndexS names b.1,b.2):Except Wrong (Int × Reader))=.ok a:=hy
  cases hc:decide (slices_IndexS names b.1 < 0) with
  | true=>rw [hc] at hy; cases hy
  | false=>rw [hc] at hy; cases hy; exact hb
section
variable (φ : Int → Int)
theorem need_sh {x:Reader} (h:0≤x.at_) (s:ByteArray):rule_reader_need (shR φ x) s=mapX φ (shR φ) (rule_reader_need x s):=by
 rw [needP_eq,needP_eq,isP_sh,errP_sh φ h]
 cases isP x s <;> rfl
theorem name_sh {x:Reader} (h:0≤x.at_):rule_reader_name (shR φ x)=mapX φ (fun a=>(a.1,shR φ a.2)) (rule_reader_name x):=by
 rw [nameP_eq,nameP_eq,errP_sh φ h]
 have e:((decide ((shR φ x).at_≥(((shR φ x).l.length:Nat):Int)))||((((shR φ x).l.getD (shR φ x).at_.toNat default).kind) != 0))=((decide (x.at_≥((x.l.length:Nat):Int)))||(((x.l.getD x.at_.toNat default).kind) != 0)):=by
  unfold shR
  simp only [List.length_map,sh_kind]
 have e2:((shR φ x).l.getD (shR φ x).at_.toNat default).text=(x.l.getD x.at_.toNat default).text:=sh_text φ _ _
 rw [e,e2]
 cases (decide (x.at_≥((x.l.length:Nat):Int)))||(((x.l.getD x.at_.toNat default).kind) != 0) <;> rfl
theorem one_sh {x:Reader} (h:0≤x.at_) (names:List ByteArray):rule_reader_one (shR φ x) names=mapX φ (fun a=>(a.1,shR φ a.2)) (rule_reader_one x names):=by
 rw [oneP_eq,oneP_eq]
 refine bindE_map (name_sh φ h) fun a ha=>?_
 have hb:=name_good ha
 simp only
 rw [errP_sh φ (by rw [hb.1]; exact h)]
 cases decide (slices_IndexS names a.1 < 0) <;> rfl
abbrev pr (a:Term × Reader):Term × Reader:=(a.1,shR φ a.2)
structure AtomOK (rv:Reader→Except Wrong (Term × Reader)) (x:Reader):Prop where
 sh:∀ y,Rgd y→y.l.length=x.l.length→x.at_≤y.at_→rv (shR φ y)=mapX φ (pr φ) (rv y)
 ps:∀ y a,Rgd y→y.l.length=x.l.length→x.at_≤y.at_→rv y=.ok a→Rgd a.2∧a.2.l.length=y.l.length∧y.at_ < a.2.at_
theorem termP_sh {rv:Reader→Except Wrong (Term × Reader)} {x:Reader} (hg:Rgd x) (H:AtomOK φ rv x):termP rv (shR φ x)=mapX φ (pr φ) (termP rv x):=by
 rw [termP_ops,termP_ops,isP_sh,isP_sh,advP_sh]
 cases h1:isP x (⟨#[110,111,116]⟩:ByteArray)
 ·simp only [cond_false]
  cases h2:isP x (⟨#[105,102]⟩:ByteArray)
  ·simp only [cond_false]
   refine bindE_map (H.sh x hg rfl (Int.le_refl _)) fun a ha=>?_
   have q:=H.ps x a hg rfl (Int.le_refl _) ha
   unfold opsF
   have e:(fun o:Int × ByteArray=>isP (pr φ a).2 o.2)=fun o=>isP a.2 o.2:=by funext o; exact isP_sh φ _ _
   rw [e]
   cases hf:rule_operators.find? fun o=>isP a.2 o.2 with
   | none=>rfl
   | some o =>
    have ho:=List.find?_some hf
    have g:=adv_good q.1 (isP_lt ho)
    exact bindE_map (H.sh (advP a.2) g.1 q.2.1 (by omega)) fun b hb=>rfl
  ·simp only [cond_true]
   have g:=adv_good hg (isP_lt h2)
   refine bindE_map (H.sh (advP x) g.1 rfl (by omega)) fun a ha=>?_
   have q:=H.ps (advP x) a g.1 rfl (by omega) ha
   refine bindE_map (need_sh φ q.1.1 _) fun y hy=>?_
   have gy:=need_good q.1 hy
   have ly:y.l.length=x.l.length:=by rw [gy.1]; exact q.2.1
   refine bindE_map (H.sh y gy.2.1 ly (by omega)) fun b hb=>?_
   have qb:=H.ps y b gy.2.1 ly (by omega) hb
   refine bindE_map (need_sh φ qb.1.1 _) fun z hz=>?_
   have gz:=need_good qb.1 hz
   have lz:z.l.length=x.l.length:=by rw [gz.1]; exact qb.2.1.trans ly
   exact bindE_map (H.sh z gz.2.1 lz (by omega)) fun c hc=>rfl
 ·simp only [cond_true]
  have g:=adv_good hg (isP_lt h1)
  exact bindE_map (H.sh (advP x) g.1 rfl (by omega)) fun a ha=>rfl
end
theorem atom_ps {fu:Nat} {y:Reader} {a:Term × Reader} (hg:Rgd y) (hm:y.l.length - y.at_.toNat+1≤fu) (h:rule_reader_atom_n fu y=.ok a):Rgd a.2∧a.2.l.length=y.l.length∧y.at_ < a.2.at_:=by
 have hp:OkP (fun a:Term × Reader=>Rs y a.2∧y.at_+1≤a.2.at_) (rule_reader_atom_n fu y):=(rule_reader_atom_fnN fu y hm hg).2
 rw [h] at hp
 obtain ⟨⟨h1,h2,h3,h4⟩,h5⟩:=hp
 unfold Rgd at *
 exact ⟨⟨by omega,by omega,by omega,by omega⟩,h1,by omega⟩
theorem term_ps {fu:Nat} {x:Reader} {a:Term × Reader} (hg:Rgd x) (hm:x.l.length - x.at_.toNat+1≤fu) (h:termP (rule_reader_atom_n fu) x=.ok a):Rgd a.2∧a.2.l.length=x.l.length∧x.at_ < a.2.at_:=by
 have hp:=rule_reader_term_w_post (rule_reader_atom_n fu) (fun y=>y.l.length - y.at_.toNat+1≤fu∧Rgd y) (fun y h=>rule_reader_atom_fnN fu y h.1 h.2) x ⟨hg,fun y hy hr=>⟨by have:=hr.2.2.1; have:=hr.1; omega,hy⟩⟩
 rw [termW_eq,h] at hp
 obtain ⟨⟨h1,h2,h3,h4⟩,h5⟩:=hp
 unfold Rgd at *
 exact ⟨⟨by omega,by omega,by omega,by omega⟩,h1,by omega⟩
section
variable (φ : Int → Int)
theorem numC_sh (y:Reader):((decide ((shR φ y).at_ < (((shR φ y).l.length:Nat):Int)))&&((((shR φ y).l.getD (shR φ y).at_.toNat default).kind) == 1))=((decide (y.at_ < ((y.l.length:Nat):Int)))&&(((y.l.getD y.at_.toNat default).kind) == 1)):=by
 unfold shR
 simp only [List.length_map,sh_kind]
theorem numN_sh (y:Reader):((shR φ y).l.getD (shR φ y).at_.toNat default).n=(y.l.getD y.at_.toNat default).n:=sh_n φ _ _
theorem atom_sh:∀ (fu:Nat) (x:Reader),Rgd x→x.l.length - x.at_.toNat+1≤fu→rule_reader_atom_n fu (shR φ x)=mapX φ (pr φ) (rule_reader_atom_n fu x)
 | 0,x,_,h=>absurd h (by omega)
 | fu+1,x,hg,hm=>by
  rw [atom_succ,atom_succ]
  unfold atomP
  rw [isP_sh,isP_sh,isP_sh,isP_sh,advP_sh,advP_sh,numC_sh,numC_sh,numN_sh,numN_sh]
  cases h1:isP x (⟨#[40]⟩:ByteArray)
  ·simp only [cond_false]
   cases h2:isP x (⟨#[116,114,117,101]⟩:ByteArray)
   ·simp only [cond_false]
    cases h3:isP x (⟨#[102,97,108,115,101]⟩:ByteArray)
    ·simp only [cond_false]
     cases h4:isP x (⟨#[45]⟩:ByteArray)
     ·simp only [cond_false]
      cases (decide (x.at_ < ((x.l.length:Nat):Int)))&&(((x.l.getD x.at_.toNat default).kind) == 1)
      ·simp only [cond_false]
       exact bindE_map (one_sh φ hg.1 _) fun a ha=>rfl
      ·rfl
     ·simp only [cond_true]
      have g:=adv_good hg (isP_lt h4)
      rw [errP_sh φ g.1.1]
      cases (decide ((advP x).at_ < (((advP x).l.length:Nat):Int)))&&((((advP x).l.getD (advP x).at_.toNat default).kind) == 1) <;> rfl
    ·rfl
   ·rfl
  ·simp only [cond_true]
   have g:=adv_good hg (isP_lt h1)
   have hm2:(advP x).l.length - (advP x).at_.toNat+1≤fu:=by
    have e:(advP x).l=x.l:=rfl
    have:=isP_lt h1
    have:=hg.1
    rw [e,g.2]; omega
   have H:AtomOK φ (rule_reader_atom_n fu) (advP x):=⟨fun y hy hl ha=>atom_sh fu y hy (by have:=hy.1; have:=g.1.1; omega),fun y a hy hl ha hr=>atom_ps hy (by have:=hy.1; have:=g.1.1; omega) hr⟩
   refine bindE_map (termP_sh φ g.1 H) fun a ha=>?_
   have q:=term_ps g.1 hm2 ha
   exact bindE_map (need_sh φ q.1.1 _) fun y hy=>rfl
theorem atomF_sh {x:Reader} (hg:Rgd x):rule_reader_atom (shR φ x)=mapX φ (pr φ) (rule_reader_atom x):=by
 have e:(shR φ x).l.length=x.l.length:=by unfold shR; simp
 have:=atom_sh φ (x.l.length - x.at_.toNat+1) x hg (Nat.le_refl _)
 unfold rule_reader_atom
 rw [e]
 exact this
theorem atomF_ps {y:Reader} {a:Term × Reader} (hg:Rgd y) (h:rule_reader_atom y=.ok a):Rgd a.2∧a.2.l.length=y.l.length∧y.at_ < a.2.at_:=atom_ps hg (Nat.le_refl _) h
theorem term_sh {x:Reader} (hg:Rgd x):rule_reader_term (shR φ x)=mapX φ (pr φ) (rule_reader_term x):=by
 rw [termP_eq,termP_eq]
 exact termP_sh φ hg ⟨fun y hy _ _=>atomF_sh φ hy,fun y a hy _ _ hr=>atomF_ps hy hr⟩
end
theorem termF_ps {x:Reader} {a:Term × Reader} (hg:Rgd x) (h:rule_reader_term x=.ok a):Rgd a.2∧a.2.l.length=x.l.length∧x.at_ < a.2.at_:=by
 have hp:=rule_reader_term_post x hg
 rw [h] at hp
 obtain ⟨⟨h1,h2,h3,h4⟩,h5⟩:=hp
 unfold Rgd at *
 exact ⟨⟨by omega,by omega,by omega,by omega⟩,h1,by omega⟩
theorem bindE_ok {E α β:Type} {v:Except E α} {f:α→Except E β} {b:β} (h:bindE v f=.ok b):∃ a,v=.ok a∧f a=.ok b:=by
 cases v with
 | error e=>cases h
 | ok a=>exact ⟨a,rfl,h⟩
theorem cond_okF {E α:Type} {c:Bool} {e:E} {v:Except E α} {a:α} (h:(bif c then .error e else v)=.ok a):c=false∧v=.ok a:=by
 cases c
 ·exact ⟨rfl,h⟩
 ·cases h
theorem cond_okT {E α:Type} {c:Bool} {e:E} {v:Except E α} {a:α} (h:(bif c then v else .error e)=.ok a):c=true∧v=.ok a:=by
 cases c
 ·cases h
 ·exact ⟨rfl,h⟩
theorem choice_good {x:Reader} {o:Order} {p:Reader × Order} (hg:Rgd x) (h:rule_reader_choice x o=.ok p):Rgd p.1∧p.1.l.length=x.l.length∧x.at_ < p.1.at_:=by
 rw [choiceP_eq] at h
 obtain ⟨a,ha,h⟩:=bindE_ok h
 have ga:=one_good ha
 obtain ⟨-,h⟩:=cond_okF h
 obtain ⟨y,hy,h⟩:=bindE_ok h
 rw [ga.1] at hy
 have g1:=adv_good hg ga.2
 have gy:=need_good g1.1 hy
 obtain ⟨b,hb,h⟩:=bindE_ok h
 have gb:=one_good hb
 obtain ⟨z,hz,h⟩:=bindE_ok h
 rw [gb.1] at hz
 have g2:=adv_good gy.2.1 gb.2
 have gt:=take_good (s:=(⟨#[119,104,111,108,101]⟩:ByteArray)) g2.1
 have gz:=need_good gt.1 hz
 cases h
 refine ⟨gz.2.1,?_,by show x.at_ < z.at_; omega⟩
 show z.l.length=_
 rw [gz.1]
 show (rule_reader_take (advP y) _).2.l.length=_
 rw [gt.2.2]
 show y.l.length=_
 rw [gy.1]
 rfl
theorem rule_good {x:Reader} {o:Order} {p:Reader × Order} (hg:Rgd x) (h:rule_reader_rule x o=.ok p):Rgd p.1∧p.1.l.length=x.l.length∧x.at_ < p.1.at_:=by
 rw [ruleP_eq] at h
 obtain ⟨a,ha,h⟩:=bindE_ok h
 have ga:=one_good ha
 obtain ⟨-,h⟩:=cond_okF h
 obtain ⟨y,hy,h⟩:=bindE_ok h
 rw [ga.1] at hy
 have g1:=adv_good hg ga.2
 have gy:=need_good g1.1 hy
 obtain ⟨t,ht,h⟩:=bindE_ok h
 have gt:=termF_ps gy.2.1 ht
 obtain ⟨hi,h⟩:=cond_okT h
 obtain ⟨-,h⟩:=cond_okF h
 have g2:=adv_good gt.1 (isP_lt hi)
 cases h
 refine ⟨g2.1,?_,by show x.at_ < (advP t.2).at_; omega⟩
 show t.2.l.length=_
 rw [gt.2.1,gy.1]
 rfl
section
variable (φ : Int → Int)
theorem choice_sh {x:Reader} (hg:Rgd x) (o:Order):rule_reader_choice (shR φ x) o=mapX φ (fun p=>(shR φ p.1,p.2)) (rule_reader_choice x o):=by
 rw [choiceP_eq,choiceP_eq]
 refine bindE_map (one_sh φ hg.1 _) fun a ha=>?_
 have ga:=one_good ha
 simp only
 rw [errP_sh φ (by rw [ga.1]; exact hg.1),advP_sh]
 cases slices_ContainsFunc_89 o.choices a.1
 ·simp only [cond_false]
  have g1:=adv_good hg ga.2
  rw [ga.1]
  refine bindE_map (need_sh φ g1.1.1 _) fun y hy=>?_
  have gy:=need_good g1.1 hy
  refine bindE_map (one_sh φ gy.2.1.1 _) fun b hb=>?_
  have gb:=one_good hb
  simp only
  rw [advP_sh,take_sh,gb.1]
  have g2:=adv_good gy.2.1 gb.2
  have gt:=take_good (s:=(⟨#[119,104,111,108,101]⟩:ByteArray)) g2.1
  exact bindE_map (need_sh φ gt.1.1 _) fun z hz=>rfl
 ·rfl
theorem rule_sh {x:Reader} (hg:Rgd x) (o:Order):rule_reader_rule (shR φ x) o=mapX φ (fun p=>(shR φ p.1,p.2)) (rule_reader_rule x o):=by
 rw [ruleP_eq,ruleP_eq]
 refine bindE_map (one_sh φ hg.1 _) fun a ha=>?_
 have ga:=one_good ha
 simp only
 rw [errP_sh φ (by rw [ga.1]; exact hg.1),advP_sh]
 cases slices_ContainsFunc_91 o.rules a.1
 ·simp only [cond_false]
  have g1:=adv_good hg ga.2
  rw [ga.1]
  refine bindE_map (need_sh φ g1.1.1 _) fun y hy=>?_
  have gy:=need_good g1.1 hy
  refine bindE_map (term_sh φ gy.2.1) fun t ht=>?_
  have gt:=termF_ps gy.2.1 ht
  simp only
  rw [isP_sh,errP_sh φ gt.1.1,errP_sh φ gt.1.1,advP_sh]
  cases isP t.2 (⟨#[59]⟩:ByteArray)
  ·rfl
  ·simp only [cond_true]
   cases (term_Check t.1).2 == 6 <;> rfl
 ·rfl
theorem iter_map {α β ι κ:Type} {f:ι→α ⊕ ι} {f':κ→β ⊕ κ} {S:ι→κ} {A:α→β} {d:α} {d':β} (I:ι→Prop) (m:ι→Nat) (h:∀ i,I i→(∃ a,f i=.inl a∧f' (S i)=.inl (A a))∨∃ j,f i=.inr j∧f' (S i)=.inr (S j)∧I j∧m j < m i) :
  ∀ (n:Nat) (i:ι),I i→m i < n→iter f' d' n (S i)=A (iter f d n i)
 | 0,i,_,hn=>absurd hn (Nat.not_lt_zero _)
 | n+1,i,hi,hn=>by
  unfold iter
  rcases h i hi with ⟨a,h1,h2⟩ | ⟨j,h1,h2,h3,h4⟩
  ·rw [h1,h2]
  ·rw [h1,h2]
   exact iter_map I m h n j h3 (by omega)
def bmap:Except Wrong Reader ⊕ (Order × Reader)→Except Wrong Reader ⊕ (Order × Reader)
 | .inl v=>.inl (mapX φ (shR φ) v)
 | .inr b=>.inr (b.1,shR φ b.2)
theorem body_sh (i:Order × Reader) (hg:Rgd i.2):bodyL (i.1,shR φ i.2)=bmap φ (bodyL i):=by
 unfold bodyL
 have e:(shR φ i.2).l.length=i.2.l.length:=by unfold shR; simp
 show iter bodyP default ((shR φ i.2).l.length - i.2.at_.toNat+1) _=_
 rw [e]
 refine iter_map (S:=fun i:Order × Reader=>(i.1,shR φ i.2)) (A:=bmap φ) (fun i=>Rgd i.2) (fun i=>i.2.l.length - i.2.at_.toNat) (fun i hi=>?_) _ i hg (Nat.lt_succ_self _)
 unfold bodyP
 simp only
 rw [isP_sh,isP_sh,isP_sh,advP_sh,errP_sh φ hi.1]
 cases h1:isP i.2 (⟨#[125]⟩:ByteArray)
 ·simp only [cond_false]
  cases h2:isP i.2 (⟨#[99,104,111,111,115,101]⟩:ByteArray)
  ·simp only [cond_false]
   cases h3:isP i.2 (⟨#[114,117,108,101]⟩:ByteArray)
   ·left; exact ⟨_,rfl,rfl⟩
   ·simp only [cond_true]
    have g:=adv_good hi (isP_lt h3)
    rw [rule_sh φ g.1]
    cases hr:rule_reader_rule (advP i.2) i.1 with
    | error e=>left; exact ⟨_,rfl,rfl⟩
    | ok p =>
     have gp:=rule_good g.1 hr
     right
     refine ⟨_,rfl,rfl,gp.1,?_⟩
     have e2:(advP i.2).l.length=i.2.l.length:=rfl
     have:=isP_lt h3
     have:=hi.1
     show p.1.l.length - p.1.at_.toNat < _
     omega
  ·simp only [cond_true]
   have g:=adv_good hi (isP_lt h2)
   rw [choice_sh φ g.1]
   cases hr:rule_reader_choice (advP i.2) i.1 with
   | error e=>left; exact ⟨_,rfl,rfl⟩
   | ok p =>
    have gp:=choice_good g.1 hr
    right
    refine ⟨_,rfl,rfl,gp.1,?_⟩
    have e2:(advP i.2).l.length=i.2.l.length:=rfl
    have:=isP_lt h2
    have:=hi.1
    show p.1.l.length - p.1.at_.toNat < _
    omega
 ·left; exact ⟨_,rfl,rfl⟩
theorem order_sh {x:Reader} (hg:Rgd x):rule_reader_order (shR φ x)=mapX φ (shR φ) (rule_reader_order x):=by
 rw [orderP_eq,orderP_eq]
 refine bindE_map (need_sh φ hg.1 _) fun a ha=>?_
 have ga:=need_good hg ha
 refine bindE_map (name_sh φ ga.2.1.1) fun b hb=>?_
 have gb:=name_good hb
 simp only
 have gb2:Rgd b.2:=by rw [gb.1]; exact ga.2.1
 rw [errP_sh φ gb2.1,errP_sh φ gb2.1,advP_sh,take_sh]
 show (bif slices_ContainsFunc_44 b.2.list _ then _ else bif ((b.2.list.length:Nat):Int) == 20 then _ else _)=_
 cases slices_ContainsFunc_44 b.2.list ({ name:=b.1,accepts:=false,choices:=[],rules:=[] }:Order)
 ·simp only [cond_false]
  cases ((b.2.list.length:Nat):Int) == 20
  ·simp only [cond_false]
   have g1:=adv_good gb2 (by rw [gb.1]; exact gb.2)
   have gt:=take_good (s:=(⟨#[97,99,99,101,112,116,115]⟩:ByteArray)) g1.1
   refine bindE_map (need_sh φ gt.1.1 _) fun d hd=>?_
   have gd:=need_good gt.1 hd
   rw [body_sh φ (_,d) gd.2.1]
   cases bodyL (({ name:=b.1,accepts:=(rule_reader_take (advP b.2) (⟨#[97,99,99,101,112,116,115]⟩:ByteArray)).1,choices:=[],rules:=[] }:Order),d) with
   | inl v=>rfl
   | inr c=>rfl
  ·rfl
 ·rfl
theorem order_good {x y:Reader} (hg:Rgd x) (h:rule_reader_order x=.ok y):Rgd y∧y.l.length=x.l.length∧x.at_ < y.at_:=by
 have hp:=rule_reader_order_post x hg
 rw [h] at hp
 obtain ⟨h1,h2,h3,h4⟩:=hp
 unfold Rgd at *
 exact ⟨⟨by omega,by omega,by omega,by omega⟩,h1,by omega⟩
theorem read_sh {x:Reader} (hg:Rgd x):readP (shR φ x)=mapX φ id (readP x):=by
 unfold readP
 have e:(shR φ x).l.length=x.l.length:=by unfold shR; simp
 rw [e]
 have:=iter_map (f:=ordersP) (f':=ordersP) (S:=shR φ) (A:=fun v:Except Wrong (List Order) ⊕ Reader=>match v with | .inl w=>.inl (mapX φ id w) | .inr b=>.inr (shR φ b)) (d:=default) (d':=default) (fun i=>Rgd i) (fun i=>i.l.length - i.at_.toNat) (fun i hi=>by
  have e:(shR φ i).l.length=i.l.length:=by unfold shR; simp
  unfold ordersP
  rw [e,order_sh φ hi]
  show (∃ a,_∧(bif decide (i.at_ < _) then _ else _)=_)∨∃ j,_∧(bif decide (i.at_ < _) then _ else _)=_∧_
  cases hd:decide (i.at_ < ((i.l.length:Nat):Int))
  ·left; exact ⟨_,rfl,rfl⟩
  ·simp only [cond_true]
   cases hr:rule_reader_order i with
   | error e=>left; exact ⟨_,rfl,rfl⟩
   | ok y =>
    have gy:=order_good hi hr
    right
    refine ⟨_,rfl,rfl,gy.1,?_⟩
    have:=of_decide_eq_true hd
    have:=hi.1
    omega) (x.l.length - x.at_.toNat+1) x hg (Nat.lt_succ_self _)
 show pickS (iter ordersP default (x.l.length - x.at_.toNat+1) (shR φ x)) _=_
 rw [this]
 cases iter ordersP default (x.l.length - x.at_.toNat+1) x with
 | inl w=>rfl
 | inr b=>rfl
end
def NZ {α:Type} (v:Except Wrong α):Prop:=∀ w,v=.error w→w.e≠0
theorem nz_ok {α:Type} (a:α):NZ (.ok a):=fun w h=>by cases h
theorem nz_err {α:Type} (x:Reader) {e:Int} (h:e≠0):NZ (.error (errP x e):Except Wrong α):=fun w hw=>by cases hw; exact h
theorem nz_bind {α β:Type} {v:Except Wrong α} {f:α→Except Wrong β} (h:NZ v) (hf:∀ a,v=.ok a→NZ (f a)):NZ (bindE v f):=by
 cases v with
 | error e=>exact fun w hw=>h w (by cases hw; rfl)
 | ok a=>exact hf a rfl
theorem nz_cond {α:Type} {c:Bool} {v w:Except Wrong α} (h:c=true→NZ v) (h2:c=false→NZ w):NZ (bif c then v else w):=by
 cases c
 ·exact h2 rfl
 ·exact h rfl
theorem need_nz (x:Reader) (s:ByteArray):NZ (rule_reader_need x s):=by
 rw [needP_eq]
 exact nz_cond (fun _=>nz_ok _) (fun _=>nz_err _ (by decide))
theorem name_nz (x:Reader):NZ (rule_reader_name x):=by
 rw [nameP_eq]
 exact nz_cond (fun _=>nz_err _ (by decide)) (fun _=>nz_ok _)
theorem one_nz (x:Reader) (names:List ByteArray):NZ (rule_reader_one x names):=by
 rw [oneP_eq]
 exact nz_bind (name_nz x) fun a _=>nz_cond (fun _=>nz_err _ (by decide)) (fun _=>nz_ok _)
theorem termP_nz {rv:Reader→Except Wrong (Term × Reader)} {x:Reader} (hg:Rgd x) (H:∀ y,Rgd y→y.l.length=x.l.length→x.at_≤y.at_→NZ (rv y)) (HP:AtomOK id rv x):NZ (termP rv x):=by
 rw [termP_ops]
 refine nz_cond (fun h1=>?_) fun h1=>nz_cond (fun h2=>?_) fun h2=>?_
 ·have g:=adv_good hg (isP_lt h1)
  exact nz_bind (H _ g.1 rfl (by omega)) fun a _=>nz_ok _
 ·have g:=adv_good hg (isP_lt h2)
  refine nz_bind (H _ g.1 rfl (by omega)) fun a ha=>nz_bind (need_nz _ _) fun y hy=>?_
  have q:=HP.ps (advP x) a g.1 rfl (by omega) ha
  have gy:=need_good q.1 hy
  have ly:y.l.length=x.l.length:=by rw [gy.1]; exact q.2.1
  refine nz_bind (H _ gy.2.1 ly (by omega)) fun b hb=>nz_bind (need_nz _ _) fun z hz=>?_
  have qb:=HP.ps y b gy.2.1 ly (by omega) hb
  have gz:=need_good qb.1 hz
  have lz:z.l.length=x.l.length:=by rw [gz.1]; exact qb.2.1.trans ly
  exact nz_bind (H _ gz.2.1 lz (by omega)) fun c _=>nz_ok _
 ·refine nz_bind (H _ hg rfl (Int.le_refl _)) fun a ha=>?_
  have q:=HP.ps x a hg rfl (Int.le_refl _) ha
  unfold opsF
  cases hf:rule_operators.find? fun o=>isP a.2 o.2 with
  | none=>exact nz_ok _
  | some o =>
   have ho:=List.find?_some hf
   have g:=adv_good q.1 (isP_lt ho)
   exact nz_bind (H _ g.1 q.2.1 (by omega)) fun b _=>nz_ok _
theorem atomOK_n {fu:Nat} {x:Reader} (hg:Rgd x) (hm:x.l.length - x.at_.toNat+1≤fu):AtomOK id (rule_reader_atom_n fu) x :=
 ⟨fun y hy hl ha=>atom_sh id fu y hy (by have:=hy.1; have:=hg.1; omega),fun y a hy hl ha hr=>atom_ps hy (by have:=hy.1; have:=hg.1; omega) hr⟩
theorem atom_nz:∀ (fu:Nat) (x:Reader),Rgd x→x.l.length - x.at_.toNat+1≤fu→NZ (rule_reader_atom_n fu x)
 | 0,x,_,h=>absurd h (by omega)
 | fu+1,x,hg,hm=>by
  rw [atom_succ]
  unfold atomP
  refine nz_cond (fun h1=>?_) fun _=>nz_cond (fun _=>nz_ok _) fun _=>nz_cond (fun _=>nz_ok _) fun _=>nz_cond (fun _=>nz_cond (fun _=>nz_ok _) fun _=>nz_err _ (by decide)) fun _=>nz_cond (fun _=>nz_ok _) fun _=>nz_bind (one_nz _ _) fun a _=>nz_ok _
  have g:=adv_good hg (isP_lt h1)
  have hm2:(advP x).l.length - (advP x).at_.toNat+1≤fu:=by
   have e:(advP x).l=x.l:=rfl
   have:=isP_lt h1
   have:=hg.1
   rw [e,g.2]; omega
  exact nz_bind (termP_nz g.1 (fun y hy hl ha=>atom_nz fu y hy (by have:=hy.1; have:=g.1.1; omega)) (atomOK_n g.1 hm2)) fun a _=>nz_bind (need_nz _ _) fun y _=>nz_ok _
theorem term_nz {x:Reader} (hg:Rgd x):NZ (rule_reader_term x):=by
 rw [termP_eq]
 exact termP_nz hg (fun y hy _ _=>atom_nz _ y hy (Nat.le_refl _)) ⟨fun y hy _ _=>atomF_sh id hy,fun y a hy _ _ hr=>atomF_ps hy hr⟩
theorem choice_nz (x:Reader) (o:Order):NZ (rule_reader_choice x o):=by
 rw [choiceP_eq]
 exact nz_bind (one_nz _ _) fun a _=>nz_cond (fun _=>nz_err _ (by decide)) fun _=>nz_bind (need_nz _ _) fun y _=>nz_bind (one_nz _ _) fun b _=>nz_bind (need_nz _ _) fun z _=>nz_ok _
theorem rule_nz {x:Reader} (hg:Rgd x) (o:Order):NZ (rule_reader_rule x o):=by
 rw [ruleP_eq]
 refine nz_bind (one_nz _ _) fun a ha=>nz_cond (fun _=>nz_err _ (by decide)) fun _=>nz_bind (need_nz _ _) fun y hy=>?_
 have ga:=one_good ha
 rw [ga.1] at hy
 have g1:=adv_good hg ga.2
 have gy:=need_good g1.1 hy
 exact nz_bind (term_nz gy.2.1) fun t _=>nz_cond (fun _=>nz_cond (fun _=>nz_err _ (by decide)) fun _=>nz_ok _) fun _=>nz_err _ (by decide)
theorem iter_inv {α ι:Type} {f:ι→α ⊕ ι} {d:α} (I:ι→Prop) (m:ι→Nat) (L:α→Prop) (h:∀ i,I i→(∃ a,f i=.inl a∧L a)∨∃ j,f i=.inr j∧I j∧m j < m i):∀ (n:Nat) (i:ι),I i→m i < n→L (iter f d n i)
 | 0,i,_,hn=>absurd hn (Nat.not_lt_zero _)
 | n+1,i,hi,hn=>by
  unfold iter
  rcases h i hi with ⟨a,h1,h2⟩ | ⟨j,h1,h3,h4⟩
  ·rw [h1]; exact h2
  ·rw [h1]; exact iter_inv I m L h n j h3 (by omega)
theorem body_nz (i:Order × Reader) (hg:Rgd i.2):∀ v,bodyL i=.inl v→NZ v:=by
 unfold bodyL
 refine iter_inv (fun i=>Rgd i.2) (fun i=>i.2.l.length - i.2.at_.toNat) (fun r:Except Wrong Reader ⊕ (Order × Reader)=>∀ v,r=.inl v→NZ v) (fun i hi=>?_) _ i hg (Nat.lt_succ_self _)
 unfold bodyP
 cases h1:isP i.2 (⟨#[125]⟩:ByteArray)
 ·simp only [cond_false]
  cases h2:isP i.2 (⟨#[99,104,111,111,115,101]⟩:ByteArray)
  ·simp only [cond_false]
   cases h3:isP i.2 (⟨#[114,117,108,101]⟩:ByteArray)
   ·left; exact ⟨_,rfl,fun v hv=>by cases hv; exact nz_err _ (by decide)⟩
   ·simp only [cond_true]
    have g:=adv_good hi (isP_lt h3)
    cases hr:rule_reader_rule (advP i.2) i.1 with
    | error e=>left; exact ⟨_,rfl,fun v hv=>by cases hv; exact fun w hw=>by cases hw; exact rule_nz g.1 i.1 _ hr⟩
    | ok p =>
     have gp:=rule_good g.1 hr
     right
     refine ⟨_,rfl,gp.1,?_⟩
     have e2:(advP i.2).l.length=i.2.l.length:=rfl
     have:=isP_lt h3
     have:=hi.1
     show p.1.l.length - p.1.at_.toNat < _
     omega
  ·simp only [cond_true]
   have g:=adv_good hi (isP_lt h2)
   cases hr:rule_reader_choice (advP i.2) i.1 with
   | error e=>left; exact ⟨_,rfl,fun v hv=>by cases hv; exact fun w hw=>by cases hw; exact choice_nz _ i.1 _ hr⟩
   | ok p =>
    have gp:=choice_good g.1 hr
    right
    refine ⟨_,rfl,gp.1,?_⟩
    have e2:(advP i.2).l.length=i.2.l.length:=rfl
    have:=isP_lt h2
    have:=hi.1
    show p.1.l.length - p.1.at_.toNat < _
    omega
 ·left; exact ⟨_,rfl,fun v hv=>by cases hv⟩
theorem order_nz {x:Reader} (hg:Rgd x):NZ (rule_reader_order x):=by
 rw [orderP_eq]
 refine nz_bind (need_nz _ _) fun a ha=>nz_bind (name_nz _) fun b hb=>nz_cond (fun _=>nz_err _ (by decide)) fun _=>nz_cond (fun _=>nz_err _ (by decide)) fun _=>nz_bind (need_nz _ _) fun d hd=>?_
 have ga:=need_good hg ha
 have gb:=name_good hb
 have gb2:Rgd b.2:=by rw [gb.1]; exact ga.2.1
 have g1:=adv_good gb2 (by rw [gb.1]; exact gb.2)
 have gt:=take_good (s:=(⟨#[97,99,99,101,112,116,115]⟩:ByteArray)) g1.1
 have gd:=need_good gt.1 hd
 have hn:=body_nz (({ name:=b.1,accepts:=(rule_reader_take (advP b.2) (⟨#[97,99,99,101,112,116,115]⟩:ByteArray)).1,choices:=[],rules:=[] }:Order),d) gd.2.1
 cases hc:bodyL (({ name:=b.1,accepts:=(rule_reader_take (advP b.2) (⟨#[97,99,99,101,112,116,115]⟩:ByteArray)).1,choices:=[],rules:=[] }:Order),d) with
 | inl v=>exact hn v hc
 | inr c=>exact nz_ok _
theorem read_nz {x:Reader} (hg:Rgd x):NZ (readP x):=by
 unfold readP
 have:=iter_inv (f:=ordersP) (d:=default) (fun i=>Rgd i) (fun i=>i.l.length - i.at_.toNat) (fun r:Except Wrong (List Order) ⊕ Reader=>∀ v,r=.inl v→NZ v) (fun i hi=>by
  unfold ordersP
  cases hd:decide (i.at_ < ((i.l.length:Nat):Int))
  ·left; exact ⟨_,rfl,fun v hv=>by cases hv⟩
  ·simp only [cond_true]
   cases hr:rule_reader_order i with
   | error e=>left; exact ⟨_,rfl,fun v hv=>by cases hv; exact fun w hw=>by cases hw; exact order_nz hi _ hr⟩
   | ok y =>
    have gy:=order_good hi hr
    right
    refine ⟨_,rfl,gy.1,?_⟩
    have:=of_decide_eq_true hd
    have:=hi.1
    omega) (x.l.length - x.at_.toNat+1) x hg (Nat.lt_succ_self _)
 cases hc:iter ordersP default (x.l.length - x.at_.toNat+1) x with
 | inl v=>exact this v hc
 | inr b=>exact nz_ok _
theorem lexAll_pos:∀ (fu:Nat) (l:List UInt8) (p:Nat),l.length≤1000000→(∀ ts,lexAll fu l p=.ok ts→∀ t,t∈ts→(p:Int)≤t.pos∧t.pos≤((p+l.length:Nat):Int))∧∀ e,lexAll fu l p=.error e→e.2≠0∧e.1≤p+l.length
 | 0,_,_,_=>⟨fun ts h t ht=>(by cases h; cases ht),fun e h=>(by cases h)⟩
 | fu+1,l,p,hl=>by
  have g1:=gapS_le l false
  have hrl:(l.drop (gapS l false)).length=l.length - gapS l false:=List.length_drop
  show (∀ ts,lexStep (lexAll fu) l p=.ok ts→_)∧∀ e,lexStep (lexAll fu) l p=.error e→_
  unfold lexStep
  cases he:(l.drop (gapS l false)).isEmpty
  ·cases hn:(nextP (l.drop (gapS l false))).2.2 != 0
   ·have hb:=nextP_len (by omega) he hn
    have ih:=lexAll_pos fu ((l.drop (gapS l false)).drop (nextP (l.drop (gapS l false))).2.1.toNat) (p+gapS l false+(nextP (l.drop (gapS l false))).2.1.toNat) (by rw [List.length_drop]; omega)
    have hdl:((l.drop (gapS l false)).drop (nextP (l.drop (gapS l false))).2.1.toNat).length=l.length - gapS l false - (nextP (l.drop (gapS l false))).2.1.toNat:=by rw [List.length_drop,hrl]
    simp only [cond_false]
    cases hc:lexAll fu ((l.drop (gapS l false)).drop (nextP (l.drop (gapS l false))).2.1.toNat) (p+gapS l false+(nextP (l.drop (gapS l false))).2.1.toNat) with
    | ok ts0 =>
     have ih1:=ih.1 ts0 hc
     refine ⟨fun ts h t ht=>?_,fun e h=>(by cases h)⟩
     cases h
     rcases List.mem_cons.1 ht with rfl | ht
     ·simp only; omega
     ·have:=ih1 t ht
      omega
    | error e0 =>
     have ih2:=ih.2 e0 hc
     refine ⟨fun ts h=>(by cases h),fun e h=>?_⟩
     cases h
     exact ⟨ih2.1,by omega⟩
   ·simp only [cond_false,cond_true]
    refine ⟨fun ts h=>(by cases h),fun e h=>?_⟩
    cases h
    exact ⟨by simpa using hn,by show p+gapS l false≤_; omega⟩
  ·exact ⟨fun ts h t ht=>(by cases h; cases ht),fun e h=>(by cases h)⟩
def startP (s:ByteArray) (ts:List Token):Reader:={ l:=ts,at_:=0,end_:=s.size,list:=[] }
theorem parse_plain (s:ByteArray) (hs:s.size≤20000):rule_Parse s=match lexA s.data.toList 0 with
  | .error e=>([],((e.1:Nat):Int),e.2)
  | .ok ts=>match readP (startP s ts) with | .ok l=>(l,0,0) | .error w=>([],w.pos,w.e):=by
 rw [parseP_eq,scan_eq s hs]
 have hp:=(lexAll_pos (s.data.toList.length+1) s.data.toList 0 (by have:=bsize s; omega)).2
 cases hc:lexA s.data.toList 0 with
 | error e =>
  have:=(hp e hc).1
  have hb:(e.2 != 0)=true:=by simpa using this
  simp only [scanR,hb,cond_true]
 | ok ts=>rfl
theorem toks_len {s:ByteArray} (hs:s.size≤20000) {ts:List Token} (h:lexA s.data.toList 0=.ok ts):ts.length≤20000:=by
 have:=lex_Scan_post s
 rw [scan_eq s hs,h] at this
 exact this
theorem start_good {s:ByteArray} (hs:s.size≤20000) {ts:List Token} (h:lexA s.data.toList 0=.ok ts):Rgd (startP s ts):=by
 have:=toks_len hs h
 unfold Rgd startP
 exact ⟨Int.le_refl _,Int.natCast_nonneg _,this,Nat.zero_le _⟩
def clampP (B p:Int):Int:=if p < 0 then 0 else if B < p then B else p
theorem parse_err {s:ByteArray} (hs:s.size≤20000):((rule_Parse s).2.2=0→(rule_Parse s).2.1=0)∧((rule_Parse s).2.2≠0→(rule_Parse s).1=[]∧0≤(rule_Parse s).2.1∧(rule_Parse s).2.1≤(s.size:Int)):=by
 have hN:=bsize s
 rw [parse_plain s hs]
 have hp:=lexAll_pos (s.data.toList.length+1) s.data.toList 0 (by omega)
 cases hc:lexA s.data.toList 0 with
 | error e =>
  have:=hp.2 e hc
  dsimp only
  exact ⟨fun h=>absurd h this.1,fun _=>⟨rfl,Int.natCast_nonneg _,by show ((e.1:Nat):Int)≤_; omega⟩⟩
 | ok ts =>
  have hpos:=hp.1 ts hc
  have hg:=start_good hs hc
  dsimp only
  cases hr:readP (startP s ts) with
  | ok l=>dsimp only; exact ⟨fun _=>rfl,fun h=>absurd rfl h⟩
  | error w =>
   dsimp only
   refine ⟨fun h=>absurd h (read_nz hg w hr),fun _=>⟨rfl,?_⟩⟩
   have hsh:=read_sh (clampP s.size) hg
   have e:shR (clampP s.size) (startP s ts)=startP s ts:=by
    unfold shR startP
    have e1:ts.map (shT (clampP s.size))=ts:=by
     conv=>rhs; rw [← List.map_id ts]
     refine List.map_congr_left fun t ht=>?_
     have:=hpos t ht
     unfold shT clampP
     rw [if_neg (by omega),if_neg (by omega)]
     rfl
    have e2:clampP s.size s.size=s.size:=by
     unfold clampP
     rw [if_neg (by omega),if_neg (by omega)]
    simp only [e1,e2]
   rw [e,hr] at hsh
   have hw:w.pos=clampP s.size w.pos:=by
    have:(Except.error w:Except Wrong (List Order))=.error (shW (clampP s.size) w):=hsh
    injection this with this
    exact congrArg Wrong.pos this
   show 0≤w.pos∧w.pos≤_
   rw [hw]
   unfold clampP
   split
   ·omega
   ·split <;> omega
def KP (x y:Reader):Prop:=y.l=x.l∧y.end_=x.end_∧y.list=x.list
theorem KP.refl (x:Reader):KP x x:=⟨rfl,rfl,rfl⟩
theorem KP.trans {x y z:Reader} (h:KP x y) (g:KP y z):KP x z:=⟨g.1.trans h.1,g.2.1.trans h.2.1,g.2.2.trans h.2.2⟩
theorem adv_kp (x:Reader):KP x (advP x):=⟨rfl,rfl,rfl⟩
theorem need_kp {x y:Reader} {s:ByteArray} (h:rule_reader_need x s=.ok y):KP x y:=by
 rw [needP_eq] at h
 obtain ⟨-,h⟩:=cond_okT h
 cases h
 exact adv_kp x
theorem take_kp (x:Reader) (s:ByteArray):KP x (rule_reader_take x s).2:=by
 rw [takeP_eq]
 cases isP x s
 ·exact .refl x
 ·exact adv_kp x
theorem termP_kp {rv:Reader→Except Wrong (Term × Reader)} (H:∀ y a,rv y=.ok a→KP y a.2) {x:Reader} {a:Term × Reader} (h:termP rv x=.ok a):KP x a.2:=by
 rw [termP_ops] at h
 cases h1:isP x (⟨#[110,111,116]⟩:ByteArray)
 ·rw [h1] at h
  simp only [cond_false] at h
  cases h2:isP x (⟨#[105,102]⟩:ByteArray)
  ·rw [h2] at h
   simp only [cond_false] at h
   obtain ⟨b,hb,h⟩:=bindE_ok h
   refine (H _ b hb).trans ?_
   unfold opsF at h
   cases hf:rule_operators.find? fun o=>isP b.2 o.2 with
   | none=>rw [hf] at h; cases h; exact .refl _
   | some o =>
    rw [hf] at h
    obtain ⟨c,hc,h⟩:=bindE_ok h
    cases h
    exact (adv_kp _).trans (H _ c hc)
  ·rw [h2] at h
   simp only [cond_true] at h
   obtain ⟨b,hb,h⟩:=bindE_ok h
   obtain ⟨y,hy,h⟩:=bindE_ok h
   obtain ⟨c,hc,h⟩:=bindE_ok h
   obtain ⟨z,hz,h⟩:=bindE_ok h
   obtain ⟨d,hd,h⟩:=bindE_ok h
   cases h
   exact (adv_kp x).trans ((H _ b hb).trans ((need_kp hy).trans ((H _ c hc).trans ((need_kp hz).trans (H _ d hd)))))
 ·rw [h1] at h
  simp only [cond_true] at h
  obtain ⟨b,hb,h⟩:=bindE_ok h
  cases h
  exact (adv_kp x).trans (H _ b hb)
theorem cond_or {α:Type} {c:Bool} {v w:α} {P:α→Prop} (h:P (bif c then v else w)):(c=true∧P v)∨(c=false∧P w):=by
 cases c
 ·exact .inr ⟨rfl,h⟩
 ·exact .inl ⟨rfl,h⟩
theorem one_kp {x:Reader} {names:List ByteArray} {a:Int × Reader} (h:rule_reader_one x names=.ok a):KP x a.2:=by
 rw [(one_good h).1]; exact .refl x
theorem atom_kp:∀ (fu:Nat) (x:Reader) (a:Term × Reader),rule_reader_atom_n fu x=.ok a→KP x a.2
 | 0,x,a,h=>by cases h
 | fu+1,x,a,h=>by
  rw [atom_succ] at h
  unfold atomP at h
  rcases cond_or (P:=fun v:Except Wrong (Term × Reader)=>v=.ok a) h with ⟨-,h⟩ | ⟨-,h⟩
  ·obtain ⟨b,hb,h⟩:=bindE_ok h
   obtain ⟨y,hy,h⟩:=bindE_ok h
   cases h
   exact (adv_kp x).trans ((termP_kp (atom_kp fu) hb).trans (need_kp hy))
  rcases cond_or (P:=fun v:Except Wrong (Term × Reader)=>v=.ok a) h with ⟨-,h⟩ | ⟨-,h⟩
  ·cases h; exact adv_kp x
  rcases cond_or (P:=fun v:Except Wrong (Term × Reader)=>v=.ok a) h with ⟨-,h⟩ | ⟨-,h⟩
  ·cases h; exact adv_kp x
  rcases cond_or (P:=fun v:Except Wrong (Term × Reader)=>v=.ok a) h with ⟨-,h⟩ | ⟨-,h⟩
  ·obtain ⟨-,h⟩:=cond_okT h
   cases h; exact (adv_kp x).trans (adv_kp _)
  rcases cond_or (P:=fun v:Except Wrong (Term × Reader)=>v=.ok a) h with ⟨-,h⟩ | ⟨-,h⟩
  ·cases h; exact adv_kp x
  obtain ⟨b,hb,h⟩:=bindE_ok h
  cases h
  exact (one_kp hb).trans (adv_kp _)
theorem term_kp {x:Reader} {a:Term × Reader} (h:rule_reader_term x=.ok a):KP x a.2:=by
 rw [termP_eq] at h
 exact termP_kp (fun y b hb=>atom_kp _ y b hb) h
theorem choice_kp {x:Reader} {o:Order} {p:Reader × Order} (h:rule_reader_choice x o=.ok p):KP x p.1∧p.2.rules=o.rules:=by
 rw [choiceP_eq] at h
 obtain ⟨a,ha,h⟩:=bindE_ok h
 obtain ⟨-,h⟩:=cond_okF h
 obtain ⟨y,hy,h⟩:=bindE_ok h
 obtain ⟨b,hb,h⟩:=bindE_ok h
 obtain ⟨z,hz,h⟩:=bindE_ok h
 cases h
 exact ⟨(one_kp ha).trans ((adv_kp _).trans ((need_kp hy).trans ((one_kp hb).trans ((adv_kp _).trans ((take_kp _ _).trans (need_kp hz)))))),rfl⟩
theorem rule_kp {x:Reader} {o:Order} {p:Reader × Order} (h:rule_reader_rule x o=.ok p):KP x p.1∧∃ r:Rule,p.2.rules=o.rules++[r]∧r.term.depth≤8:=by
 rw [ruleP_eq] at h
 obtain ⟨a,ha,h⟩:=bindE_ok h
 obtain ⟨-,h⟩:=cond_okF h
 obtain ⟨y,hy,h⟩:=bindE_ok h
 obtain ⟨t,ht,h⟩:=bindE_ok h
 obtain ⟨-,h⟩:=cond_okT h
 obtain ⟨hc,h⟩:=cond_okF h
 cases h
 exact ⟨(one_kp ha).trans ((adv_kp _).trans ((need_kp hy).trans ((term_kp ht).trans (adv_kp _)))),_,rfl,(term_Check_post t.1).2 (by simpa using hc)⟩
def RD (o:Order):Prop:=∀ r,r∈o.rules→r.term.depth≤8
theorem body_kp (i:Order × Reader) (hi:RD i.1):∀ c,bodyL i=.inr c→KP i.2 c.2∧RD c.1:=by
 unfold bodyL
 have key:∀ (n:Nat) (j:Order × Reader),KP i.2 j.2→RD j.1→∀ c,iter bodyP default n j=.inr c→KP i.2 c.2∧RD c.1:=by
  intro n
  induction n with
  | zero=>intro j _ _ c h; cases h
  | succ n ih =>
   intro j h1 h2 c h
   unfold iter at h
   unfold bodyP at h
   cases q1:isP j.2 (⟨#[125]⟩:ByteArray)
   ·rw [q1] at h
    simp only [cond_false] at h
    cases q2:isP j.2 (⟨#[99,104,111,111,115,101]⟩:ByteArray)
    ·rw [q2] at h
     simp only [cond_false] at h
     cases q3:isP j.2 (⟨#[114,117,108,101]⟩:ByteArray)
     ·rw [q3] at h; cases h
     ·rw [q3] at h
      simp only [cond_true] at h
      cases hr:rule_reader_rule (advP j.2) j.1 with
      | error e=>rw [hr] at h; cases h
      | ok p =>
       rw [hr] at h
       obtain ⟨k1,r,k2,k3⟩:=rule_kp hr
       refine ih (p.2,p.1) (h1.trans ((adv_kp _).trans k1)) (fun r' hr'=>?_) c h
       have hr':r'∈p.2.rules:=hr'
       rw [k2] at hr'
       rcases List.mem_append.1 hr' with hr' | hr'
       ·exact h2 r' hr'
       ·rw [List.mem_singleton.1 hr']; exact k3
    ·rw [q2] at h
     simp only [cond_true] at h
     cases hr:rule_reader_choice (advP j.2) j.1 with
     | error e=>rw [hr] at h; cases h
     | ok p =>
      rw [hr] at h
      obtain ⟨k1,k2⟩:=choice_kp hr
      exact ih (p.2,p.1) (h1.trans ((adv_kp _).trans k1)) (fun r hr=>h2 r (by rw [← k2]; exact hr)) c h
   ·rw [q1] at h
    cases h
    exact ⟨h1.trans (adv_kp _),h2⟩
 exact key _ i (.refl _) hi
theorem body_inl (i:Order × Reader) (y:Reader):¬ bodyL i=.inl (.ok y):=by
 have key:∀ (n:Nat) (j:Order × Reader),¬ iter bodyP default n j=.inl (.ok y):=by
  intro n
  induction n with
  | zero=>intro j h; cases h
  | succ n ih =>
   intro j h
   unfold iter at h
   unfold bodyP at h
   cases q1:isP j.2 (⟨#[125]⟩:ByteArray)
   ·rw [q1] at h
    simp only [cond_false] at h
    cases q2:isP j.2 (⟨#[99,104,111,111,115,101]⟩:ByteArray)
    ·rw [q2] at h
     simp only [cond_false] at h
     cases q3:isP j.2 (⟨#[114,117,108,101]⟩:ByteArray)
     ·rw [q3] at h; cases h
     ·rw [q3] at h
      simp only [cond_true] at h
      cases hr:rule_reader_rule (advP j.2) j.1 with
      | error e=>rw [hr] at h; cases h
      | ok p=>rw [hr] at h; exact ih _ h
    ·rw [q2] at h
     simp only [cond_true] at h
     cases hr:rule_reader_choice (advP j.2) j.1 with
     | error e=>rw [hr] at h; cases h
     | ok p=>rw [hr] at h; exact ih _ h
   ·rw [q1] at h; cases h
 exact key _ i
theorem order_kp {x y:Reader} (h:rule_reader_order x=.ok y):y.l=x.l∧y.end_=x.end_∧∃ o,y.list=x.list++[o]∧RD o:=by
 rw [orderP_eq] at h
 obtain ⟨a,ha,h⟩:=bindE_ok h
 obtain ⟨b,hb,h⟩:=bindE_ok h
 obtain ⟨-,h⟩:=cond_okF h
 obtain ⟨-,h⟩:=cond_okF h
 obtain ⟨d,hd,h⟩:=bindE_ok h
 have k0:KP x d:=(need_kp ha).trans ((by rw [(name_good hb).1]; exact .refl a:KP a b.2).trans ((adv_kp _).trans ((take_kp _ _).trans (need_kp hd))))
 have k:=body_kp (({ name:=b.1,accepts:=(rule_reader_take (advP b.2) (⟨#[97,99,99,101,112,116,115]⟩:ByteArray)).1,choices:=[],rules:=[] }:Order),d) (fun r hr=>by cases hr)
 cases hc:bodyL (({ name:=b.1,accepts:=(rule_reader_take (advP b.2) (⟨#[97,99,99,101,112,116,115]⟩:ByteArray)).1,choices:=[],rules:=[] }:Order),d) with
 | inl v =>
  rw [hc] at h
  have h:v=.ok y:=h
  subst h
  exact absurd hc (body_inl _ _)
 | inr c =>
  rw [hc] at h
  have h:(.ok (endO c):Except Wrong Reader)=.ok y:=h
  cases h
  obtain ⟨k1,k2⟩:=k c hc
  have kk:=k0.trans k1
  refine ⟨kk.1,kk.2.1,_,congrArg (·++_) kk.2.2,fun r hr=>k2 r ?_⟩
  exact (isort_perm (·.ask) c.1.rules).mem_iff.1 hr
theorem sameTerm_refl:∀ (fu:Nat) (t:Term) (lv:Int),t.depth≤fu→(t.depth:Int)≤lv→lv≤1000→R16_SameTerm_n fu t t lv=true
 | 0,t,_,h,_,_=>absurd h (by have:=t.depth_pos; omega)
 | fu+1,t,lv,h,h1,h2=>by
  have key:R16_SameTerm_n (fu+1) t t lv=(R16_SameTerm_sk (R16_SameTerm_n fu) (fun _ _ _=>False) (fun _ _ _ h=>h.elim) t t lv).val:=rfl
  rw [key]
  refine Sk.pvalE (R16_SameTerm_sk (R16_SameTerm_n fu) (fun _ _ _=>False) (fun _ _ _ h=>h.elim) t t lv) (L:=fun x=>x=true) ?_
  have hp:=t.depth_pos
  have hw:w64 (lv - 1)=lv - 1:=w64_id (by omega) (by omega)
  unfold R16_SameTerm_sk
  simp only [Sk.pstE,Sk.isLoop,reduceCtorEq,ON,kk,R16_SameTerm_kr,hw]
  refine ⟨fun hc=>absurd hc (by simp; omega),fun _=>⟨fun _=>True,fun i=>i≤t.args.length,Nat.zero_le _,fun i hi=>⟨fun hc x hx=>?_,fun _=>trivial⟩⟩⟩
  have hc:=of_decide_eq_true hc
  have hm:=lget_mem (show i < t.args.length by omega) default
  have hd:=depth_mem hm
  rw [sameTerm_refl fu (t.args.getD i default) (lv - 1) (by omega) (by omega) (by omega)] at hx
  subst hx
  exact ⟨fun h=>(by cases h),fun _ _=>⟨by omega,by omega⟩⟩
theorem same_refl (l:List Order) (h:∀ o,o∈l→RD o):R16_Same l l=true:=by
 refine Sk.pvalE (R16_Same_sk l l) (L:=fun x=>x=true) ?_
 unfold R16_Same_sk
 simp only [Sk.pstE,Sk.isLoop,reduceCtorEq,ON,kk,R16_SameTerm_k,beq_self_eq_true,bne_self_eq_false,Bool.not_true,Bool.or_false,Bool.false_or,Bool.and_self]
 refine ⟨fun _=>True,fun i=>i≤l.length,Nat.zero_le _,fun i hi=>⟨fun hc=>⟨fun _=>True,fun _=>⟨fun _=>True,⟨fun k=>k≤(l.getD i default).choices.length,Nat.zero_le _,fun k hk _=>⟨fun hc2 _ _=>?_,fun _=>trivial⟩⟩,fun _ _ _=>⟨fun _=>True,⟨fun k=>k≤(l.getD i default).rules.length,Nat.zero_le _,fun k hk _=>⟨fun hc3 x hx=>?_,fun _=>trivial⟩⟩,fun _ _ _=>trivial⟩⟩,fun _ _ _ _=>?_⟩,fun _=>trivial⟩⟩
 ·have hc2:=of_decide_eq_true hc2
  exact ⟨by omega,by omega⟩
 ·have hc:=of_decide_eq_true hc
  have hc3:=of_decide_eq_true hc3
  have hd:=h _ (lget_mem (show i < l.length by omega) default) _ (lget_mem (show k < (l.getD i default).rules.length by omega) default)
  have:=sameTerm_refl _ ((l.getD i default).rules.getD k default).term 200 (Nat.le_refl _) (by omega) (by decide)
  have hx:x=true:=hx.trans this
  subst hx
  exact ⟨fun h=>(by cases h),fun _ _=>⟨by omega,by omega⟩⟩
 ·have hc:=of_decide_eq_true hc
  exact ⟨by omega,by omega⟩
theorem next_eq (s:ByteArray):lex_next s =
  bif lex_letter ((s.data.toList.getD 0 0).toNat:Int) then
   (bif !lex_Name (s.extract 0 (lex_span_68 s).toNat) then (({ kind:=0,text:=(⟨#[]⟩:ByteArray),n:=0,pos:=0 }:Token),0,3)
    else (({ kind:=0,text:=s.extract 0 (lex_span_68 s).toNat,n:=0,pos:=0 }:Token),(((s.extract 0 (lex_span_68 s).toNat).size:Nat):Int),0))
  else bif lex_digit ((s.data.toList.getD 0 0).toNat:Int) then
   (bif !(lex_Number (s.extract 0 (lex_span_83 s).toNat)).2 then (({ kind:=0,text:=(⟨#[]⟩:ByteArray),n:=0,pos:=0 }:Token),0,3)
    else (({ kind:=1,text:=s.extract 0 (lex_span_83 s).toNat,n:=(lex_Number (s.extract 0 (lex_span_83 s).toNat)).1,pos:=0 }:Token),(((s.extract 0 (lex_span_83 s).toNat).size:Nat):Int),0))
  else bif ((s.data.toList.getD 0 0).toNat:Int) == 34 then
   (bif (lex_quoted s).2 == 0 then (({ kind:=0,text:=(⟨#[]⟩:ByteArray),n:=0,pos:=0 }:Token),0,21) else (({ kind:=2,text:=(lex_quoted s).1,n:=0,pos:=0 }:Token),(lex_quoted s).2,0))
  else pickS (iter (fun i:Nat=>(bif decide (((i:Nat):Int) < 13) then (bif ((s.data.toList.getD 0 0).toNat:Int) == (([40,41,44,59,58,61,60,43,45,42,46,123,125]:List Int).getD i 0) then .inl (.inl (({ kind:=3,text:=s.extract 0 1,n:=0,pos:=0 }:Token),1,0)) else .inr (i+1)) else .inl (.inr ()):(Token × Int × Int ⊕ Unit) ⊕ Nat)) default (13 - 0+1) 0)
   fun _=>(({ kind:=0,text:=(⟨#[]⟩:ByteArray),n:=0,pos:=0 }:Token),0,20):=rfl
structure Wd (w:List UInt8) (t:Token):Prop where
 ne:w≠[]
 nb:∀ r,gapS (w++r) false=0
 nx:∀ r,(r=[]∨r.getD 0 0=32)→nextP (w++r)=(t,(w.length:Int),0)
theorem span_app {p:Int→Bool}:∀ (w r:List UInt8),(∀ b,b∈w→p ((b.toNat:Nat):Int)=true)→(r=[]∨p (((r.getD 0 0).toNat:Nat):Int)=false)→spanL p (w++r)=w.length
 | [],r,_,hr=>by
  cases r with
  | nil=>rfl
  | cons b r =>
   rcases hr with hr | hr
   ·cases hr
   ·have hr:p ((b.toNat:Nat):Int)=false:=hr
    simp only [List.nil_append,spanL,hr,cond_false,List.length_nil]
 | b :: w,r,hw,hr=>by
  have h0:=hw b (by simp)
  simp only [List.cons_append,spanL,h0,cond_true,List.length_cons]
  rw [span_app w r (fun c hc=>hw c (by simp [hc])) hr]
theorem span_full {p:Int→Bool}:∀ (w:List UInt8),spanL p w=w.length→∀ b,b∈w→p ((b.toNat:Nat):Int)=true
 | [],_,b,hb=>by cases hb
 | c :: w,h,b,hb=>by
  cases hp:p ((c.toNat:Nat):Int)
  ·simp only [spanL,hp,cond_false,List.length_cons] at h
   omega
  ·simp only [spanL,hp,cond_true,List.length_cons] at h
   rcases List.mem_cons.1 hb with rfl | hb
   ·exact hp
   ·exact span_full w (by omega) b hb
theorem ext_take (w r:List UInt8):(⟨(w++r).toArray⟩:ByteArray).extract 0 w.length=⟨w.toArray⟩:=by
 apply ByteArray.ext
 rw [ByteArray.data_extract]
 apply Array.toList_inj.1
 rw [Array.toList_extract,List.extract_eq_take_drop]
 simp
theorem app_getD {w:List UInt8} (h:w≠[]) (r:List UInt8):(w++r).getD 0 0=w.getD 0 0:=by
 cases w with
 | nil=>exact absurd rfl h
 | cons b w=>rfl
theorem gap_word {w:List UInt8} (h:w≠[]) (h1:lex_blank (((w.getD 0 0).toNat:Nat):Int)=false) (h2:(w.getD 0 0 == 35)=false) (r:List UInt8):gapS (w++r) false=0:=by
 cases w with
 | nil=>exact absurd rfl h
 | cons b w =>
  have h1:lex_blank ((b.toNat:Nat):Int)=false:=h1
  have h2:(b == 35)=false:=h2
  simp only [List.cons_append,gapS,h1,h2,cond_false]
theorem name_eq (s:ByteArray):lex_Name s=((((!(s.toList == (⟨#[]⟩:ByteArray).toList))&&lex_letter ((s.data.toList.getD 0 0).toNat:Int))&&(decide (((s.size:Nat):Int)≤20)))&&(lex_span_68 s == ((s.size:Nat):Int))):=rfl
theorem letter_noblank {c:Int} (h:lex_letter c=true):lex_blank c=false∧(c == 35)=false:=by
 rw [lex_letter_eq] at h
 simp only [Bool.or_eq_true,Bool.and_eq_true,decide_eq_true_eq] at h
 have e:lex_blank c=((c == 32||c == 9)||c == 10):=rfl
 rw [e]
 simp only [Bool.or_eq_false_iff,beq_eq_false_iff_ne]
 omega
theorem digit_noblank {c:Int} (h:lex_digit c=true):lex_blank c=false∧(c == 35)=false∧lex_letter c=false:=by
 rw [lex_digit_eq] at h
 simp only [Bool.and_eq_true,decide_eq_true_eq] at h
 have e:lex_blank c=((c == 32||c == 9)||c == 10):=rfl
 rw [e,lex_letter_eq]
 simp only [Bool.or_eq_false_iff,beq_eq_false_iff_ne,Bool.and_eq_false_imp,decide_eq_true_eq,decide_eq_false_iff_not]
 omega
theorem b35 (b:UInt8):(b == 35)=(((b.toNat:Nat):Int) == 35):=(u8i b 35).symm
theorem wd_name {w:List UInt8} (h:lex_Name ⟨w.toArray⟩=true):Wd w { kind:=0,text:=⟨w.toArray⟩,n:=0,pos:=0 }:=by
 have hn:=h
 rw [name_eq,span68_eq] at h
 have e1:(⟨w.toArray⟩:ByteArray).data.toList=w:=by simp
 have e2:(⟨w.toArray⟩:ByteArray).size=w.length:=by simp [ByteArray.size]
 rw [e1,e2] at h
 simp only [Bool.and_eq_true,Bool.not_eq_true',bnilF,e2,decide_eq_true_eq,beq_iff_eq] at h
 obtain ⟨⟨⟨h1,h2⟩,h3⟩,h4⟩:=h
 have hne:w≠[]:=by intro e; subst e; simp at h1
 have hl:=letter_noblank h2
 have hall:=span_full (p:=lex_inner) w (by omega)
 refine ⟨hne,gap_word hne hl.1 (by rw [b35]; exact hl.2),fun r hr=>?_⟩
 have hsp:lex_span_68 ⟨(w++r).toArray⟩=((w.length:Nat):Int):=by
  rw [span68_eq]
  have e3:(⟨(w++r).toArray⟩:ByteArray).data.toList=w++r:=by simp
  rw [e3,span_app w r hall]
  rcases hr with hr | hr
  ·exact .inl hr
  ·right; rw [hr]; rfl
 unfold nextP
 rw [next_eq,hsp]
 have e3:(⟨(w++r).toArray⟩:ByteArray).data.toList=w++r:=by simp
 rw [e3,app_getD hne,h2,Int.toNat_natCast,ext_take,hn]
 simp only [Bool.not_true,cond_true,cond_false,e2]
theorem ext_one (c:UInt8) (r:List UInt8):(⟨(c :: r).toArray⟩:ByteArray).extract 0 1=⟨#[c]⟩:=ext_take [c] r
theorem wd_sign {c:UInt8} (hb:lex_blank ((c.toNat:Nat):Int)=false) (h35:(c == 35)=false)
  (h:∀ r,nextP (c :: r)=(({ kind:=3,text:=(⟨(c :: r).toArray⟩:ByteArray).extract 0 1,n:=0,pos:=0 }:Token),1,0)):Wd [c] { kind:=3,text:=⟨#[c]⟩,n:=0,pos:=0 } :=
 ⟨by simp,gap_word (by simp) hb h35,fun r _=>by
  show nextP (c :: r)=_
  rw [h r,ext_one]
  rfl⟩
theorem wd_40:Wd [40] { kind:=3,text:=⟨#[40]⟩,n:=0,pos:=0 }:=wd_sign (by kernel_rfl) rfl (fun r=>by kernel_rfl)
theorem wd_41:Wd [41] { kind:=3,text:=⟨#[41]⟩,n:=0,pos:=0 }:=wd_sign (by kernel_rfl) rfl (fun r=>by kernel_rfl)
theorem wd_59:Wd [59] { kind:=3,text:=⟨#[59]⟩,n:=0,pos:=0 }:=wd_sign (by kernel_rfl) rfl (fun r=>by kernel_rfl)
theorem wd_58:Wd [58] { kind:=3,text:=⟨#[58]⟩,n:=0,pos:=0 }:=wd_sign (by kernel_rfl) rfl (fun r=>by kernel_rfl)
theorem wd_61:Wd [61] { kind:=3,text:=⟨#[61]⟩,n:=0,pos:=0 }:=wd_sign (by kernel_rfl) rfl (fun r=>by kernel_rfl)
theorem wd_60:Wd [60] { kind:=3,text:=⟨#[60]⟩,n:=0,pos:=0 }:=wd_sign (by kernel_rfl) rfl (fun r=>by kernel_rfl)
theorem wd_43:Wd [43] { kind:=3,text:=⟨#[43]⟩,n:=0,pos:=0 }:=wd_sign (by kernel_rfl) rfl (fun r=>by kernel_rfl)
theorem wd_45:Wd [45] { kind:=3,text:=⟨#[45]⟩,n:=0,pos:=0 }:=wd_sign (by kernel_rfl) rfl (fun r=>by kernel_rfl)
theorem wd_42:Wd [42] { kind:=3,text:=⟨#[42]⟩,n:=0,pos:=0 }:=wd_sign (by kernel_rfl) rfl (fun r=>by kernel_rfl)
theorem wd_123:Wd [123] { kind:=3,text:=⟨#[123]⟩,n:=0,pos:=0 }:=wd_sign (by kernel_rfl) rfl (fun r=>by kernel_rfl)
theorem wd_125:Wd [125] { kind:=3,text:=⟨#[125]⟩,n:=0,pos:=0 }:=wd_sign (by kernel_rfl) rfl (fun r=>by kernel_rfl)
def numV (l:List UInt8):Int:=l.foldl (fun a b=>10 * a+((b.toNat:Int) - 48)) 0
theorem numV_snoc (l:List UInt8) (b:UInt8):numV (l++[b])=10 * numV l+((b.toNat:Int) - 48):=by
 unfold numV
 rw [List.foldl_append]; rfl
def Dg (l:List UInt8):Prop:=∀ b,b∈l→lex_digit ((b.toNat:Nat):Int)=true
theorem dg_bounds {b:UInt8} (h:lex_digit ((b.toNat:Nat):Int)=true):48≤(b.toNat:Int)∧(b.toNat:Int)≤57:=by
 rw [lex_digit_eq] at h
 simp only [Bool.and_eq_true,decide_eq_true_eq] at h
 omega
theorem numV_bound:∀ (n:Nat) (l:List UInt8),l.length=n→Dg l→0≤numV l∧numV l < ((10 ^ n:Nat):Int)
 | 0,l,h,_=>by
  have:l=[]:=List.eq_nil_of_length_eq_zero h
  subst this
  decide
 | n+1,l,h,hd=>by
  have hne:l≠[]:=by intro e; subst e; simp at h
  have e:=List.dropLast_concat_getLast hne
  have hl:l.dropLast.length=n:=by rw [List.length_dropLast]; omega
  have ih:=numV_bound n l.dropLast hl (fun b hb=>hd b (List.dropLast_subset l hb))
  have hb:=dg_bounds (hd _ (List.getLast_mem hne))
  rw [← e,numV_snoc,Nat.pow_succ]
  omega
theorem dig_u8 {d:Nat} (h:d < 10):((UInt8.ofNat (48+d)).toNat:Int)=48+d:=by
 have:(UInt8.ofNat (48+d)).toNat=48+d:=by
  rw [UInt8.toNat_ofNat']
  omega
 omega
theorem dec_dg (u:Nat):Dg (Lib.decDigits u)∧numV (Lib.decDigits u)=u∧Lib.decDigits u≠[]∧(u≠0→(Lib.decDigits u).getD 0 0≠48):=by
 induction u using Nat.strongRecOn with
 | _ u ih =>
  have dgl:∀ d:Nat,d < 10→lex_digit (((UInt8.ofNat (48+d)).toNat:Nat):Int)=true:=fun d hd=>by
   rw [dig_u8 hd,lex_digit_eq]
   simp only [Bool.and_eq_true,decide_eq_true_eq]
   omega
  by_cases h:u < 10
  ·rw [Lib.decDigits,dif_pos h]
   refine ⟨fun b hb=>?_,?_,by simp,fun h0 e=>?_⟩
   ·rw [List.mem_singleton.1 hb]; exact dgl u h
   ·show 10 * 0+(((UInt8.ofNat (48+u)).toNat:Int) - 48)=u
    rw [dig_u8 h]; omega
   ·have e:UInt8.ofNat (48+u)=48:=e
    have:=dig_u8 h
    rw [e] at this
    have h48:((48:UInt8).toNat:Int)=48:=rfl
    omega
  ·obtain ⟨i1,i2,i3,i4⟩:=ih (u / 10) (by omega)
   have hm:u % 10 < 10:=Nat.mod_lt _ (by decide)
   rw [Lib.decDigits,dif_neg h]
   refine ⟨fun b hb=>?_,?_,by simp,fun _=>?_⟩
   ·rcases List.mem_append.1 hb with hb | hb
    ·exact i1 b hb
    ·rw [List.mem_singleton.1 hb]; exact dgl _ hm
   ·rw [numV_snoc,i2,dig_u8 hm]; omega
   ·rw [app_getD i3]
    exact i4 (by omega)
theorem u8w {z:Int} (h0:0≤z) (h1:z < 256):IntKind.u8.wrap z=z:=by
 simp only [IntKind.wrap,IntKind.bits,IntKind.signed]
 simp
 omega
theorem pow_nDig (u:Nat) (h:1 < Lib.nDigits u):10 ^ (Lib.nDigits u - 1)≤u:=by
 induction u using Nat.strongRecOn with
 | _ u ih =>
  by_cases h1:u < 10
  ·rw [Lib.nDigits_small h1] at h; omega
  ·rw [Lib.nDigits_big h1] at h ⊢
   have hp:=Lib.nDigits_pos (u / 10)
   by_cases h2:Lib.nDigits (u / 10)=1
   ·rw [h2]; simp; omega
   ·have:=ih (u / 10) (by omega) (by omega)
    rw [show Lib.nDigits (u / 10)+1 - 1=(Lib.nDigits (u / 10) - 1)+1 by omega,Nat.pow_succ]
    omega
theorem number_eq (s:ByteArray) (hd:Dg s.data.toList) (h0:s.size≠0) (h13:s.size≤13) (hz:s.data.toList.getD 0 0≠48∨s.data.toList=[48]) (hv:numV s.data.toList≤1099511627776):lex_Number s=(numV s.data.toList,true):=by
 refine Sk.pvalE (lex_Number_sk s) (L:=fun x=>x=(numV s.data.toList,true)) ?_
 unfold lex_Number_sk
 simp only [Sk.pstE,Sk.isLoop,reduceCtorEq,ON,kk,lex_span_83_k]
 have hN:=bsize s
 have hsp:spanL lex_digit s.data.toList=s.data.toList.length:=by
  have:=span_app (p:=lex_digit) s.data.toList [] hd (.inl rfl)
  rwa [List.append_nil] at this
 intro x hx _
 rw [span83_eq,hsp] at hx
 refine ⟨fun hc=>?_,fun _=>⟨fun b=>b=numV s.data.toList,⟨fun i=>i.2≤s.size∧i.1=numV (s.data.toList.take i.2),⟨Nat.zero_le _,by simp [numV]⟩,fun i hi=>⟨fun hc _ _=>?_,fun hc=>?_⟩⟩,fun b _ hb=>⟨fun h=>?_,fun _=>by rw [hb]⟩⟩⟩
 ·exfalso
  simp only [Bool.or_eq_true,Bool.and_eq_true,decide_eq_true_eq,bnilT,bne_iff_ne,Bool.not_eq_true',beq_iff_eq,beq_eq_false_iff_ne] at hc
  rcases hc with ((h | h) | h) | h
  ·exact h0 (by rw [bnilE] at h; exact h)
  ·exact h (by rw [hx]; omega)
  ·rcases hz with hz | hz
   ·apply hz
    have:=u8i (s.data.toList.getD 0 0) 48
    rw [show (((48:UInt8).toNat:Nat):Int)=48 from rfl,h.1] at this
    exact eq_of_beq this.symm
   ·exact h.2 (by rw [ByteArray.toList_eq,ByteArray.toList_eq,hz])
  ·omega
 ·have hc:=of_decide_eq_true hc
  have hlt:i.2 < s.data.toList.length:=by omega
  have hm:=lget_mem hlt (0:UInt8)
  have hb:=dg_bounds (hd _ hm)
  have ht:s.data.toList.take (i.2+1)=s.data.toList.take i.2++[s.data.toList.getD i.2 0]:=by
   have e:s.data.toList.getD i.2 0=s.data.toList[i.2]:=by rw [List.getD,List.getElem?_eq_getElem hlt]; rfl
   rw [List.take_add_one,List.getElem?_eq_getElem hlt,e]
   rfl
  have hv1:=numV_bound i.2 (s.data.toList.take i.2) (by rw [List.length_take]; omega) (fun b hb=>hd b (List.mem_of_mem_take hb))
  have hp:(10 ^ i.2:Nat)≤10 ^ 13:=Nat.pow_le_pow_right (by decide) (by omega)
  have hu:=u8w (z:=((s.data.toList.getD i.2 0).toNat:Int) - 48) (by omega) (by omega)
  rw [← hi.2] at hv1
  have h13':(10 ^ 13:Nat)=10000000000000:=by decide
  rw [hu,w64_id (n:=10 * i.1) (by omega) (by omega),w64_id (n:=((s.data.toList.getD i.2 0).toNat:Int) - 48) (by omega) (by omega),w64_id (by omega) (by omega)]
  refine ⟨⟨by omega,?_⟩,by omega⟩
  rw [ht,numV_snoc,← hi.2]
 ·have hc:=of_decide_eq_false hc
  show i.1=_
  rw [hi.2,List.take_of_length_le (by omega)]
 ·rw [hb] at h
  have:=of_decide_eq_true h
  omega
theorem wd_num {n:Nat} (h:n≤1099511627776):Wd (Lib.decDigits n) { kind:=1,text:=⟨(Lib.decDigits n).toArray⟩,n:=n,pos:=0 }:=by
 obtain ⟨d1,d2,d3,d4⟩:=dec_dg n
 have hc0:=d1 _ (lget_mem (List.length_pos_iff.2 d3) (0:UInt8))
 have hb:=digit_noblank hc0
 have hlen:(Lib.decDigits n).length≤13:=by
  rw [Lib.decDigits_length]
  rcases Nat.lt_or_ge 13 (Lib.nDigits n) with hk | hk
  ·exfalso
   have:∀ u,10 ^ 13 > u→Lib.nDigits u≤13:=by
    intro u hu
    rcases Nat.lt_or_ge 13 (Lib.nDigits u) with h1 | h1
    ·exfalso
     have:=pow_nDig u (by omega)
     have h2:10 ^ 13≤10 ^ (Lib.nDigits u - 1):=Nat.pow_le_pow_right (by decide) (by omega)
     omega
    ·exact h1
   have h13':(10 ^ 13:Nat)=10000000000000:=by decide
   have:=this n (by omega)
   omega
  ·exact hk
 refine ⟨d3,gap_word d3 hb.1 (by rw [b35]; exact hb.2.1),fun r hr=>?_⟩
 have e1:(⟨(Lib.decDigits n).toArray⟩:ByteArray).data.toList=Lib.decDigits n:=by simp
 have e2:(⟨(Lib.decDigits n).toArray⟩:ByteArray).size=(Lib.decDigits n).length:=by simp [ByteArray.size]
 have hnum:=number_eq ⟨(Lib.decDigits n).toArray⟩ (by rw [e1]; exact d1) (by rw [e2]; have:=List.length_pos_iff.2 d3; omega) (by rw [e2]; exact hlen) (by
  rw [e1]
  by_cases h0:n=0
  ·right; subst h0; rw [Lib.decDigits,dif_pos (by decide)]; rfl
  ·left; exact d4 h0) (by rw [e1,d2]; omega)
 rw [e1,d2] at hnum
 have hsp:lex_span_83 ⟨(Lib.decDigits n++r).toArray⟩=(((Lib.decDigits n).length:Nat):Int):=by
  rw [span83_eq]
  have e3:(⟨(Lib.decDigits n++r).toArray⟩:ByteArray).data.toList=Lib.decDigits n++r:=by simp
  rw [e3,span_app _ r d1]
  rcases hr with hr | hr
  ·exact .inl hr
  ·right; rw [hr]; rfl
 unfold nextP
 rw [next_eq,hsp]
 have e3:(⟨(Lib.decDigits n++r).toArray⟩:ByteArray).data.toList=Lib.decDigits n++r:=by simp
 rw [e3,app_getD d3,hb.2.2,hc0,Int.toNat_natCast,ext_take,hnum]
 simp only [Bool.not_true,cond_true,cond_false,e2]
abbrev Wt:=List UInt8 × Token
def txtW:List (List UInt8)→List UInt8
 | []=>[]
 | [w]=>w
 | w :: v :: r=>w++32 :: txtW (v :: r)
theorem txtW_cons (w:List UInt8) {r:List (List UInt8)} (h:r≠[]):txtW (w :: r)=w++32 :: txtW r:=by
 cases r with
 | nil=>exact absurd rfl h
 | cons v r=>rfl
theorem txtW_append:∀ (a b:List (List UInt8)),a≠[]→b≠[]→txtW (a++b)=txtW a++32 :: txtW b
 | [],_,h,_=>absurd rfl h
 | [w],b,_,hb=>by rw [List.singleton_append,txtW_cons w hb]; rfl
 | w :: v :: r,b,_,hb=>by
  rw [List.cons_append,txtW_cons w (by simp),txtW_append (v :: r) b (by simp) hb,txtW_cons w (by simp)]
  simp
def placeW:List Wt→Nat→List Token
 | [],_=>[]
 | x :: r,p=>{ x.2 with pos:=(p:Int) } :: placeW r (p+x.1.length+1)
theorem lexA_nil (p:Nat):lexA [] p=.ok []:=by
 rw [lexA_eq [] p (by decide)]; rfl
theorem lexA_blank (l:List UInt8) (p:Nat) (h:l.length < 1000000):lexA (32 :: l) p=lexA l (p+1):=by
 rw [lexA_eq (32 :: l) p (by simp; omega),lexA_eq l (p+1) (by omega)]
 unfold lexStep
 have e:lex_blank (((32:UInt8).toNat:Nat):Int)=true:=by kernel_rfl
 have e2:gapS (32 :: l) false=gapS l false+1:=by simp only [gapS,e,cond_true,cond_false]
 rw [e2,List.drop_succ_cons]
 rw [show p+(gapS l false+1)=p+1+gapS l false by omega]
theorem lexA_word {w:List UInt8} {t:Token} (hw:Wd w t) (r:List UInt8) (hr:r=[]∨r.getD 0 0=32) (p:Nat) (h:(w++r).length≤1000000):lexA (w++r) p=match lexA r (p+w.length) with | .ok ts=>.ok ({ t with pos:=(p:Int) } :: ts) | .error e=>.error e:=by
 rw [lexA_eq _ p h]
 unfold lexStep
 rw [hw.nb r,List.drop_zero,hw.nx r hr]
 have he:(w++r).isEmpty=false:=by
  cases w with
  | nil=>exact absurd rfl hw.ne
  | cons _ _=>rfl
 have hd:(w++r).drop w.length=r:=List.drop_left
 rw [he]
 simp only [cond_false,Int.toNat_natCast,Nat.add_zero,hd]
 have e0:((0:Int) != 0)=false:=rfl
 rw [e0]
 simp only [cond_false]
 all_goals rfl
theorem lex_words:∀ (ws:List Wt) (p:Nat),(∀ x,x∈ws→Wd x.1 x.2)→(txtW (ws.map (·.1))).length < 1000000→lexA (txtW (ws.map (·.1))) p=.ok (placeW ws p)
 | [],p,_,_=>lexA_nil p
 | [x],p,h,hl=>by
  have:=lexA_word (h x (by simp)) [] (.inl rfl) p (by rw [List.append_nil]; exact Nat.le_of_lt hl)
  rw [List.append_nil,lexA_nil] at this
  exact this
 | x :: y :: r,p,h,hl=>by
  have e:txtW ((x :: y :: r).map (·.1))=x.1++32 :: txtW ((y :: r).map (·.1)):=rfl
  rw [e] at hl ⊢
  have hl2:x.1.length+(1+(txtW ((y :: r).map (·.1))).length) < 1000000:=by simpa [Nat.add_comm,Nat.add_left_comm] using hl
  rw [lexA_word (h x (by simp)) _ (.inr rfl) p (Nat.le_of_lt hl),lexA_blank _ _ (by omega),lex_words (y :: r) (p+x.1.length+1) (fun z hz=>h z (by simp [hz])) (by omega)]
  rfl
abbrev Core:=Int × ByteArray × Int
def coreT (t:Token):Core:=(t.kind,t.text,t.n)
theorem place_core:∀ (ws:List Wt) (p:Nat),(placeW ws p).map coreT=ws.map fun x=>coreT x.2
 | [],_=>rfl
 | x :: r,p=>by
  simp only [placeW,List.map_cons,place_core r]
  rfl
def AtW (x:Reader) (cs:List Core):Prop:=(x.l.drop x.at_.toNat).map coreT=cs
theorem atw_nil {x:Reader} (hg:Rgd x) (h:AtW x []):¬ x.at_ < (x.l.length:Int):=by
 have:=congrArg List.length h
 rw [List.length_map,List.length_drop] at this
 have:=hg.1
 simp only [List.length_nil] at *
 omega
theorem atw_cons {x:Reader} {c:Core} {cs:List Core} (hg:Rgd x) (h:AtW x (c :: cs)):x.at_ < (x.l.length:Int)∧coreT (x.l.getD x.at_.toNat default)=c∧Rgd (advP x)∧AtW (advP x) cs:=by
 have hl:x.at_.toNat < x.l.length:=by
  rcases Nat.lt_or_ge x.at_.toNat x.l.length with h1 | h1
  ·exact h1
  ·unfold AtW at h
   rw [List.drop_of_length_le h1] at h
   cases h
 have hlt:x.at_ < (x.l.length:Int):=by have:=hg.1; omega
 have ha:=adv_good hg hlt
 have hat:(advP x).at_.toNat=x.at_.toNat+1:=by have:=hg.1; omega
 unfold AtW at h
 rw [List.drop_eq_getElem_cons hl,List.map_cons] at h
 injection h with h1 h2
 refine ⟨hlt,?_,ha.1,?_⟩
 ·rw [← h1]
  simp [List.getD,hl]
 ·unfold AtW
  rw [hat]
  exact h2
def kwC (c:Core) (s:ByteArray):Bool:=(c.2.1.toList == s.toList)&&(c.1 == 0||c.1 == 3)
theorem isP_cons {x:Reader} {c:Core} {cs:List Core} (hg:Rgd x) (h:AtW x (c :: cs)) (s:ByteArray):isP x s=kwC c s:=by
 obtain ⟨h1,h2,-,-⟩:=atw_cons hg h
 unfold isP kwC
 rw [decide_eq_true h1,Bool.true_and,← h2]
 rfl
theorem isP_nil {x:Reader} (hg:Rgd x) (h:AtW x []) (s:ByteArray):isP x s=false:=by
 unfold isP
 rw [decide_eq_false (atw_nil hg h),Bool.false_and,Bool.false_and]
theorem need_cons {x:Reader} {c:Core} {cs:List Core} (hg:Rgd x) (h:AtW x (c :: cs)) {s:ByteArray} (hs:kwC c s=true):rule_reader_need x s=.ok (advP x):=by
 rw [needP_eq,isP_cons hg h,hs]; rfl
def nmW (s:ByteArray):Wt:=(s.data.toList,{ kind:=0,text:=s,n:=0,pos:=0 })
def sgW (s:ByteArray):Wt:=(s.data.toList,{ kind:=3,text:=s,n:=0,pos:=0 })
def nuW (n:Nat):Wt:=(Lib.decDigits n,{ kind:=1,text:=⟨(Lib.decDigits n).toArray⟩,n:=n,pos:=0 })
noncomputable def opW (op:Int):Wt:=bif op == 4||op == 5||op == 12||op == 13 then nmW (mget rule_operators op (⟨#[]⟩:ByteArray)) else sgW (mget rule_operators op (⟨#[]⟩:ByteArray))
noncomputable def joinTW (t:Term) (l:List (List Wt)):List Wt :=
 bif t.op == 0 then (bif decide (t.n < 0) then [sgW (⟨#[45]⟩:ByteArray),nuW (0 - t.n).toNat] else [nuW t.n.toNat])
 else bif t.op == 1 then [nmW (bif t.n == 1 then (⟨#[116,114,117,101]⟩:ByteArray) else (⟨#[102,97,108,115,101]⟩:ByteArray))]
 else bif t.op == 2 then [nmW (rule_Variables.getD t.n.toNat default)]
 else bif t.op == 3 then nmW (⟨#[110,111,116]⟩:ByteArray) :: l.getD 0 default
 else bif t.op == 6 then nmW (⟨#[105,102]⟩:ByteArray) :: (l.getD 0 default++nmW (⟨#[116,104,101,110]⟩:ByteArray) :: (l.getD 1 default++nmW (⟨#[101,108,115,101]⟩:ByteArray) :: l.getD 2 default))
 else l.getD 0 default++opW t.op :: l.getD 1 default
def partTW (f:Term→List Wt) (a:Term):List Wt:=bif decide (((a.args.length:Nat):Int) > 0) then sgW (⟨#[40]⟩:ByteArray) :: (f a++[sgW (⟨#[41]⟩:ByteArray)]) else f a
noncomputable def termTW:Nat→Term→List Wt
 | 0,_=>[]
 | fu+1,t=>joinTW t (t.args.map (partTW (termTW fu)))
inductive Shape5:Term→Prop
 | int (n:Int) (h : -1099511627776≤n∧n≤1099511627776):Shape5 ⟨0,n,[]⟩
 | bool (n:Int) (h:n=0∨n=1):Shape5 ⟨1,n,[]⟩
 | var (n:Int) (h:0≤n∧n < 20):Shape5 ⟨2,n,[]⟩
 | not (a:Term) (ha:a.Wr):Shape5 ⟨3,0,[a]⟩
 | ite (a b c:Term) (ha:a.Wr) (hb:b.Wr) (hc:c.Wr):Shape5 ⟨6,0,[a,b,c]⟩
 | bin (op:Int) (h:op=4∨op=5∨(7≤op∧op≤13)) (a b:Term) (ha:a.Wr) (hb:b.Wr):Shape5 ⟨op,0,[a,b]⟩
theorem wr_shape {t:Term} (h:t.Wr):Shape5 t:=by
 cases h with
 | mk h ha =>
  obtain ⟨op,n,args⟩:=t
  unfold wtop at h
  have h:=of_decide_eq_true h
  simp only at h ha
  have hc:=nargs_cases op h.1 h.2.1
  rcases hc with ⟨rfl,hn⟩ | ⟨rfl,hn⟩ | ⟨rfl,hn⟩ | ⟨rfl,hn⟩ | ⟨rfl,hn⟩ | ⟨hop,e0,e1,e2,e3,e6,hn⟩
  ·have:args=[]:=List.eq_nil_of_length_eq_zero (by omega)
   subst this
   exact .int n (h.2.2.2.2.1 rfl)
  ·have:args=[]:=List.eq_nil_of_length_eq_zero (by omega)
   subst this
   exact .bool n (h.2.2.2.2.2.1 rfl)
  ·have:args=[]:=List.eq_nil_of_length_eq_zero (by omega)
   subst this
   exact .var n (h.2.2.2.2.2.2 rfl)
  ·have:n=0:=h.2.2.2.1 (by omega)
   subst this
   match args,(show args.length=1 by omega) with
   | [a],_=>exact .not a (ha a (by simp))
  ·have:n=0:=h.2.2.2.1 (by omega)
   subst this
   match args,(show args.length=3 by omega) with
   | [a,b,c],_=>exact .ite a b c (ha a (by simp)) (ha b (by simp)) (ha c (by simp))
  ·have:n=0:=h.2.2.2.1 (by omega)
   subst this
   match args,(show args.length=2 by omega) with
   | [a,b],_=>exact .bin op (by omega) a b (ha a (by simp)) (ha b (by simp))
theorem str_name {s:ByteArray} (h:lex_Name s=true):Wd (nmW s).1 (nmW s).2:=by
 have e:(⟨s.data.toList.toArray⟩:ByteArray)=s:=by
  apply ByteArray.ext
  exact Array.toArray_toList
 have:=wd_name (w:=s.data.toList) (by rw [e]; exact h)
 rw [e] at this
 exact this
theorem vars_names (i:Nat) (h:i < 20):lex_Name (rule_Variables.getD i default)=true:=by
 have:rule_Variables.all (fun x=>lex_Name x)=true:=by kernel_rfl
 exact List.all_eq_true.1 this _ (lget_mem (by rw [vars_len]; exact h) default)
theorem opW_wd (op:Int) (h:op=4∨op=5∨(7≤op∧op≤13)):Wd (opW op).1 (opW op).2:=by
 have:op=4∨op=5∨op=7∨op=8∨op=9∨op=10∨op=11∨op=12∨op=13:=by omega
 rcases this with rfl | rfl | rfl | rfl | rfl | rfl | rfl | rfl | rfl
 ·exact str_name (s:=mget rule_operators 4 (⟨#[]⟩:ByteArray)) (by kernel_rfl)
 ·exact str_name (s:=mget rule_operators 5 (⟨#[]⟩:ByteArray)) (by kernel_rfl)
 ·exact wd_60
 ·exact wd_61
 ·exact wd_43
 ·exact wd_45
 ·exact wd_42
 ·exact str_name (s:=mget rule_operators 12 (⟨#[]⟩:ByteArray)) (by kernel_rfl)
 ·exact str_name (s:=mget rule_operators 13 (⟨#[]⟩:ByteArray)) (by kernel_rfl)
def AllWd (l:List Wt):Prop:=∀ x,x∈l→Wd x.1 x.2
theorem allWd_cons {x:Wt} {l:List Wt} (h:Wd x.1 x.2) (g:AllWd l):AllWd (x :: l):=fun y hy=>by
 rcases List.mem_cons.1 hy with rfl | hy
 ·exact h
 ·exact g y hy
theorem allWd_app {l r:List Wt} (h:AllWd l) (g:AllWd r):AllWd (l++r):=fun y hy=>by
 rcases List.mem_append.1 hy with hy | hy
 ·exact h y hy
 ·exact g y hy
theorem allWd_nil:AllWd []:=fun y hy=>by cases hy
theorem part_wd {f:Term→List Wt} {a:Term} (h:AllWd (f a)):AllWd (partTW f a):=by
 unfold partTW
 cases decide (((a.args.length:Nat):Int) > 0)
 ·exact h
 ·exact allWd_cons wd_40 (allWd_app h (allWd_cons wd_41 allWd_nil))
theorem term_wd:∀ (fu:Nat) (t:Term),t.Wr→AllWd (termTW fu t)
 | 0,_,_=>allWd_nil
 | fu+1,t,h=>by
  have ih:=term_wd fu
  unfold termTW
  cases wr_shape h with
  | int n hn =>
   show AllWd (bif decide (n < 0) then _ else _)
   cases hd:decide (n < 0)
   ·have:=of_decide_eq_false hd
    exact allWd_cons (wd_num (n:=n.toNat) (by omega)) allWd_nil
   ·have:=of_decide_eq_true hd
    exact allWd_cons wd_45 (allWd_cons (wd_num (n:=(0 - n).toNat) (by omega)) allWd_nil)
  | bool n hn =>
   refine allWd_cons (str_name ?_) allWd_nil
   rcases hn with rfl | rfl <;> kernel_rfl
  | var n hn=>exact allWd_cons (str_name (vars_names n.toNat (by omega))) allWd_nil
  | not a ha=>exact allWd_cons (str_name (by kernel_rfl)) (part_wd (ih a ha))
  | ite a b c ha hb hc=>exact allWd_cons (str_name (by kernel_rfl)) (allWd_app (part_wd (ih a ha)) (allWd_cons (str_name (by kernel_rfl)) (allWd_app (part_wd (ih b hb)) (allWd_cons (str_name (by kernel_rfl)) (part_wd (ih c hc))))))
  | bin op hop a b ha hb =>
   have e:joinTW ⟨op,0,[a,b]⟩ ([a,b].map (partTW (termTW fu)))=partTW (termTW fu) a++opW op :: partTW (termTW fu) b:=by
    have g0:(op == 0)=false:=beq_false_of_ne (by omega)
    have g1:(op == 1)=false:=beq_false_of_ne (by omega)
    have g2:(op == 2)=false:=beq_false_of_ne (by omega)
    have g3:(op == 3)=false:=beq_false_of_ne (by omega)
    have g6:(op == 6)=false:=beq_false_of_ne (by omega)
    unfold joinTW
    simp only [g0,g1,g2,g3,g6,cond_false]
    rfl
   show AllWd (joinTW ⟨op,0,[a,b]⟩ ([a,b].map (partTW (termTW fu))))
   rw [e]
   exact allWd_app (part_wd (ih a ha)) (allWd_cons (opW_wd op hop) (part_wd (ih b hb)))
def cores (l:List Wt):List Core:=l.map fun x=>coreT x.2
theorem cores_app (a b:List Wt):cores (a++b)=cores a++cores b:=List.map_append
theorem cores_cons (a:Wt) (b:List Wt):cores (a :: b)=coreT a.2 :: cores b:=rfl
def mR (x:Reader):Nat:=x.l.length - x.at_.toNat+1
theorem kwC_num (w:ByteArray) (n:Int) (s:ByteArray):kwC (1,w,n) s=false:=by
 unfold kwC
 have:((1:Int) == 0||(1:Int) == 3)=false:=rfl
 rw [this,Bool.and_false]
theorem vars_kw:∀ i,i < 20→kwC (0,rule_Variables.getD i default,0) (⟨#[40]⟩:ByteArray)=false∧kwC (0,rule_Variables.getD i default,0) (⟨#[116,114,117,101]⟩:ByteArray)=false∧kwC (0,rule_Variables.getD i default,0) (⟨#[102,97,108,115,101]⟩:ByteArray)=false∧kwC (0,rule_Variables.getD i default,0) (⟨#[45]⟩:ByteArray)=false∧kwC (0,rule_Variables.getD i default,0) (⟨#[110,111,116]⟩:ByteArray)=false∧kwC (0,rule_Variables.getD i default,0) (⟨#[105,102]⟩:ByteArray)=false∧slices_IndexS rule_Variables (rule_Variables.getD i default)=i:=by
 intro i hi
 have h:(List.range 20).all (fun i=>!kwC (0,rule_Variables.getD i default,0) (⟨#[40]⟩:ByteArray)&&(!kwC (0,rule_Variables.getD i default,0) (⟨#[116,114,117,101]⟩:ByteArray)&&(!kwC (0,rule_Variables.getD i default,0) (⟨#[102,97,108,115,101]⟩:ByteArray)&&(!kwC (0,rule_Variables.getD i default,0) (⟨#[45]⟩:ByteArray)&&(!kwC (0,rule_Variables.getD i default,0) (⟨#[110,111,116]⟩:ByteArray)&&(!kwC (0,rule_Variables.getD i default,0) (⟨#[105,102]⟩:ByteArray)&&(slices_IndexS rule_Variables (rule_Variables.getD i default) == (i:Int))))))))=true:=by kernel_rfl
 have:=List.all_eq_true.1 h i (List.mem_range.2 hi)
 simp only [Bool.and_eq_true,Bool.not_eq_true',beq_iff_eq] at this
 exact this
theorem one_cons {x:Reader} {s:ByteArray} {n:Int} {cs:List Core} (hg:Rgd x) (h:AtW x ((0,s,n) :: cs)) {names:List ByteArray} {i:Nat} (hi:slices_IndexS names s=(i:Int)):rule_reader_one x names=.ok ((i:Int),x):=by
 obtain ⟨h1,h2,-,-⟩:=atw_cons hg h
 have hk:(x.l.getD x.at_.toNat default).kind=0:=congrArg (·.1) h2
 have ht:(x.l.getD x.at_.toNat default).text=s:=congrArg (·.2.1) h2
 have hn:rule_reader_name x=.ok (s,x):=by
  rw [nameP_eq,hk,ht,decide_eq_false (by omega)]
  rfl
 rw [oneP_eq,hn]
 show (bif decide (slices_IndexS names s < 0) then _ else _)=_
 rw [hi,decide_eq_false (by omega)]
 rfl
theorem leaf_words {t:Term} (ht:t.Wr) (hl:t.args=[]) (fw fu:Nat) (hf:t.depth≤fw) {x:Reader} {R:List Core} (hg:Rgd x) (h:AtW x (cores (termTW fw t)++R)):∃ y,rule_reader_atom_n (fu+1) x=.ok (t,y)∧AtW y R∧Rgd y:=by
 obtain ⟨fw,rfl⟩:∃ k,fw=k+1:=⟨fw - 1,by have:=t.depth_pos; omega⟩
 rw [atom_succ]
 unfold atomP
 cases wr_shape ht with
 | int n hn =>
  have e:termTW (fw+1) ⟨0,n,[]⟩=bif decide (n < 0) then [sgW (⟨#[45]⟩:ByteArray),nuW (0 - n).toNat] else [nuW n.toNat]:=rfl
  rw [e] at h
  cases hd:decide (n < 0)
  ·have hd:=of_decide_eq_false hd
   rw [decide_eq_false hd] at h
   have h:AtW x ((1,⟨(Lib.decDigits n.toNat).toArray⟩,((n.toNat:Nat):Int)) :: R):=h
   obtain ⟨h1,h2,h3,h4⟩:=atw_cons hg h
   have hk:(x.l.getD x.at_.toNat default).kind=1:=congrArg (·.1) h2
   have hnn:(x.l.getD x.at_.toNat default).n=((n.toNat:Nat):Int):=congrArg (·.2.2) h2
   simp only [isP_cons hg h,kwC_num,cond_false]
   rw [hk,hnn,decide_eq_true h1,show ((n.toNat:Nat):Int)=n by omega]
   exact ⟨_,rfl,h4,h3⟩
  ·have hd:=of_decide_eq_true hd
   rw [decide_eq_true hd] at h
   have h:AtW x ((3,(⟨#[45]⟩:ByteArray),0) :: (1,⟨(Lib.decDigits (0 - n).toNat).toArray⟩,(((0 - n).toNat:Nat):Int)) :: R):=h
   obtain ⟨h1,h2,h3,h4⟩:=atw_cons hg h
   obtain ⟨g1,g2,g3,g4⟩:=atw_cons h3 h4
   have hk:((advP x).l.getD (advP x).at_.toNat default).kind=1:=congrArg (·.1) g2
   have hnn:((advP x).l.getD (advP x).at_.toNat default).n=(((0 - n).toNat:Nat):Int):=congrArg (·.2.2) g2
   have k1:kwC (3,(⟨#[45]⟩:ByteArray),0) (⟨#[40]⟩:ByteArray)=false:=by kernel_rfl
   have k2:kwC (3,(⟨#[45]⟩:ByteArray),0) (⟨#[116,114,117,101]⟩:ByteArray)=false:=by kernel_rfl
   have k3:kwC (3,(⟨#[45]⟩:ByteArray),0) (⟨#[102,97,108,115,101]⟩:ByteArray)=false:=by kernel_rfl
   have k4:kwC (3,(⟨#[45]⟩:ByteArray),0) (⟨#[45]⟩:ByteArray)=true:=by kernel_rfl
   simp only [isP_cons hg h,k1,k2,k3,k4,cond_false,cond_true]
   rw [hk,hnn,decide_eq_true g1,show w64 (0 - (((0 - n).toNat:Nat):Int))=n by rw [w64_id (by omega) (by omega)]; omega]
   exact ⟨_,rfl,g4,g3⟩
 | bool n hn =>
  rcases hn with rfl | rfl
  ·have h:AtW x ((0,(⟨#[102,97,108,115,101]⟩:ByteArray),0) :: R):=h
   obtain ⟨h1,h2,h3,h4⟩:=atw_cons hg h
   have k1:kwC (0,(⟨#[102,97,108,115,101]⟩:ByteArray),0) (⟨#[40]⟩:ByteArray)=false:=by kernel_rfl
   have k2:kwC (0,(⟨#[102,97,108,115,101]⟩:ByteArray),0) (⟨#[116,114,117,101]⟩:ByteArray)=false:=by kernel_rfl
   have k3:kwC (0,(⟨#[102,97,108,115,101]⟩:ByteArray),0) (⟨#[102,97,108,115,101]⟩:ByteArray)=true:=by kernel_rfl
   simp only [isP_cons hg h,k1,k2,k3,cond_false,cond_true]
   exact ⟨_,rfl,h4,h3⟩
  ·have h:AtW x ((0,(⟨#[116,114,117,101]⟩:ByteArray),0) :: R):=h
   obtain ⟨h1,h2,h3,h4⟩:=atw_cons hg h
   have k1:kwC (0,(⟨#[116,114,117,101]⟩:ByteArray),0) (⟨#[40]⟩:ByteArray)=false:=by kernel_rfl
   have k2:kwC (0,(⟨#[116,114,117,101]⟩:ByteArray),0) (⟨#[116,114,117,101]⟩:ByteArray)=true:=by kernel_rfl
   simp only [isP_cons hg h,k1,k2,cond_false,cond_true]
   exact ⟨_,rfl,h4,h3⟩
 | var n hn =>
  have h:AtW x ((0,rule_Variables.getD n.toNat default,0) :: R):=h
  obtain ⟨h1,h2,h3,h4⟩:=atw_cons hg h
  obtain ⟨k1,k2,k3,k4,-,-,k5⟩:=vars_kw n.toNat (by omega)
  have hk:(x.l.getD x.at_.toNat default).kind=0:=congrArg (·.1) h2
  have k6:((0:Int) == 1)=false:=rfl
  simp only [isP_cons hg h,k1,k2,k3,k4,cond_false,hk,k6,Bool.and_false,one_cons hg h k5]
  exact ⟨_,by show (Except.ok _:Except Wrong (Term × Reader))=_; rw [show ((n.toNat:Nat):Int)=n by omega],h4,h3⟩
 | not a ha=>cases hl
 | ite a b c ha hb hc=>cases hl
 | bin op hop a b ha hb=>cases hl
theorem part_leaf {f:Term→List Wt} {a:Term} (h:a.args=[]):partTW f a=f a:=by
 unfold partTW
 rw [h]; rfl
theorem part_node {f:Term→List Wt} {a:Term} (h:a.args≠[]):partTW f a=sgW (⟨#[40]⟩:ByteArray) :: (f a++[sgW (⟨#[41]⟩:ByteArray)]):=by
 unfold partTW
 rw [decide_eq_true (by have:=List.length_pos_iff.2 h; omega)]
 rfl
theorem part_head {a:Term} (ha:a.Wr) (fw:Nat) (hf:a.depth≤fw):∃ c cs,cores (partTW (termTW fw) a)=c :: cs∧kwC c (⟨#[110,111,116]⟩:ByteArray)=false∧kwC c (⟨#[105,102]⟩:ByteArray)=false:=by
 by_cases hl:a.args=[]
 ·rw [part_leaf hl]
  obtain ⟨fw,rfl⟩:∃ k,fw=k+1:=⟨fw - 1,by have:=a.depth_pos; omega⟩
  cases wr_shape ha with
  | int n hn =>
   have e:termTW (fw+1) ⟨0,n,[]⟩=bif decide (n < 0) then [sgW (⟨#[45]⟩:ByteArray),nuW (0 - n).toNat] else [nuW n.toNat]:=rfl
   rw [e]
   cases decide (n < 0)
   ·exact ⟨_,_,rfl,kwC_num _ _ _,kwC_num _ _ _⟩
   ·exact ⟨_,_,rfl,by kernel_rfl,by kernel_rfl⟩
  | bool n hn=>rcases hn with rfl | rfl <;> exact ⟨_,_,rfl,by kernel_rfl,by kernel_rfl⟩
  | var n hn =>
   obtain ⟨-,-,-,-,k1,k2,-⟩:=vars_kw n.toNat (by omega)
   exact ⟨_,_,rfl,k1,k2⟩
  | not a ha=>cases hl
  | ite a b c ha hb hc=>cases hl
  | bin op hop a b ha hb=>cases hl
 ·rw [part_node hl]
  exact ⟨_,_,rfl,by kernel_rfl,by kernel_rfl⟩
theorem find_op4:rule_operators.find? (fun o=>kwC (coreT (opW 4).2) o.2)=some (4,mget rule_operators 4 (⟨#[]⟩:ByteArray)):=by kernel_rfl
theorem find_op5:rule_operators.find? (fun o=>kwC (coreT (opW 5).2) o.2)=some (5,mget rule_operators 5 (⟨#[]⟩:ByteArray)):=by kernel_rfl
theorem find_op7:rule_operators.find? (fun o=>kwC (coreT (opW 7).2) o.2)=some (7,mget rule_operators 7 (⟨#[]⟩:ByteArray)):=by kernel_rfl
theorem find_op8:rule_operators.find? (fun o=>kwC (coreT (opW 8).2) o.2)=some (8,mget rule_operators 8 (⟨#[]⟩:ByteArray)):=by kernel_rfl
theorem find_op9:rule_operators.find? (fun o=>kwC (coreT (opW 9).2) o.2)=some (9,mget rule_operators 9 (⟨#[]⟩:ByteArray)):=by kernel_rfl
theorem find_op10:rule_operators.find? (fun o=>kwC (coreT (opW 10).2) o.2)=some (10,mget rule_operators 10 (⟨#[]⟩:ByteArray)):=by kernel_rfl
theorem find_op11:rule_operators.find? (fun o=>kwC (coreT (opW 11).2) o.2)=some (11,mget rule_operators 11 (⟨#[]⟩:ByteArray)):=by kernel_rfl
theorem find_op12:rule_operators.find? (fun o=>kwC (coreT (opW 12).2) o.2)=some (12,mget rule_operators 12 (⟨#[]⟩:ByteArray)):=by kernel_rfl
theorem find_op13:rule_operators.find? (fun o=>kwC (coreT (opW 13).2) o.2)=some (13,mget rule_operators 13 (⟨#[]⟩:ByteArray)):=by kernel_rfl
theorem find_op (op:Int) (h:op=4∨op=5∨(7≤op∧op≤13)):rule_operators.find? (fun o=>kwC (coreT (opW op).2) o.2)=some (op,mget rule_operators op (⟨#[]⟩:ByteArray)):=by
 have:op=4∨op=5∨op=7∨op=8∨op=9∨op=10∨op=11∨op=12∨op=13:=by omega
 rcases this with rfl | rfl | rfl | rfl | rfl | rfl | rfl | rfl | rfl
 ·exact find_op4
 ·exact find_op5
 ·exact find_op7
 ·exact find_op8
 ·exact find_op9
 ·exact find_op10
 ·exact find_op11
 ·exact find_op12
 ·exact find_op13
def NoOp (R:List Core):Prop:=∀ c cs,R=c :: cs→∀ o,o∈rule_operators→kwC c o.2=false
theorem ops_none {a:Term} {x:Reader} {R:List Core} (hg:Rgd x) (h:AtW x R) (hR:NoOp R) (rv:Reader→Except Wrong (Term × Reader)):opsF rv (a,x)=.ok (a,x):=by
 have:(rule_operators.find? fun o=>isP x o.2)=none:=by
  rw [List.find?_eq_none]
  intro o ho
  cases R with
  | nil=>rw [isP_nil hg h]; decide
  | cons c cs=>rw [isP_cons hg h,hR c cs rfl o ho]; decide
 unfold opsF
 simp only [this]
theorem bin_tw (fw:Nat) (op:Int) (h:op=4∨op=5∨(7≤op∧op≤13)) (a b:Term):termTW (fw+1) ⟨op,0,[a,b]⟩=partTW (termTW fw) a++opW op :: partTW (termTW fw) b:=by
 have g0:(op == 0)=false:=beq_false_of_ne (by omega)
 have g1:(op == 1)=false:=beq_false_of_ne (by omega)
 have g2:(op == 2)=false:=beq_false_of_ne (by omega)
 have g3:(op == 3)=false:=beq_false_of_ne (by omega)
 have g6:(op == 6)=false:=beq_false_of_ne (by omega)
 show joinTW ⟨op,0,[a,b]⟩ ([a,b].map (partTW (termTW fw)))=_
 unfold joinTW
 simp only [g0,g1,g2,g3,g6,cond_false]
 rfl
def PartOK (fw:Nat):Prop:=∀ (t:Term),t.Wr→t.depth≤fw→∀ (fu:Nat) (x:Reader) (R:List Core),Rgd x→mR x≤fu→AtW x (cores (partTW (termTW fw) t)++R)→∃ y,rule_reader_atom_n fu x=.ok (t,y)∧AtW y R∧Rgd y
theorem mR_le {x y:Reader} {fu:Nat} (hg:Rgd x) (hy:Rgd y) (h:mR x≤fu) (hl:y.l.length=x.l.length) (ha:x.at_≤y.at_):mR y≤fu:=by
 unfold mR at *
 have:=hg.1
 have:=hy.1
 omega
def PartRv (fw:Nat) (rv:Reader→Except Wrong (Term × Reader)) (x:Reader):Prop:=∀ (t:Term),t.Wr→t.depth≤fw→∀ (y:Reader) (R:List Core),Rgd y→y.l.length=x.l.length→x.at_≤y.at_→AtW y (cores (partTW (termTW fw) t)++R)→∃ z,rv y=.ok (t,z)∧AtW z R∧Rgd z∧z.l.length=y.l.length∧y.at_ < z.at_
theorem node_words {fw:Nat} {rv:Reader→Except Wrong (Term × Reader)} {x:Reader} (IH:PartRv fw rv x) {t:Term} (ht:t.Wr) (hf:t.depth≤fw+1) (hn:t.args≠[]) {R:List Core} (hg:Rgd x) (h:AtW x (cores (termTW (fw+1) t)++R)):∃ y,termP rv x=.ok (t,y)∧AtW y R∧Rgd y:=by
 rw [termP_ops]
 cases wr_shape ht with
 | int n hn'=>exact absurd rfl hn
 | bool n hn'=>exact absurd rfl hn
 | var n hn'=>exact absurd rfl hn
 | not a ha =>
  have hda:=depth_mem (t:=⟨3,0,[a]⟩) (a:=a) (by simp)
  have h:AtW x ((0,(⟨#[110,111,116]⟩:ByteArray),0) :: (cores (partTW (termTW fw) a)++R)):=h
  obtain ⟨h1,-,h3,h4⟩:=atw_cons hg h
  have k1:kwC (0,(⟨#[110,111,116]⟩:ByteArray),0) (⟨#[110,111,116]⟩:ByteArray)=true:=by kernel_rfl
  have ha1:=adv_good hg h1
  obtain ⟨y,q1,q2,q3,-,-⟩:=IH a ha (by omega) (advP x) R h3 rfl (by omega) h4
  rw [isP_cons hg h,k1]
  simp only [cond_true,q1]
  exact ⟨y,rfl,q2,q3⟩
 | ite a b c ha hb hc =>
  have hda:=depth_mem (t:=⟨6,0,[a,b,c]⟩) (a:=a) (by simp)
  have hdb:=depth_mem (t:=⟨6,0,[a,b,c]⟩) (a:=b) (by simp)
  have hdc:=depth_mem (t:=⟨6,0,[a,b,c]⟩) (a:=c) (by simp)
  have h:AtW x ((0,(⟨#[105,102]⟩:ByteArray),0) :: (cores (partTW (termTW fw) a++nmW (⟨#[116,104,101,110]⟩:ByteArray) :: (partTW (termTW fw) b++nmW (⟨#[101,108,115,101]⟩:ByteArray) :: partTW (termTW fw) c))++R)):=h
  obtain ⟨h1,-,h3,h4⟩:=atw_cons hg h
  have k0:kwC (0,(⟨#[105,102]⟩:ByteArray),0) (⟨#[110,111,116]⟩:ByteArray)=false:=by kernel_rfl
  have k1:kwC (0,(⟨#[105,102]⟩:ByteArray),0) (⟨#[105,102]⟩:ByteArray)=true:=by kernel_rfl
  have ha1:=adv_good hg h1
  have l1:(advP x).l.length=x.l.length:=rfl
  rw [cores_app,List.append_assoc,cores_cons,List.cons_append] at h4
  obtain ⟨y,q1,q2,q3,l2,a2⟩:=IH a ha (by omega) (advP x) _ h3 rfl (by omega) h4
  have kt:kwC (coreT (nmW (⟨#[116,104,101,110]⟩:ByteArray)).2) (⟨#[116,104,101,110]⟩:ByteArray)=true:=by kernel_rfl
  have ke:kwC (coreT (nmW (⟨#[101,108,115,101]⟩:ByteArray)).2) (⟨#[101,108,115,101]⟩:ByteArray)=true:=by kernel_rfl
  have n1:=need_cons q3 q2 kt
  obtain ⟨y1,-,y3,y4⟩:=atw_cons q3 q2
  have hay:=adv_good q3 y1
  have l3:(advP y).l.length=y.l.length:=rfl
  rw [cores_app,List.append_assoc,cores_cons,List.cons_append] at y4
  obtain ⟨z,r1,r2,r3,l4,a4⟩:=IH b hb (by omega) (advP y) _ y3 (by omega) (by omega) y4
  have n2:=need_cons r3 r2 ke
  obtain ⟨z1,-,z3,z4⟩:=atw_cons r3 r2
  have haz:=adv_good r3 z1
  have l5:(advP z).l.length=z.l.length:=rfl
  obtain ⟨v,s1,s2,s3,-,-⟩:=IH c hc (by omega) (advP z) R z3 (by omega) (by omega) z4
  rw [isP_cons hg h,isP_cons hg h,k0,k1]
  simp only [cond_false,cond_true,bindE,q1,n1,r1,n2,s1]
  exact ⟨v,rfl,s2,s3⟩
 | bin op hop a b ha hb =>
  have hda:=depth_mem (t:=⟨op,0,[a,b]⟩) (a:=a) (by simp)
  have hdb:=depth_mem (t:=⟨op,0,[a,b]⟩) (a:=b) (by simp)
  rw [bin_tw fw op hop,cores_app,List.append_assoc,cores_cons,List.cons_append] at h
  obtain ⟨c,cs,e1,e2,e3⟩:=part_head ha fw (by omega)
  have hh:=h
  rw [e1,List.cons_append] at hh
  obtain ⟨y,q1,q2,q3,l2,a2⟩:=IH a ha (by omega) x _ hg rfl (Int.le_refl _) h
  obtain ⟨y1,-,y3,y4⟩:=atw_cons q3 q2
  have hay:=adv_good q3 y1
  have l3:(advP y).l.length=y.l.length:=rfl
  obtain ⟨z,r1,r2,r3,-,-⟩:=IH b hb (by omega) (advP y) R y3 (by omega) (by omega) y4
  have hf:(rule_operators.find? fun o=>isP y o.2)=some (op,mget rule_operators op (⟨#[]⟩:ByteArray)):=by
   rw [← find_op op hop]
   congr 1
   funext o
   exact isP_cons q3 q2 o.2
  rw [isP_cons hg hh,isP_cons hg hh,e2,e3]
  simp only [cond_false,bindE,q1,opsF,hf,r1]
  exact ⟨z,rfl,r2,r3⟩
theorem partRv_n {fw fu:Nat} {x:Reader} (IH:PartOK fw) (hg:Rgd x) (hm:mR x≤fu):PartRv fw (rule_reader_atom_n fu) x:=fun t ht hf y R hy hl ha h=>by
 have hm2:=mR_le hg hy hm hl ha
 obtain ⟨z,q1,q2,q3⟩:=IH t ht hf fu y R hy hm2 h
 have p:Rgd z∧z.l.length=y.l.length∧y.at_ < z.at_:=atom_ps hy hm2 q1
 exact ⟨z,q1,q2,q3,p.2.1,p.2.2⟩
theorem partRv_f {fw:Nat} {x:Reader} (IH:PartOK fw):PartRv fw rule_reader_atom x:=fun t ht hf y R hy hl ha h=>by
 obtain ⟨z,q1,q2,q3⟩:=IH t ht hf (mR y) y R hy (Nat.le_refl _) h
 have p:Rgd z∧z.l.length=y.l.length∧y.at_ < z.at_:=atom_ps hy (Nat.le_refl _) q1
 exact ⟨z,q1,q2,q3,p.2.1,p.2.2⟩
theorem part_ok:∀ fw:Nat,PartOK fw
 | 0=>fun t _ h=>absurd h (by have:=t.depth_pos; omega)
 | fw+1=>by
  intro t ht hf fu x R hg hm h
  obtain ⟨fu,rfl⟩:∃ k,fu=k+1:=⟨fu - 1,by unfold mR at hm; omega⟩
  by_cases hl:t.args=[]
  ·rw [part_leaf hl] at h
   exact leaf_words ht hl (fw+1) fu hf hg h
  ·rw [part_node hl,cores_cons,List.cons_append,cores_app,List.append_assoc] at h
   obtain ⟨h1,-,h3,h4⟩:=atw_cons hg h
   have k1:kwC (coreT (sgW (⟨#[40]⟩:ByteArray)).2) (⟨#[40]⟩:ByteArray)=true:=by kernel_rfl
   have k2:kwC (coreT (sgW (⟨#[41]⟩:ByteArray)).2) (⟨#[41]⟩:ByteArray)=true:=by kernel_rfl
   have ha1:=adv_good hg h1
   have hm1:mR (advP x)≤fu:=by
    have e:(advP x).l=x.l:=rfl
    have:=hg.1
    unfold mR at hm ⊢
    rw [e,ha1.2]
    omega
   obtain ⟨y,q1,q2,q3⟩:=node_words (partRv_n (part_ok fw) h3 hm1) ht hf hl h3 h4
   have n1:=need_cons q3 q2 k2
   obtain ⟨-,-,y3,y4⟩:=atw_cons q3 q2
   rw [atom_succ]
   unfold atomP
   rw [isP_cons hg h,k1]
   simp only [cond_true,bindE,q1,n1]
   exact ⟨_,rfl,y4,y3⟩
theorem term_words {t:Term} (ht:t.Wr) {fw:Nat} (hf:t.depth≤fw) {x:Reader} {R:List Core} (hg:Rgd x) (h:AtW x (cores (termTW fw t)++R)) (hR:NoOp R):∃ y,rule_reader_term x=.ok (t,y)∧AtW y R∧Rgd y:=by
 obtain ⟨fw,rfl⟩:∃ k,fw=k+1:=⟨fw - 1,by have:=t.depth_pos; omega⟩
 rw [termP_eq]
 by_cases hl:t.args=[]
 ·rw [← part_leaf (f:=termTW (fw+1)) hl] at h
  obtain ⟨c,cs,e1,e2,e3⟩:=part_head ht (fw+1) hf
  have hh:=h
  rw [e1,List.cons_append] at hh
  obtain ⟨y,q1,q2,q3,-,-⟩:=partRv_f (x:=x) (part_ok (fw+1)) t ht hf x R hg rfl (Int.le_refl _) h
  rw [termP_ops,isP_cons hg hh,isP_cons hg hh,e2,e3]
  simp only [cond_false,bindE,q1]
  exact ⟨y,ops_none q3 q2 hR _,q2,q3⟩
 ·exact node_words (partRv_f (part_ok fw)) ht hf hl hg h
noncomputable def choiceTW (c:Choice):List Wt:=[nmW (rule_Questions.getD c.ask.toNat default),sgW (⟨#[58]⟩:ByteArray),nmW (rule_Factors.getD c.by_.toNat default)]++((bif c.whole then [nmW (⟨#[119,104,111,108,101]⟩:ByteArray)] else [])++[sgW (⟨#[59]⟩:ByteArray)])
noncomputable def ruleTW (r:Rule):List Wt:=nmW (rule_Questions.getD r.ask.toNat default) :: sgW (⟨#[61]⟩:ByteArray) :: (termTW 9 r.term++[sgW (⟨#[59]⟩:ByteArray)])
noncomputable def bodyTW (cs:List Choice) (rs:List Rule):List Wt:=(cs.flatMap fun c=>nmW (⟨#[99,104,111,111,115,101]⟩:ByteArray) :: choiceTW c)++(rs.flatMap fun r=>nmW (⟨#[114,117,108,101]⟩:ByteArray) :: ruleTW r)
noncomputable def orderTW (o:Order):List Wt:=nmW (⟨#[111,114,100,101,114]⟩:ByteArray) :: nmW o.name :: ((bif o.accepts then [nmW (⟨#[97,99,99,101,112,116,115]⟩:ByteArray)] else [])++sgW (⟨#[123]⟩:ByteArray) :: (bodyTW o.choices o.rules++[sgW (⟨#[125]⟩:ByteArray)]))
def CokC (c:Choice):Prop:=0≤c.ask∧c.ask < 22∧0≤c.by_∧c.by_ < 5
def RokR (r:Rule):Prop:=0≤r.ask∧r.ask < 22∧r.term.Wr∧r.term.depth≤8∧(term_Check r.term).2≠6
theorem quest_kw:∀ i,i < 22→slices_IndexS rule_Questions (rule_Questions.getD i default)=i∧lex_Name (rule_Questions.getD i default)=true:=by
 intro i hi
 have h:(List.range 22).all (fun i=>(slices_IndexS rule_Questions (rule_Questions.getD i default) == (i:Int))&&lex_Name (rule_Questions.getD i default))=true:=by kernel_rfl
 have:=List.all_eq_true.1 h i (List.mem_range.2 hi)
 simp only [Bool.and_eq_true,beq_iff_eq] at this
 exact this
theorem fact_kw:∀ i,i < 5→slices_IndexS rule_Factors (rule_Factors.getD i default)=i∧lex_Name (rule_Factors.getD i default)=true:=by
 intro i hi
 have h:(List.range 5).all (fun i=>(slices_IndexS rule_Factors (rule_Factors.getD i default) == (i:Int))&&lex_Name (rule_Factors.getD i default))=true:=by kernel_rfl
 have:=List.all_eq_true.1 h i (List.mem_range.2 hi)
 simp only [Bool.and_eq_true,beq_iff_eq] at this
 exact this
theorem contC {l:List Choice} {v:Int} (h:∀ c,c∈l→c.ask≠v):slices_ContainsFunc_89 l v=false:=by
 have hp:=slices_ContainsFunc_89_post l v
 cases hc:slices_ContainsFunc_89 l v with
 | false=>rfl
 | true =>
  obtain ⟨q,hq,he⟩:=hp.1 hc
  exact absurd (eq_of_beq he) (h _ (lget_mem hq default))
theorem contR {l:List Rule} {v:Int} (h:∀ c,c∈l→c.ask≠v):slices_ContainsFunc_91 l v=false:=by
 have hp:=slices_ContainsFunc_91_post l v
 cases hc:slices_ContainsFunc_91 l v with
 | false=>rfl
 | true =>
  obtain ⟨q,hq,he⟩:=hp.1 hc
  exact absurd (eq_of_beq he) (h _ (lget_mem hq default))
theorem take_cons {x:Reader} {c:Core} {cs:List Core} (hg:Rgd x) (h:AtW x (c :: cs)) (s:ByteArray):rule_reader_take x s=bif kwC c s then (true,advP x) else (false,x):=by
 rw [takeP_eq,isP_cons hg h]
theorem choice_words {c:Choice} (hc:CokC c) {x:Reader} {o:Order} {R:List Core} (hg:Rgd x) (h:AtW x (cores (choiceTW c)++R)) (ho:∀ d,d∈o.choices→d.ask≠c.ask):∃ y,rule_reader_choice x o=.ok (y,{ o with choices:=o.choices++[c] })∧AtW y R∧Rgd y:=by
 obtain ⟨a0,a1,b0,b1⟩:=hc
 have e:cores (choiceTW c)++R=(0,rule_Questions.getD c.ask.toNat default,0) :: (3,(⟨#[58]⟩:ByteArray),0) :: (0,rule_Factors.getD c.by_.toNat default,0) :: (cores (bif c.whole then [nmW (⟨#[119,104,111,108,101]⟩:ByteArray)] else [])++(3,(⟨#[59]⟩:ByteArray),0) :: R):=by
  unfold choiceTW
  simp only [cores_app,List.append_assoc,cores_cons]
  rfl
 rw [e] at h
 obtain ⟨h1,-,h3,h4⟩:=atw_cons hg h
 have k1:kwC (3,(⟨#[58]⟩:ByteArray),0) (⟨#[58]⟩:ByteArray)=true:=by kernel_rfl
 have k2:kwC (3,(⟨#[59]⟩:ByteArray),0) (⟨#[59]⟩:ByteArray)=true:=by kernel_rfl
 have k3:kwC (3,(⟨#[59]⟩:ByteArray),0) (⟨#[119,104,111,108,101]⟩:ByteArray)=false:=by kernel_rfl
 have k4:kwC (coreT (nmW (⟨#[119,104,111,108,101]⟩:ByteArray)).2) (⟨#[119,104,111,108,101]⟩:ByteArray)=true:=by kernel_rfl
 have q1:=one_cons hg h (quest_kw c.ask.toNat (by omega)).1
 have hct:slices_ContainsFunc_89 o.choices ((c.ask.toNat:Nat):Int)=false:=by
  rw [show ((c.ask.toNat:Nat):Int)=c.ask by omega]
  exact contC ho
 have n1:=need_cons h3 h4 k1
 obtain ⟨-,-,g3,g4⟩:=atw_cons h3 h4
 have q2:=one_cons g3 g4 (fact_kw c.by_.toNat (by omega)).1
 obtain ⟨-,-,f3,f4⟩:=atw_cons g3 g4
 rw [choiceP_eq,q1]
 simp only [bindE,hct,cond_false,n1,q2]
 rw [show ((c.ask.toNat:Nat):Int)=c.ask by omega,show ((c.by_.toNat:Nat):Int)=c.by_ by omega]
 cases hw:c.whole
 ·rw [hw] at f4
  have f4:AtW (advP (advP (advP x))) ((3,(⟨#[59]⟩:ByteArray),0) :: R):=f4
  rw [take_cons f3 f4,k3]
  simp only [cond_false]
  rw [need_cons f3 f4 k2]
  obtain ⟨-,-,w3,w4⟩:=atw_cons f3 f4
  refine ⟨_,?_,w4,w3⟩
  rw [← hw]
 ·rw [hw] at f4
  have f4:AtW (advP (advP (advP x))) (coreT (nmW (⟨#[119,104,111,108,101]⟩:ByteArray)).2 :: (3,(⟨#[59]⟩:ByteArray),0) :: R):=f4
  rw [take_cons f3 f4,k4]
  simp only [cond_true]
  obtain ⟨-,-,w3,w4⟩:=atw_cons f3 f4
  rw [need_cons w3 w4 k2]
  obtain ⟨-,-,v3,v4⟩:=atw_cons w3 w4
  refine ⟨_,?_,v4,v3⟩
  rw [← hw]
theorem noop_semi (R:List Core):NoOp ((3,(⟨#[59]⟩:ByteArray),0) :: R):=by
 intro c cs h o ho
 cases h
 have:rule_operators.all (fun o=>!kwC (3,(⟨#[59]⟩:ByteArray),0) o.2)=true:=by kernel_rfl
 have:=List.all_eq_true.1 this o ho
 simpa using this
theorem rule_words {r:Rule} (hr:RokR r) {x:Reader} {o:Order} {R:List Core} (hg:Rgd x) (h:AtW x (cores (ruleTW r)++R)) (ho:∀ d,d∈o.rules→d.ask≠r.ask):∃ y,rule_reader_rule x o=.ok (y,{ o with rules:=o.rules++[r] })∧AtW y R∧Rgd y:=by
 obtain ⟨a0,a1,hw,hd,hc⟩:=hr
 have e:cores (ruleTW r)++R=(0,rule_Questions.getD r.ask.toNat default,0) :: (3,(⟨#[61]⟩:ByteArray),0) :: (cores (termTW 9 r.term)++(3,(⟨#[59]⟩:ByteArray),0) :: R):=by
  unfold ruleTW
  simp only [cores_app,List.append_assoc,cores_cons,List.cons_append]
  rfl
 rw [e] at h
 obtain ⟨h1,-,h3,h4⟩:=atw_cons hg h
 have k1:kwC (3,(⟨#[61]⟩:ByteArray),0) (⟨#[61]⟩:ByteArray)=true:=by kernel_rfl
 have k2:kwC (3,(⟨#[59]⟩:ByteArray),0) (⟨#[59]⟩:ByteArray)=true:=by kernel_rfl
 have q1:=one_cons hg h (quest_kw r.ask.toNat (by omega)).1
 have hct:slices_ContainsFunc_91 o.rules ((r.ask.toNat:Nat):Int)=false:=by
  rw [show ((r.ask.toNat:Nat):Int)=r.ask by omega]
  exact contR ho
 have n1:=need_cons h3 h4 k1
 obtain ⟨-,-,g3,g4⟩:=atw_cons h3 h4
 obtain ⟨y,t1,t2,t3⟩:=term_words hw (fw:=9) (by omega) g3 g4 (noop_semi R)
 have hc6:((term_Check r.term).2 == 6)=false:=by simpa using hc
 rw [ruleP_eq,q1]
 simp only [bindE,hct,cond_false,n1,t1,isP_cons t3 t2,k2,cond_true,hc6]
 rw [show ((r.ask.toNat:Nat):Int)=r.ask by omega]
 obtain ⟨-,-,w3,w4⟩:=atw_cons t3 t2
 exact ⟨_,rfl,w4,w3⟩
theorem iter_fuel {α ι:Type} {f:ι→α ⊕ ι} {d:α} (I:ι→Prop) (m:ι→Nat) (h:∀ i,I i→∀ j,f i=.inr j→I j∧m j < m i):∀ (n n':Nat) (i:ι),I i→m i < n→m i < n'→iter f d n i=iter f d n' i
 | 0,_,i,_,hn,_=>absurd hn (Nat.not_lt_zero _)
 | _+1,0,i,_,_,hn=>absurd hn (Nat.not_lt_zero _)
 | n+1,n'+1,i,hi,h1,h2=>by
  unfold iter
  cases hf:f i with
  | inl a=>rfl
  | inr j =>
   have:=h i hi j hf
   exact iter_fuel I m h n n' j this.1 (by omega) (by omega)
theorem body_dec (i:Order × Reader) (hi:Rgd i.2) (j:Order × Reader) (h:bodyP i=.inr j):Rgd j.2∧j.2.l.length - j.2.at_.toNat < i.2.l.length - i.2.at_.toNat:=by
 unfold bodyP at h
 cases h1:isP i.2 (⟨#[125]⟩:ByteArray)
 ·rw [h1] at h
  simp only [cond_false] at h
  cases h2:isP i.2 (⟨#[99,104,111,111,115,101]⟩:ByteArray)
  ·rw [h2] at h
   simp only [cond_false] at h
   cases h3:isP i.2 (⟨#[114,117,108,101]⟩:ByteArray)
   ·rw [h3] at h; cases h
   ·rw [h3] at h
    simp only [cond_true] at h
    have g:=adv_good hi (isP_lt h3)
    cases hr:rule_reader_rule (advP i.2) i.1 with
    | error e=>rw [hr] at h; cases h
    | ok p =>
     rw [hr] at h
     cases h
     have gp:=rule_good g.1 hr
     have e2:(advP i.2).l.length=i.2.l.length:=rfl
     have:=isP_lt h3
     have:=hi.1
     refine ⟨gp.1,?_⟩
     show p.1.l.length - p.1.at_.toNat < _
     omega
  ·rw [h2] at h
   simp only [cond_true] at h
   have g:=adv_good hi (isP_lt h2)
   cases hr:rule_reader_choice (advP i.2) i.1 with
   | error e=>rw [hr] at h; cases h
   | ok p =>
    rw [hr] at h
    cases h
    have gp:=choice_good g.1 hr
    have e2:(advP i.2).l.length=i.2.l.length:=rfl
    have:=isP_lt h2
    have:=hi.1
    refine ⟨gp.1,?_⟩
    show p.1.l.length - p.1.at_.toNat < _
    omega
 ·rw [h1] at h; cases h
theorem bodyL_step {i j:Order × Reader} (hi:Rgd i.2) (h:bodyP i=.inr j):bodyL i=bodyL j:=by
 have hd:=body_dec i hi j h
 have e:bodyL i=iter bodyP default (i.2.l.length - i.2.at_.toNat) j:=by
  unfold bodyL
  rw [iter,h]
 rw [e]
 exact iter_fuel (fun i=>Rgd i.2) (fun i=>i.2.l.length - i.2.at_.toNat) (fun i hi j h=>body_dec i hi j h) _ _ j hd.1 hd.2 (Nat.lt_succ_self _)
theorem bodyL_stop {i:Order × Reader} {a} (h:bodyP i=.inl a):bodyL i=a:=by
 unfold bodyL
 rw [iter,h]
def Asc {α:Type} (key:α→Int) (l:List α):Prop:=l.Pairwise fun a b=>key a < key b
theorem body_rules:∀ (rs:List Rule) (o:Order) (x:Reader) (R:List Core),(∀ r,r∈rs→RokR r)→Asc (·.ask) (o.rules++rs)→Rgd x→AtW x (cores (rs.flatMap fun r=>nmW (⟨#[114,117,108,101]⟩:ByteArray) :: ruleTW r)++(3,(⟨#[125]⟩:ByteArray),0) :: R) →
  ∃ y,bodyL (o,x)=.inr ({ o with rules:=o.rules++rs },y)∧AtW y R∧Rgd y
 | [],o,x,R,_,_,hg,h=>by
  have h:AtW x ((3,(⟨#[125]⟩:ByteArray),0) :: R):=h
  obtain ⟨-,-,h3,h4⟩:=atw_cons hg h
  have k1:kwC (3,(⟨#[125]⟩:ByteArray),0) (⟨#[125]⟩:ByteArray)=true:=by kernel_rfl
  refine ⟨advP x,?_,h4,h3⟩
  rw [bodyL_stop (a:=.inr (o,advP x)) (by unfold bodyP; simp only [isP_cons hg h,k1,cond_true])]
  rw [List.append_nil]
 | r :: rs,o,x,R,hr,hasc,hg,h=>by
  rw [List.flatMap_cons,cores_app,List.append_assoc,cores_cons,List.cons_append] at h
  obtain ⟨-,-,h3,h4⟩:=atw_cons hg h
  have k1:kwC (coreT (nmW (⟨#[114,117,108,101]⟩:ByteArray)).2) (⟨#[125]⟩:ByteArray)=false:=by kernel_rfl
  have k2:kwC (coreT (nmW (⟨#[114,117,108,101]⟩:ByteArray)).2) (⟨#[99,104,111,111,115,101]⟩:ByteArray)=false:=by kernel_rfl
  have k3:kwC (coreT (nmW (⟨#[114,117,108,101]⟩:ByteArray)).2) (⟨#[114,117,108,101]⟩:ByteArray)=true:=by kernel_rfl
  have hne:∀ d,d∈o.rules→d.ask≠r.ask:=fun d hd=>by
   have:d.ask < r.ask:=(List.pairwise_append.1 hasc).2.2 d hd r (by simp)
   omega
  obtain ⟨y,q1,q2,q3⟩:=rule_words (hr r (by simp)) (o:=o) h3 h4 hne
  obtain ⟨z,r1,r2,r3⟩:=body_rules rs { o with rules:=o.rules++[r] } y R (fun d hd=>hr d (by simp [hd])) (by rw [List.append_assoc]; exact hasc) q3 q2
  refine ⟨z,?_,r2,r3⟩
  rw [bodyL_step (i:=(o,x)) (j:=({ o with rules:=o.rules++[r] },y)) hg (by unfold bodyP; simp only [isP_cons hg h,k1,k2,k3,cond_true,cond_false,q1,okX]),r1]
  simp only [List.append_assoc,List.singleton_append]
theorem body_words:∀ (cs:List Choice) (rs:List Rule) (o:Order) (x:Reader) (R:List Core),(∀ c,c∈cs→CokC c)→(∀ r,r∈rs→RokR r)→Asc (·.ask) (o.choices++cs)→Asc (·.ask) (o.rules++rs)→Rgd x→AtW x (cores (bodyTW cs rs)++(3,(⟨#[125]⟩:ByteArray),0) :: R) →
  ∃ y,bodyL (o,x)=.inr ({ o with choices:=o.choices++cs,rules:=o.rules++rs },y)∧AtW y R∧Rgd y
 | [],rs,o,x,R,_,hr,_,hasc,hg,h=>by
  obtain ⟨y,q1,q2,q3⟩:=body_rules rs o x R hr hasc hg h
  refine ⟨y,?_,q2,q3⟩
  rw [q1,List.append_nil]
 | c :: cs,rs,o,x,R,hc,hr,hascc,hascr,hg,h=>by
  have e:bodyTW (c :: cs) rs=nmW (⟨#[99,104,111,111,115,101]⟩:ByteArray) :: (choiceTW c++bodyTW cs rs):=by
   unfold bodyTW
   rw [List.flatMap_cons]
   simp only [List.append_assoc,List.cons_append]
  rw [e,cores_cons,cores_app,List.cons_append,List.append_assoc] at h
  obtain ⟨-,-,h3,h4⟩:=atw_cons hg h
  have k1:kwC (coreT (nmW (⟨#[99,104,111,111,115,101]⟩:ByteArray)).2) (⟨#[125]⟩:ByteArray)=false:=by kernel_rfl
  have k2:kwC (coreT (nmW (⟨#[99,104,111,111,115,101]⟩:ByteArray)).2) (⟨#[99,104,111,111,115,101]⟩:ByteArray)=true:=by kernel_rfl
  have hne:∀ d,d∈o.choices→d.ask≠c.ask:=fun d hd=>by
   have:d.ask < c.ask:=(List.pairwise_append.1 hascc).2.2 d hd c (by simp)
   omega
  obtain ⟨y,q1,q2,q3⟩:=choice_words (hc c (by simp)) (o:=o) h3 h4 hne
  obtain ⟨z,r1,r2,r3⟩:=body_words cs rs { o with choices:=o.choices++[c] } y R (fun d hd=>hc d (by simp [hd])) hr (by rw [List.append_assoc]; exact hascc) hascr q3 q2
  refine ⟨z,?_,r2,r3⟩
  rw [bodyL_step (i:=(o,x)) (j:=({ o with choices:=o.choices++[c] },y)) hg (by unfold bodyP; simp only [isP_cons hg h,k1,k2,cond_true,cond_false,q1,okX]),r1]
  simp only [List.append_assoc,List.singleton_append]
theorem asc_isort {α:Type} (key:α→Int) {l:List α} (h:Asc key l):isort key l=l:=by
 refine sorted_one key _ l (isort_perm key l) (((isort_perm key l).map key).nodup_iff.2 ?_) (isort_sorted key l) (h.imp fun hab=>Int.le_of_lt hab)
 rw [List.Nodup,List.pairwise_map]
 exact h.imp fun hab=>Int.ne_of_lt hab
structure OkO (o:Order):Prop where
 name:lex_Name o.name=true
 cs:∀ c,c∈o.choices→CokC c
 rs:∀ r,r∈o.rules→RokR r
 ca:Asc (·.ask) o.choices
 ra:Asc (·.ask) o.rules
theorem contO {l:List Order} {v:Order} (h:∀ c,c∈l→c.name≠v.name):slices_ContainsFunc_44 l v=false:=by
 have hp:=slices_ContainsFunc_44_post l v
 cases hc:slices_ContainsFunc_44 l v with
 | false=>rfl
 | true =>
  obtain ⟨q,hq,he⟩:=hp.1 hc
  rw [rule_reader_order_c1_eq,beq_iff_eq] at he
  exact absurd (bytes_inj he) (h _ (lget_mem hq default))
theorem order_words {o:Order} (ho:OkO o) {x:Reader} {R:List Core} (hg:Rgd x) (hl:x.list.length < 20) (hn:∀ p,p∈x.list→p.name≠o.name) (h:AtW x (cores (orderTW o)++R)):∃ y,rule_reader_order x=.ok y∧AtW y R∧Rgd y∧y.list=x.list++[o]:=by
 have e:cores (orderTW o)++R=coreT (nmW (⟨#[111,114,100,101,114]⟩:ByteArray)).2 :: (0,o.name,0) :: (cores (bif o.accepts then [nmW (⟨#[97,99,99,101,112,116,115]⟩:ByteArray)] else [])++(3,(⟨#[123]⟩:ByteArray),0) :: (cores (bodyTW o.choices o.rules)++(3,(⟨#[125]⟩:ByteArray),0) :: R)):=by
  unfold orderTW
  simp only [cores_app,List.append_assoc,cores_cons,List.cons_append]
  rfl
 rw [e] at h
 have k1:kwC (coreT (nmW (⟨#[111,114,100,101,114]⟩:ByteArray)).2) (⟨#[111,114,100,101,114]⟩:ByteArray)=true:=by kernel_rfl
 have k2:kwC (3,(⟨#[123]⟩:ByteArray),0) (⟨#[123]⟩:ByteArray)=true:=by kernel_rfl
 have k3:kwC (3,(⟨#[123]⟩:ByteArray),0) (⟨#[97,99,99,101,112,116,115]⟩:ByteArray)=false:=by kernel_rfl
 have k4:kwC (coreT (nmW (⟨#[97,99,99,101,112,116,115]⟩:ByteArray)).2) (⟨#[97,99,99,101,112,116,115]⟩:ByteArray)=true:=by kernel_rfl
 have n1:=need_cons hg h k1
 obtain ⟨-,-,h3,h4⟩:=atw_cons hg h
 obtain ⟨g1,g2,g3,g4⟩:=atw_cons h3 h4
 have hk:((advP x).l.getD (advP x).at_.toNat default).kind=0:=congrArg (·.1) g2
 have ht:((advP x).l.getD (advP x).at_.toNat default).text=o.name:=congrArg (·.2.1) g2
 have hnm:rule_reader_name (advP x)=.ok (o.name,advP x):=by
  rw [nameP_eq,hk,ht,decide_eq_false (by omega)]
  rfl
 have hct:slices_ContainsFunc_44 (advP x).list ({ name:=o.name,accepts:=false,choices:=[],rules:=[] }:Order)=false:=contO hn
 have h20:(((advP x).list.length:Int) == 20)=false:=by
  have e:(advP x).list.length=x.list.length:=rfl
  rw [e,beq_eq_false_iff_ne]; omega
 obtain ⟨oname,oacc,ochs,orls⟩:=o
 have fin:∀ (d:Reader),Rgd d→d.list=x.list→AtW d (cores (bodyTW ochs orls)++(3,(⟨#[125]⟩:ByteArray),0) :: R)→∃ y,(pickS (bodyL (({ name:=oname,accepts:=oacc,choices:=[],rules:=[] }:Order),d)) fun c=>.ok (endO c))=(.ok y:Except Wrong Reader)∧AtW y R∧Rgd y∧y.list=x.list++[(⟨oname,oacc,ochs,orls⟩:Order)]:=fun d gd ld hd=>by
  obtain ⟨y,q1,q2,q3⟩:=body_words ochs orls { name:=oname,accepts:=oacc,choices:=[],rules:=[] } d R ho.cs ho.rs ho.ca ho.ra gd hd
  have kp:=body_kp (({ name:=oname,accepts:=oacc,choices:=[],rules:=[] }:Order),d) (fun r hr=>by cases hr) _ q1
  refine ⟨endO (({ name:=oname,accepts:=oacc,choices:=[]++ochs,rules:=[]++orls }:Order),y),by rw [q1]; rfl,q2,?_,?_⟩
  ·have ll:(endO (({ name:=oname,accepts:=oacc,choices:=[]++ochs,rules:=[]++orls }:Order),y)).list.length=x.list.length+1:=by
    show (y.list++[_]).length=_
    rw [kp.1.2.2]
    show (d.list++[_]).length=_
    rw [ld,List.length_append]
    rfl
   exact ⟨q3.1,q3.2.1,q3.2.2.1,by rw [ll]; omega⟩
  ·show y.list++[_]=_
   have:y.list=x.list:=by rw [kp.1.2.2]; exact ld
   rw [this]
   simp only [List.nil_append,asc_isort _ ho.ca,asc_isort _ ho.ra]
 rw [orderP_eq,n1]
 simp only [bindE,hnm,hct,h20,cond_false]
 cases oacc
 ·have g4:AtW (advP (advP x)) ((3,(⟨#[123]⟩:ByteArray),0) :: (cores (bodyTW ochs orls)++(3,(⟨#[125]⟩:ByteArray),0) :: R)):=g4
  rw [take_cons g3 g4,k3]
  simp only [cond_false]
  rw [need_cons g3 g4 k2]
  obtain ⟨-,-,f3,f4⟩:=atw_cons g3 g4
  exact fin _ f3 rfl f4
 ·have g4:AtW (advP (advP x)) (coreT (nmW (⟨#[97,99,99,101,112,116,115]⟩:ByteArray)).2 :: (3,(⟨#[123]⟩:ByteArray),0) :: (cores (bodyTW ochs orls)++(3,(⟨#[125]⟩:ByteArray),0) :: R)):=g4
  rw [take_cons g3 g4,k4]
  simp only [cond_true]
  obtain ⟨-,-,f3,f4⟩:=atw_cons g3 g4
  rw [need_cons f3 f4 k2]
  obtain ⟨-,-,e3,e4⟩:=atw_cons f3 f4
  exact fin _ e3 rfl e4
theorem orders_dec (i:Reader) (hi:Rgd i) (j:Reader) (h:ordersP i=.inr j):Rgd j∧j.l.length - j.at_.toNat < i.l.length - i.at_.toNat:=by
 unfold ordersP at h
 cases hd:decide (i.at_ < ((i.l.length:Nat):Int))
 ·rw [hd] at h; cases h
 ·rw [hd] at h
  simp only [cond_true] at h
  cases hr:rule_reader_order i with
  | error e=>rw [hr] at h; cases h
  | ok y =>
   rw [hr] at h
   cases h
   have gy:=order_good hi hr
   have:=of_decide_eq_true hd
   have:=hi.1
   exact ⟨gy.1,by omega⟩
theorem read_words:∀ (l:List Order) (x:Reader),(∀ o,o∈l→OkO o)→(x.list++l).Pairwise (fun a b=>a.name≠b.name)→(x.list++l).length≤20→Rgd x→AtW x (cores (l.flatMap orderTW))→readP x=.ok (x.list++l)
 | [],x,_,_,_,hg,h=>by
  have h:AtW x []:=h
  have hd:=decide_eq_false (atw_nil hg h)
  unfold readP
  rw [iter,ordersP,hd]
  simp only [cond_false,pickS,List.append_nil]
 | o :: l,x,ho,hp,hl,hg,h=>by
  rw [List.flatMap_cons,cores_app] at h
  have hlt:x.at_ < (x.l.length:Int):=by
   have h2:AtW x (coreT (nmW (⟨#[111,114,100,101,114]⟩:ByteArray)).2 :: (cores (orderTW o).tail++cores (l.flatMap orderTW))):=h
   exact (atw_cons hg h2).1
  obtain ⟨y,q1,q2,q3,q4⟩:=order_words (ho o (by simp)) hg (by simp at hl; omega) (fun p hpm=>(List.pairwise_append.1 hp).2.2 p hpm o (by simp)) h
  have hb:ordersP x=.inr y:=by
   unfold ordersP
   rw [decide_eq_true hlt,q1]
   rfl
  have hdd:=orders_dec x hg y hb
  have e:readP x=readP y:=by
   unfold readP
   rw [iter,hb]
   simp only
   rw [iter_fuel (fun i=>Rgd i) (fun i=>i.l.length - i.at_.toNat) orders_dec _ (y.l.length - y.at_.toNat+1) y hdd.1 hdd.2 (Nat.lt_succ_self _)]
  rw [e,read_words l y (fun p hp=>ho p (by simp [hp])) (by rw [q4,List.append_assoc]; exact hp) (by rw [q4,List.append_assoc]; exact hl) q3 q2,q4,List.append_assoc]
  rfl
abbrev bl (s:ByteArray):List UInt8:=s.data.toList
theorem bl_app (a b:ByteArray):bl (a++b)=bl a++bl b:=by
 show (a++b).data.toList=_
 rw [ByteArray.data_append,Array.toList_append]
abbrev wT (l:List Wt):List UInt8:=txtW (l.map (·.1))
theorem wT_app {a b:List Wt} (ha:a≠[]) (hb:b≠[]):wT (a++b)=wT a++32 :: wT b:=by
 show txtW ((a++b).map (·.1))=_
 rw [List.map_append]
 exact txtW_append _ _ (by simpa using ha) (by simpa using hb)
theorem wT_cons (a:Wt) {b:List Wt} (hb:b≠[]):wT (a :: b)=a.1++32 :: wT b:=by
 show txtW (a.1 :: b.map (·.1))=_
 exact txtW_cons _ (by simpa using hb)
theorem part_ne {f:Term→List Wt} {a:Term} (h:f a≠[]):partTW f a≠[]:=by
 by_cases hl:a.args=[]
 ·rw [part_leaf hl]; exact h
 ·rw [part_node hl]; simp
theorem term_ne {t:Term} (ht:t.Wr) {fw:Nat} (hf:t.depth≤fw):termTW fw t≠[]:=by
 obtain ⟨fw,rfl⟩:∃ k,fw=k+1:=⟨fw - 1,by have:=t.depth_pos; omega⟩
 cases wr_shape ht with
 | int n hn =>
  show (bif decide (n < 0) then _ else _)≠[]
  cases decide (n < 0) <;> exact List.cons_ne_nil _ _
 | bool n hn=>exact List.cons_ne_nil _ _
 | var n hn=>exact List.cons_ne_nil _ _
 | not a ha=>exact List.cons_ne_nil _ _
 | ite a b c ha hb hc=>exact List.cons_ne_nil _ _
 | bin op hop a b ha hb =>
  rw [bin_tw fw op hop]
  simp
theorem wpart_words {rv:Term→ByteArray} {f:Term→List Wt} {a:Term} (h:bl (rv a)=wT (f a)) (hne:f a≠[]):bl (wpart rv a)=wT (partTW f a):=by
 by_cases hl:a.args=[]
 ·rw [part_leaf hl,← h]
  unfold wpart
  rw [hl]; rfl
 ·rw [part_node hl,wT_cons _ (by simp),wT_app hne (by simp),← h]
  unfold wpart
  rw [decide_eq_true (by have:=List.length_pos_iff.2 hl; omega)]
  simp only [cond_true,bl_app]
  show [40,32]++bl (rv a)++[32,41]=[40]++32 :: (bl (rv a)++32 :: [41])
  simp
theorem opW_fst (op:Int):(opW op).1=bl (mget rule_operators op (⟨#[]⟩:ByteArray)):=by
 unfold opW
 cases (op == 4||op == 5||op == 12||op == 13) <;> rfl
theorem written_words:∀ (fu fw:Nat) (t:Term),t.Wr→t.depth≤fu→t.depth≤fw→bl (rule_written_n fu t)=wT (termTW fw t)
 | 0,_,t,_,h,_=>absurd h (by have:=t.depth_pos; omega)
 | _+1,0,t,_,_,h=>absurd h (by have:=t.depth_pos; omega)
 | fu+1,fw+1,t,ht,h1,h2=>by
  have ih:∀ a,a∈t.args→a.Wr→bl (wpart (rule_written_n fu) a)=wT (partTW (termTW fw) a):=fun a ha hw=>by
   have:=depth_mem ha
   exact wpart_words (written_words fu fw a hw (by omega) (by omega)) (term_ne hw (by omega))
  have ine:∀ a,a∈t.args→a.Wr→partTW (termTW fw) a≠[]:=fun a ha hw=>by
   have:=depth_mem ha
   exact part_ne (term_ne hw (by omega))
  rw [written_succ]
  cases wr_shape ht with
  | int n hn =>
   have e:termTW (fw+1) ⟨0,n,[]⟩=bif decide (n < 0) then [sgW (⟨#[45]⟩:ByteArray),nuW (0 - n).toNat] else [nuW n.toNat]:=rfl
   have e2:wjoin ⟨0,n,[]⟩ (([]:List Term).map (wpart (rule_written_n fu)))=bif decide (n < 0) then (⟨#[45,32]⟩:ByteArray)++itoaS (w64 (0 - n)) else itoaS n:=rfl
   rw [e,e2]
   cases hd:decide (n < 0)
   ·have hd:=of_decide_eq_false hd
    show (Lib.itoa n).toArray.toList=Lib.decDigits n.toNat
    rw [List.toList_toArray,Lib.itoa,if_neg hd]
   ·have hd:=of_decide_eq_true hd
    have hw:w64 (0 - n)=0 - n:=w64_id (by omega) (by omega)
    simp only [cond_true]
    rw [bl_app,hw]
    show [45,32]++(Lib.itoa (0 - n)).toArray.toList=[45]++32 :: Lib.decDigits (0 - n).toNat
    rw [List.toList_toArray,Lib.itoa,if_neg (by omega)]
    rfl
  | bool n hn=>rcases hn with rfl | rfl <;> rfl
  | var n hn=>rfl
  | not a ha =>
   have e:termTW (fw+1) ⟨3,0,[a]⟩=nmW (⟨#[110,111,116]⟩:ByteArray) :: partTW (termTW fw) a:=rfl
   have e2:wjoin ⟨3,0,[a]⟩ ([a].map (wpart (rule_written_n fu)))=(⟨#[110,111,116,32]⟩:ByteArray)++wpart (rule_written_n fu) a:=rfl
   rw [e,e2,bl_app,ih a (by simp) ha,wT_cons _ (ine a (by simp) ha)]
   rfl
  | ite a b c ha hb hc =>
   have e:termTW (fw+1) ⟨6,0,[a,b,c]⟩=nmW (⟨#[105,102]⟩:ByteArray) :: (partTW (termTW fw) a++nmW (⟨#[116,104,101,110]⟩:ByteArray) :: (partTW (termTW fw) b++nmW (⟨#[101,108,115,101]⟩:ByteArray) :: partTW (termTW fw) c)):=rfl
   have e2:wjoin ⟨6,0,[a,b,c]⟩ ([a,b,c].map (wpart (rule_written_n fu)))=(((((⟨#[105,102,32]⟩:ByteArray)++wpart (rule_written_n fu) a)++(⟨#[32,116,104,101,110,32]⟩:ByteArray))++wpart (rule_written_n fu) b)++(⟨#[32,101,108,115,101,32]⟩:ByteArray))++wpart (rule_written_n fu) c:=rfl
   rw [e,e2]
   simp only [bl_app]
   rw [ih a (by simp) ha,ih b (by simp) hb,ih c (by simp) hc,wT_cons _ (by simp),wT_app (ine a (by simp) ha) (by simp),wT_cons _ (by simp),wT_app (ine b (by simp) hb) (by simp),wT_cons _ (ine c (by simp) hc)]
   simp [nmW,bl]
  | bin op hop a b ha hb =>
   have e2:wjoin ⟨op,0,[a,b]⟩ ([a,b].map (wpart (rule_written_n fu)))=(((wpart (rule_written_n fu) a++(⟨#[32]⟩:ByteArray))++(mget rule_operators op (⟨#[]⟩:ByteArray)))++(⟨#[32]⟩:ByteArray))++wpart (rule_written_n fu) b:=by
    have g0:(op == 0)=false:=beq_false_of_ne (by omega)
    have g1:(op == 1)=false:=beq_false_of_ne (by omega)
    have g2:(op == 2)=false:=beq_false_of_ne (by omega)
    have g3:(op == 3)=false:=beq_false_of_ne (by omega)
    have g6:(op == 6)=false:=beq_false_of_ne (by omega)
    unfold wjoin
    simp only [g0,g1,g2,g3,g6,cond_false]
    rfl
   rw [bin_tw fw op hop,e2]
   simp only [bl_app]
   rw [ih a (by simp) ha,ih b (by simp) hb,wT_app (ine a (by simp) ha) (by simp),wT_cons _ (ine b (by simp) hb),opW_fst]
   simp [bl]
structure Seen {α:Type} (key:α→Int) (ok:α→Prop) (l:List α) (last:Int):Prop where
 all:∀ c,c∈l→ok c
 asc:Asc key l
 lo : -1≤last
 le:∀ c,c∈l→key c≤last
 ex:last = -1∨∃ c,c∈l∧key c=last
theorem Seen.nil {α:Type} {key:α→Int} {ok:α→Prop}:Seen key ok [] (-1):=⟨fun c h=>(by cases h),List.Pairwise.nil,Int.le_refl _,fun c h=>(by cases h),.inl rfl⟩
theorem Seen.snoc {α:Type} {key:α→Int} {ok:α→Prop} {l:List α} {last:Int} (h:Seen key ok l last) {c:α} (hc:ok c) (hl:last < key c):Seen key ok (l++[c]) (key c):=by
 refine ⟨fun d hd=>?_,?_,by have:=h.lo; omega,fun d hd=>?_,.inr ⟨c,by simp,rfl⟩⟩
 ·rcases List.mem_append.1 hd with hd | hd
  ·exact h.all d hd
  ·rw [List.mem_singleton.1 hd]; exact hc
 ·refine List.pairwise_append.2 ⟨h.asc,List.pairwise_singleton _ _,fun a ha b hb=>?_⟩
  rw [List.mem_singleton.1 hb]
  have:=h.le a ha
  omega
 ·rcases List.mem_append.1 hd with hd | hd
  ·have:=h.le d hd; omega
  ·rw [List.mem_singleton.1 hd]; exact Int.le_refl _
theorem Seen.bad {α:Type} {key:α→Int} {ok:α→Prop} {l:List α} {last:Int} (h:Seen key ok l last) {c:α} {L r:List α} (hL:L=l++c :: r) (hk:key c≤last) (h0:∀ x,ok x→0≤key x) (hall:∀ x,x∈L→ok x) (hasc:Asc key L):False:=by
 subst hL
 rcases h.ex with e | ⟨d,hd,e⟩
 ·have:=h0 c (hall c (by simp)); omega
 ·have:key d < key c:=(List.pairwise_append.1 hasc).2.2 d hd c (by simp)
  omega
structure OkT (o:Order):Prop where
 cs:∀ c,c∈o.choices→CokC c
 rs:∀ r,r∈o.rules→RokR r
 ca:Asc (·.ask) o.choices
 ra:Asc (·.ask) o.rules
theorem take_succ_app {α:Type} [Inhabited α] {l:List α} {i:Nat} (h:i < l.length):l.take (i+1)=l.take i++[l.getD i default]:=by
 have e:l.getD i default=l[i]:=by simp [List.getD,h]
 rw [List.take_add_one,List.getElem?_eq_getElem h,e]
 rfl
theorem take_split {α:Type} [Inhabited α] {l:List α} {i:Nat} (h:i < l.length):l=l.take i++l.getD i default :: l.drop (i+1):=by
 have e:l.getD i default=l[i]:=by simp [List.getD,h]
 conv=>lhs; rw [← List.take_append_drop i l,List.drop_eq_getElem_cons h]
 rw [e]
noncomputable def cwT (c:Choice):List Wt:=nmW (⟨#[99,104,111,111,115,101]⟩:ByteArray) :: choiceTW c
noncomputable def rwT (r:Rule):List Wt:=nmW (⟨#[114,117,108,101]⟩:ByteArray) :: ruleTW r
noncomputable def headT (o:Order):List Wt:=nmW (⟨#[111,114,100,101,114]⟩:ByteArray) :: nmW o.name :: ((bif o.accepts then [nmW (⟨#[97,99,99,101,112,116,115]⟩:ByteArray)] else [])++[sgW (⟨#[123]⟩:ByteArray)])
theorem headT_ne (o:Order):headT o≠[]:=List.cons_ne_nil _ _
theorem cwT_ne (c:Choice):cwT c≠[]:=List.cons_ne_nil _ _
theorem rwT_ne (r:Rule):rwT r≠[]:=List.cons_ne_nil _ _
theorem app_ne {α:Type} {a b:List α} (h:a≠[]):a++b≠[]:=by
 cases a with
 | nil=>exact absurd rfl h
 | cons _ _=>exact List.cons_ne_nil _ _
theorem orderTW_eq (o:Order):orderTW o=((headT o++o.choices.flatMap cwT)++o.rules.flatMap rwT)++[sgW (⟨#[125]⟩:ByteArray)]:=by
 unfold orderTW headT bodyTW
 simp only [List.cons_append,List.append_assoc,List.nil_append]
 rfl
theorem cwT_bytes (c:Choice) (hw:c.whole=true):wT (cwT c)=[99,104,111,111,115,101]++32 :: (bl (rule_Questions.getD c.ask.toNat default)++32 :: ([58]++32 :: (bl (rule_Factors.getD c.by_.toNat default)++32 :: ([119,104,111,108,101]++32 :: [59])))):=by
 unfold cwT choiceTW
 rw [hw]
 rfl
theorem cwT_bytesF (c:Choice) (hw:c.whole=false):wT (cwT c)=[99,104,111,111,115,101]++32 :: (bl (rule_Questions.getD c.ask.toNat default)++32 :: ([58]++32 :: (bl (rule_Factors.getD c.by_.toNat default)++32 :: [59]))):=by
 unfold cwT choiceTW
 rw [hw]
 rfl
theorem rwT_bytes (r:Rule) (h:r.term.Wr) (hd:r.term.depth≤8):wT (rwT r)=[114,117,108,101]++32 :: (bl (rule_Questions.getD r.ask.toNat default)++32 :: ([61]++32 :: (bl (rule_written r.term)++32 :: [59]))):=by
 have hne:=term_ne h (show r.term.depth≤9 by omega)
 have e:=written_words r.term.depth 9 r.term h (Nat.le_refl _) (by omega)
 unfold rwT ruleTW
 rw [wT_cons _ (by simp),wT_cons _ (by simp),wT_cons _ (by simp),wT_app hne (by simp),← e]
 rfl
theorem text_spec (o:Order):((rule_text o).2=true→OkT o∧bl (rule_text o).1=wT (orderTW o))∧((rule_text o).2=false→(rule_text o).1=⟨#[]⟩∧¬ OkT o):=by
 refine Sk.pvalE (rule_text_sk o) (L:=fun x=>(x.2=true→OkT o∧bl x.1=wT (orderTW o))∧(x.2=false→x.1=⟨#[]⟩∧¬ OkT o)) ?_
 unfold rule_text_sk
 simp only [Sk.pstE,Sk.isLoop,reduceCtorEq,ON,kk,rule_Questions_k,rule_Factors_k,term_Check_k,rule_shaped_k,rule_written_k]
 refine fun _=>⟨fun b=>bl b++[32,123]=wT (headT o),⟨fun ha _=>?_,fun ha=>?_⟩,fun b _ hb _=>⟨fun b2=>bl b2.1=wT (headT o++o.choices.flatMap cwT)∧(∀ c,c∈o.choices→CokC c)∧Asc (·.ask) o.choices,
  ⟨fun i=>i.2.2≤o.choices.length∧bl i.1=wT (headT o++(o.choices.take i.2.2).flatMap cwT)∧Seen (·.ask) CokC (o.choices.take i.2.2) i.2.1,⟨Nat.zero_le _,?_,Seen.nil⟩,fun i hi=>⟨fun hc=>?_,fun hc=>?_⟩⟩,fun b2 _ hb2=>⟨fun b7=>bl b7=wT ((headT o++o.choices.flatMap cwT)++o.rules.flatMap rwT)∧(∀ c,c∈o.rules→RokR c)∧Asc (·.ask) o.rules,
   ⟨fun i=>i.2.2≤o.rules.length∧bl i.1=wT ((headT o++o.choices.flatMap cwT)++(o.rules.take i.2.2).flatMap rwT)∧Seen (·.ask) RokR (o.rules.take i.2.2) i.2.1,⟨Nat.zero_le _,?_,Seen.nil⟩,fun i hi=>⟨fun hc=>?_,fun hc=>?_⟩⟩,fun b7 _ hb7 _=>?_⟩⟩⟩
 ·unfold headT
  rw [ha]
  simp only [bl_app,cond_true]
  rw [wT_cons _ (by simp),wT_cons _ (by simp),List.singleton_append,wT_cons _ (by simp)]
  simp [bl,nmW,sgW,wT]
  try rfl
 ·unfold headT
  rw [ha]
  simp only [bl_app,cond_false]
  rw [wT_cons _ (by simp),wT_cons _ (by simp)]
  simp [bl,nmW,sgW,wT]
  try rfl
 ·show bl (b++_)=wT (headT o++[])
  rw [List.append_nil,bl_app]
  exact hb
 ·have hc:=of_decide_eq_true hc
  have hlt:i.2.2 < o.choices.length:=by omega
  have hsp:=take_split hlt
  intro _
  refine ⟨fun hcond hT=>?_,fun hcond x hx=>?_⟩
  ·simp only [Bool.or_eq_true,decide_eq_true_eq] at hcond
   have hcm:=hT.cs _ (lget_mem hlt default)
   rcases hcond with ((h | h) | h) | h
   ·exact hi.2.2.bad hsp h (fun x hx=>hx.1) hT.cs hT.ca
   ·have:=hcm.2.1; omega
   ·have:=hcm.2.2.1; omega
   ·have:=hcm.2.2.2; omega
  ·simp only [Bool.or_eq_false_iff,decide_eq_false_iff_not] at hcond
   obtain ⟨⟨⟨c1,c2⟩,c3⟩,c4⟩:=hcond
   have hlo:=hi.2.2.lo
   have hok:CokC (o.choices.getD i.2.2 default):=⟨by omega,by omega,by omega,by omega⟩
   have hseen:=hi.2.2.snoc hok (by omega:i.2.1 < (o.choices.getD i.2.2 default).ask)
   rw [← take_succ_app hlt] at hseen
   have hfm:headT o++(o.choices.take (i.2.2+1)).flatMap cwT=(headT o++(o.choices.take i.2.2).flatMap cwT)++cwT (o.choices.getD i.2.2 default):=by
    rw [take_succ_app hlt,List.flatMap_append,List.append_assoc]
    simp
   subst hx
   refine ⟨fun hw _ _ _=>⟨⟨hlt,?_,hseen⟩,by omega⟩,fun hw _ _=>⟨⟨hlt,?_,hseen⟩,by omega⟩⟩
   ·rw [hfm,wT_app (app_ne (headT_ne o)) (cwT_ne _),← hi.2.1,cwT_bytes _ hw]
    simp only [bl_app]
    simp [bl]
   ·rw [hfm,wT_app (app_ne (headT_ne o)) (cwT_ne _),← hi.2.1,cwT_bytesF _ hw]
    simp only [bl_app]
    simp [bl]
 ·have hc:=of_decide_eq_false hc
  have h2:=hi.2
  rw [List.take_of_length_le (by omega)] at h2
  exact ⟨h2.1,h2.2.all,h2.2.asc⟩
 ·show bl b2.1=wT ((headT o++o.choices.flatMap cwT)++[])
  rw [List.append_nil]
  exact hb2.1
 ·have hc:=of_decide_eq_true hc
  have hlt:i.2.2 < o.rules.length:=by omega
  have hsp:=take_split hlt
  intro _ x hx hp y hy hyp
  refine ⟨fun hcond hT=>?_,fun hcond z hz _=>?_⟩
  ·simp only [Bool.or_eq_true,decide_eq_true_eq,beq_iff_eq,Bool.not_eq_true'] at hcond
   have hcm:=hT.rs _ (lget_mem hlt default)
   rcases hcond with ((h | h) | h) | h
   ·exact hi.2.2.bad hsp h (fun x hx=>hx.1) hT.rs hT.ra
   ·have:=hcm.2.1; omega
   ·exact hcm.2.2.2.2 (by rw [← hx]; exact h)
   ·rw [hy] at h
    have:=(rule_shaped_wr _).2 hcm.2.2.1
    rw [this] at h; cases h
  ·simp only [Bool.or_eq_false_iff,decide_eq_false_iff_not,beq_eq_false_iff_ne,Bool.not_eq_false'] at hcond
   obtain ⟨⟨⟨c1,c2⟩,c3⟩,c4⟩:=hcond
   have hlo:=hi.2.2.lo
   have hwr:=hyp c4
   have hdp:=hp.2 c3
   have hok:RokR (o.rules.getD i.2.2 default):=⟨by omega,by omega,hwr,hdp,by rw [← hx]; exact c3⟩
   have hseen:=hi.2.2.snoc hok (by omega:i.2.1 < (o.rules.getD i.2.2 default).ask)
   rw [← take_succ_app hlt] at hseen
   have hfm:(headT o++o.choices.flatMap cwT)++(o.rules.take (i.2.2+1)).flatMap rwT=((headT o++o.choices.flatMap cwT)++(o.rules.take i.2.2).flatMap rwT)++rwT (o.rules.getD i.2.2 default):=by
    rw [take_succ_app hlt,List.flatMap_append]
    simp
   subst hz
   intro _
   refine ⟨⟨hlt,?_,hseen⟩,by omega⟩
   rw [hfm,wT_app (app_ne (app_ne (headT_ne o))) (rwT_ne _),← hi.2.1,rwT_bytes _ hwr hdp]
   simp only [bl_app]
   simp [bl]
 ·have hc:=of_decide_eq_false hc
  have h2:=hi.2
  rw [List.take_of_length_le (by omega)] at h2
  exact ⟨h2.1,h2.2.all,h2.2.asc⟩
 ·refine ⟨⟨hb2.2.1,hb7.2.1,hb2.2.2,hb7.2.2⟩,?_⟩
  rw [orderTW_eq,wT_app (app_ne (app_ne (headT_ne o))) (by simp),← hb7.1]
  rw [bl_app]
  rfl
theorem txtW_join:∀ l:List (List UInt8),Lib.join l [32]=txtW l
 | []=>rfl
 | [x]=>Lib.join_one _ _
 | x :: y :: r=>by
  have e:Lib.join (x :: y :: r) [32]=x++[32]++Lib.join (y :: r) [32]:=by simp [Lib.join,List.intercalate,List.intersperse]
  rw [e,txtW_join (y :: r)]
  show _=x++32 :: txtW (y :: r)
  simp
theorem orderTW_ne (o:Order):orderTW o≠[]:=List.cons_ne_nil _ _
theorem txtW_orders:∀ l:List Order,txtW (l.map fun o=>wT (orderTW o))=wT (l.flatMap orderTW)
 | []=>rfl
 | [o]=>by simp [txtW]
 | o :: p :: r=>by
  have e:(o :: p :: r).flatMap orderTW=orderTW o++(p :: r).flatMap orderTW:=rfl
  rw [e,wT_app (orderTW_ne o) (by rw [List.flatMap_cons]; exact app_ne (orderTW_ne p)),← txtW_orders (p :: r)]
  rfl
theorem contP {l:List Order} {v:Order}:slices_ContainsFunc_32 l v=true↔∃ c,c∈l∧c.name=v.name:=by
 have hp:slices_ContainsFunc_32 l v=true↔∃ q,q < l.length∧rule_Print_c1 (l.getD q default) v=true:=slices_ContainsFunc_32_post l v
 rw [hp]
 constructor
 ·rintro ⟨q,hq,he⟩
  exact ⟨_,lget_mem hq default,bytes_inj (by simpa [rule_Print_c1_eq] using he)⟩
 ·rintro ⟨c,hc,he⟩
  obtain ⟨q,hq,rfl⟩:=List.mem_iff_getElem.1 hc
  exact ⟨q,hq,by rw [rule_Print_c1_eq,beq_iff_eq]; simp [List.getD,hq,he]⟩
theorem subL_take {l:List Order} {k:Nat} (h:k≤l.length):subL l 0 k=l.take k:=by
 apply List.ext_getElem
 ·simp [subL]; omega
 ·intro i h1 h2
  have hi:i < k:=by simpa [subL] using h1
  simp only [subL,List.getElem_map,List.getElem_range,List.getElem_take,Nat.zero_add]
  simp [List.getD,show i < l.length by omega]
structure AllOk (l:List Order):Prop where
 len:l.length≤20
 ok:∀ o,o∈l→OkO o
 nm:l.Pairwise fun a b=>a.name≠b.name
theorem print_spec (l:List Order):((rule_Print l).2=true→AllOk l∧bl (rule_Print l).1=wT (l.flatMap orderTW)∧(rule_Print l).1.size≤20000)∧((rule_Print l).2=false→(rule_Print l).1=⟨#[]⟩∧(AllOk l→20000 < (wT (l.flatMap orderTW)).length)):=by
 refine Sk.pvalE (rule_Print_sk l) (L:=fun x=>(x.2=true→AllOk l∧bl x.1=wT (l.flatMap orderTW)∧x.1.size≤20000)∧(x.2=false→x.1=⟨#[]⟩∧(AllOk l→20000 < (wT (l.flatMap orderTW)).length))) ?_
 unfold rule_Print_sk
 simp only [Sk.pstE,Sk.isLoop,reduceCtorEq,ON,kk,rule_text_k,lex_Name_k,slices_ContainsFunc_32_k,strings_Join_k]
 refine ⟨fun h hA=>?_,fun hlen=>⟨fun out=>out.map bl=l.map (fun o=>wT (orderTW o))∧AllOk l,⟨fun i=>i.2≤l.length∧i.1.map bl=(l.take i.2).map (fun o=>wT (orderTW o))∧(∀ o,o∈l.take i.2→OkO o)∧(l.take i.2).Pairwise (fun a b=>a.name≠b.name),⟨Nat.zero_le _,rfl,fun o h=>(by cases h),List.Pairwise.nil⟩,fun i hi=>⟨fun hc _ x hx _ y hy _=>⟨fun hcond hA=>?_,fun hcond _ _=>?_⟩,fun hc=>?_⟩⟩,fun out _ hout=>?_⟩⟩
 ·have:=of_decide_eq_true h
  have:=hA.len
  omega
 ·have hc:=of_decide_eq_true hc
  have hlt:i.2 < l.length:=by omega
  have hsp:=take_split hlt
  have hok:=hA.ok _ (lget_mem hlt default)
  have ht:=text_spec (l.getD i.2 default)
  rw [← hx] at ht
  subst hy
  simp only [Bool.or_eq_true,Bool.not_eq_true'] at hcond
  rcases hcond with (h | h) | h
  ·exact absurd ⟨hok.cs,hok.rs,hok.ca,hok.ra⟩ (ht.2 h).2
  ·rw [hok.name] at h; cases h
  ·rw [subL_take hi.1] at h
   obtain ⟨c,hcm,he⟩:=contP.1 h
   have hp:=hA.nm
   rw [hsp] at hp
   exact absurd he ((List.pairwise_append.1 hp).2.2 c hcm _ (by simp))
 ·have hc:=of_decide_eq_true hc
  have hlt:i.2 < l.length:=by omega
  have ht:=text_spec (l.getD i.2 default)
  rw [← hx] at ht
  subst hy
  simp only [Bool.or_eq_false_iff,Bool.not_eq_false'] at hcond
  obtain ⟨⟨c1,c2⟩,c3⟩:=hcond
  obtain ⟨t1,t2⟩:=ht.1 c1
  refine ⟨⟨hlt,?_,?_,?_⟩,by omega⟩
  ·rw [List.map_append,hi.2.1,take_succ_app hlt,List.map_append]
   show _++[bl x.1]=_++[wT (orderTW (l.getD i.2 default))]
   rw [t2]
  ·rw [take_succ_app hlt]
   intro o ho
   rcases List.mem_append.1 ho with ho | ho
   ·exact hi.2.2.1 o ho
   ·rw [List.mem_singleton.1 ho]
    exact ⟨c2,t1.cs,t1.rs,t1.ca,t1.ra⟩
  ·rw [take_succ_app hlt]
   refine List.pairwise_append.2 ⟨hi.2.2.2,List.pairwise_singleton _ _,fun a ha b hb he=>?_⟩
   rw [List.mem_singleton.1 hb] at he
   rw [subL_take hi.1] at c3
   have:=contP.2 ⟨a,ha,he⟩
   rw [c3] at this; cases this
 ·have hc:=of_decide_eq_false hc
  have h2:=hi.2
  rw [List.take_of_length_le (by omega)] at h2
  have hlen:=of_decide_eq_false hlen
  exact ⟨h2.1,by omega,h2.2.1,h2.2.2⟩
 ·intro x hx
  have hb:bl x=wT (l.flatMap orderTW):=by
   rw [hx]
   show (Lib.join (out.map bl) [32]).toArray.toList=_
   rw [List.toList_toArray,txtW_join,hout.1,txtW_orders]
  have hs:x.size=(wT (l.flatMap orderTW)).length:=by rw [← hb]; rfl
  refine ⟨fun h _=>?_,fun h=>⟨hout.2,hb,?_⟩⟩
  ·have:=of_decide_eq_true h
   omega
  ·have:=of_decide_eq_false h
   omega
theorem choice_wd {c:Choice} (h:CokC c):AllWd (choiceTW c):=by
 obtain ⟨a0,a1,b0,b1⟩:=h
 unfold choiceTW
 refine allWd_app (allWd_cons (str_name (quest_kw c.ask.toNat (by omega)).2) (allWd_cons wd_58 (allWd_cons (str_name (fact_kw c.by_.toNat (by omega)).2) allWd_nil))) (allWd_app ?_ (allWd_cons wd_59 allWd_nil))
 cases c.whole
 ·exact allWd_nil
 ·exact allWd_cons (str_name (by kernel_rfl)) allWd_nil
theorem rule_wd {r:Rule} (h:RokR r):AllWd (ruleTW r):=by
 obtain ⟨a0,a1,hw,hd,hc⟩:=h
 exact allWd_cons (str_name (quest_kw r.ask.toNat (by omega)).2) (allWd_cons wd_61 (allWd_app (term_wd 9 r.term hw) (allWd_cons wd_59 allWd_nil)))
theorem order_wd {o:Order} (h:OkO o):AllWd (orderTW o):=by
 unfold orderTW bodyTW
 refine allWd_cons (str_name (by kernel_rfl)) (allWd_cons (str_name h.name) (allWd_app ?_ (allWd_cons wd_123 (allWd_app (allWd_app (fun x hx=>?_) (fun x hx=>?_)) (allWd_cons wd_125 allWd_nil)))))
 ·cases o.accepts
  ·exact allWd_nil
  ·exact allWd_cons (str_name (by kernel_rfl)) allWd_nil
 ·obtain ⟨c,hc,hx⟩:=List.mem_flatMap.1 hx
  exact allWd_cons (str_name (by kernel_rfl)) (choice_wd (h.cs c hc)) x hx
 ·obtain ⟨r,hr,hx⟩:=List.mem_flatMap.1 hx
  exact allWd_cons (str_name (by kernel_rfl)) (rule_wd (h.rs r hr)) x hx
theorem parse_words {l:List Order} (h:AllOk l) {t:ByteArray} (ht:bl t=wT (l.flatMap orderTW)) (hs:t.size≤20000):rule_Parse t=(l,0,0):=by
 have hlx:lexA t.data.toList 0=.ok (placeW (l.flatMap orderTW) 0):=by
  have e:t.data.toList=txtW ((l.flatMap orderTW).map (·.1)):=ht
  rw [e]
  refine lex_words _ _ (fun x hx=>?_) (by rw [← e]; have:=bsize t; omega)
  obtain ⟨o,ho,hx⟩:=List.mem_flatMap.1 hx
  exact order_wd (h.ok o ho) x hx
 have hg:=start_good hs hlx
 have hr:=read_words l (startP t (placeW (l.flatMap orderTW) 0)) h.ok (by rw [show (startP t (placeW (l.flatMap orderTW) 0)).list=[] from rfl,List.nil_append]; exact h.nm) (by rw [show (startP t (placeW (l.flatMap orderTW) 0)).list=[] from rfl,List.nil_append]; exact h.len) hg (by
  show ((placeW (l.flatMap orderTW) 0).drop 0).map coreT=_
  rw [List.drop_zero,place_core]
  rfl)
 rw [parse_plain t hs,hlx]
 show (match readP (startP t (placeW (l.flatMap orderTW) 0)) with | .ok l=>(l,0,0) | .error w=>([],w.pos,w.e))=_
 rw [hr]
 rfl
theorem parse_print {l:List Order} (h:(rule_Print l).2=true):rule_Parse (rule_Print l).1=(l,0,0)∧∀ o,o∈l→RD o:=by
 obtain ⟨h1,h2,h3⟩:=(print_spec l).1 h
 exact ⟨parse_words h1 h2 h3,fun o ho r hr=>((h1.ok o ho).rs r hr).2.2.2.1⟩
structure TokOK (t:Token):Prop where
 name:t.kind=0→lex_Name t.text=true
 num:t.kind=1→0≤t.n∧t.n≤1099511627776∧(Lib.decDigits t.n.toNat).length≤t.text.size
theorem numF (s:ByteArray) (h:(lex_Number s).2=true) (hd:Dg s.data.toList):0≤(lex_Number s).1∧(lex_Number s).1≤1099511627776∧(lex_Number s).1 < ((10 ^ s.size:Nat):Int):=by
 have key:(lex_Number s).2=true→0≤(lex_Number s).1∧(lex_Number s).1≤1099511627776∧(lex_Number s).1 < ((10 ^ s.size:Nat):Int):=by
  refine Sk.pvalE (lex_Number_sk s) (L:=fun x=>x.2=true→0≤x.1∧x.1≤1099511627776∧x.1 < ((10 ^ s.size:Nat):Int)) ?_
  unfold lex_Number_sk
  simp only [Sk.pstE,Sk.isLoop,reduceCtorEq,ON,kk,lex_span_83_k]
  have hN:=bsize s
  intro x hx _
  refine fun hcond=>⟨fun b=>b=numV s.data.toList,⟨fun i=>i.2≤s.size∧i.1=numV (s.data.toList.take i.2),⟨Nat.zero_le _,by simp [numV]⟩,fun i hi=>⟨fun hc _ _=>?_,fun hc=>?_⟩⟩,fun b _ hb h=>?_⟩
  ·simp only [Bool.or_eq_false_iff,decide_eq_false_iff_not] at hcond
   have h13:=hcond.2
   have hc:=of_decide_eq_true hc
   have hlt:i.2 < s.data.toList.length:=by omega
   have hm:=lget_mem hlt (0:UInt8)
   have hb:=dg_bounds (hd _ hm)
   have ht:s.data.toList.take (i.2+1)=s.data.toList.take i.2++[s.data.toList.getD i.2 0]:=by
    have e:s.data.toList.getD i.2 0=s.data.toList[i.2]:=by rw [List.getD,List.getElem?_eq_getElem hlt]; rfl
    rw [List.take_add_one,List.getElem?_eq_getElem hlt,e]
    rfl
   have hv1:=numV_bound i.2 (s.data.toList.take i.2) (by rw [List.length_take]; omega) (fun b hb=>hd b (List.mem_of_mem_take hb))
   have hp:(10 ^ i.2:Nat)≤10 ^ 13:=Nat.pow_le_pow_right (by decide) (by omega)
   have hu:=u8w (z:=((s.data.toList.getD i.2 0).toNat:Int) - 48) (by omega) (by omega)
   rw [← hi.2] at hv1
   have h13':(10 ^ 13:Nat)=10000000000000:=by decide
   rw [hu,w64_id (n:=10 * i.1) (by omega) (by omega),w64_id (n:=((s.data.toList.getD i.2 0).toNat:Int) - 48) (by omega) (by omega),w64_id (by omega) (by omega)]
   refine ⟨⟨by omega,?_⟩,by omega⟩
   rw [ht,numV_snoc,← hi.2]
  ·have hc:=of_decide_eq_false hc
   show i.1=_
   rw [hi.2,List.take_of_length_le (by omega)]
  ·have:=of_decide_eq_false h
   have hv:=numV_bound s.data.toList.length s.data.toList rfl hd
   subst hb
   rw [hN]
   exact ⟨hv.1,by omega,hv.2⟩
 exact key h
theorem nDig_le {u k:Nat} (h:u < 10 ^ k) (hk:1≤k):Lib.nDigits u≤k:=by
 rcases Nat.lt_or_ge k (Lib.nDigits u) with h1 | h1
 ·exfalso
  have:=pow_nDig u (by omega)
  have h2:10 ^ k≤10 ^ (Lib.nDigits u - 1):=Nat.pow_le_pow_right (by decide) (by omega)
  omega
 ·exact h1
theorem span_take {p:Int→Bool}:∀ (l:List UInt8),∀ b,b∈l.take (spanL p l)→p ((b.toNat:Nat):Int)=true
 | [],b,h=>by simp at h
 | c :: l,b,h=>by
  cases hp:p ((c.toNat:Nat):Int)
  ·simp only [spanL,hp,cond_false,List.take_zero] at h
   cases h
  ·simp only [spanL,hp,cond_true,List.take_succ_cons] at h
   rcases List.mem_cons.1 h with rfl | h
   ·exact hp
   ·exact span_take l b h
theorem ext_bl (s:ByteArray) (k:Nat):(s.extract 0 k).data.toList=s.data.toList.take k:=by
 rw [ByteArray.data_extract,Array.toList_extract,List.extract_eq_take_drop]
 simp
theorem next_tok (r:List UInt8) (h1:1≤r.length) (hs:r.length≤1000000) (h:(nextP r).2.2=0):TokOK (nextP r).1∧((nextP r).1.kind≠2→((nextP r).1.text.size:Int)≤(nextP r).2.1):=by
 unfold nextP at h ⊢
 generalize hS:(⟨r.toArray⟩:ByteArray)=S at h ⊢
 have e1:S.data.toList=r:=by rw [← hS]
 rw [next_eq] at h ⊢
 cases c1:lex_letter ((S.data.toList.getD 0 0).toNat:Int)
 ·rw [c1] at h
  simp only [cond_false] at h ⊢
  cases c2:lex_digit ((S.data.toList.getD 0 0).toNat:Int)
  ·rw [c2] at h
   simp only [cond_false] at h ⊢
   cases c3:((S.data.toList.getD 0 0).toNat:Int) == 34
   ·rw [c3] at h
    simp only [cond_false] at h ⊢
    have key:=iter_inv (f:=fun i:Nat=>(bif decide (((i:Nat):Int) < 13) then (bif ((S.data.toList.getD 0 0).toNat:Int) == (([40,41,44,59,58,61,60,43,45,42,46,123,125]:List Int).getD i 0) then .inl (.inl (({ kind:=3,text:=S.extract 0 1,n:=0,pos:=0 }:Token),1,0)) else .inr (i+1)) else .inl (.inr ()):(Token × Int × Int ⊕ Unit) ⊕ Nat)) (d:=default) (fun _=>True) (fun i=>13 - i) (fun v=>∀ a,v=.inl a→TokOK a.1∧(a.1.kind≠2→(a.1.text.size:Int)≤a.2.1)) (fun i _=>by
     cases hd:decide (((i:Nat):Int) < 13)
     ·left; exact ⟨_,rfl,fun a h=>(by cases h)⟩
     ·have hd:=of_decide_eq_true hd
      cases ((S.data.toList.getD 0 0).toNat:Int) == (([40,41,44,59,58,61,60,43,45,42,46,123,125]:List Int).getD i 0)
      ·right; exact ⟨_,rfl,trivial,by omega⟩
      ·left
       refine ⟨_,rfl,fun a h=>?_⟩
       cases h
       exact ⟨⟨fun h=>(by cases h),fun h=>(by cases h)⟩,fun _=>by show ((S.extract 0 1).size:Int)≤1; rw [ByteArray.size_extract]; omega⟩) (13 - 0+1) 0 trivial (by decide)
    revert h key
    generalize iter _ _ _ _=v
    intro key h
    cases v with
    | inl a=>exact h a rfl
    | inr b=>cases key
   ·rw [c3] at h
    simp only [cond_true] at h ⊢
    cases c4:(lex_quoted S).2 == 0
    ·simp only [cond_false]
     exact ⟨⟨fun h=>(by cases h),fun h=>(by cases h)⟩,fun h=>absurd rfl h⟩
    ·rw [c4] at h; cases h
  ·rw [c2] at h
   simp only [cond_true] at h ⊢
   cases c4:(lex_Number (S.extract 0 (lex_span_83 S).toNat)).2
   ·rw [c4] at h; cases h
   ·simp only [Bool.not_true,cond_false]
    rw [span83_eq,Int.toNat_natCast] at c4 ⊢
    have hd:Dg (S.extract 0 (spanL lex_digit S.data.toList)).data.toList:=by rw [ext_bl]; exact span_take _
    have hn:=numF _ c4 hd
    have hsz:1≤(S.extract 0 (spanL lex_digit S.data.toList)).size:=lex_Number_post _ (by rw [ByteArray.size_extract]; have:=bsize S; rw [e1] at this; omega) c4
    refine ⟨⟨fun h=>(by cases h),fun _=>⟨hn.1,hn.2.1,?_⟩⟩,fun _=>Int.le_refl _⟩
    rw [Lib.decDigits_length]
    exact nDig_le (by have:=hn.2.2; have:=hn.1; simp only; omega) hsz
 ·rw [c1] at h
  simp only [cond_true] at h ⊢
  cases c4:lex_Name (S.extract 0 (lex_span_68 S).toNat)
  ·rw [c4] at h; cases h
  ·simp only [Bool.not_true,cond_false]
   exact ⟨⟨fun _=>c4,fun h=>(by cases h)⟩,fun _=>Int.le_refl _⟩
def tw (t:Token):Nat:=bif t.kind == 2 then 0 else t.text.size+1
def TW:List Token→Nat
 | []=>0
 | t :: r=>tw t+TW r
theorem lexA_toks:∀ (fu:Nat) (l:List UInt8) (p:Nat),l.length≤1000000→∀ ts,lexAll fu l p=.ok ts→(∀ t,t∈ts→TokOK t)∧TW ts≤2 * l.length
 | 0,_,_,_,ts,h=>by cases h; exact ⟨fun t ht=>(by cases ht),Nat.zero_le _⟩
 | fu+1,l,p,hl,ts,h=>by
  have g1:=gapS_le l false
  have hrl:(l.drop (gapS l false)).length=l.length - gapS l false:=List.length_drop
  have h:lexStep (lexAll fu) l p=.ok ts:=h
  unfold lexStep at h
  cases he:(l.drop (gapS l false)).isEmpty
  ·rw [he] at h
   simp only [cond_false] at h
   cases hn:(nextP (l.drop (gapS l false))).2.2 != 0
   ·rw [hn] at h
    simp only [cond_false] at h
    have hb:=nextP_len (by omega) he hn
    have hr:1≤(l.drop (gapS l false)).length:=by
     cases hq:l.drop (gapS l false) with
     | nil=>rw [hq] at he; cases he
     | cons _ _=>simp
    have ht:=next_tok (l.drop (gapS l false)) hr (by omega) (by simpa using hn)
    cases hc:lexAll fu ((l.drop (gapS l false)).drop (nextP (l.drop (gapS l false))).2.1.toNat) (p+gapS l false+(nextP (l.drop (gapS l false))).2.1.toNat) with
    | ok ts0 =>
     rw [hc] at h
     have ih:=lexA_toks fu _ _ (by rw [List.length_drop]; omega) ts0 hc
     rw [List.length_drop] at ih
     cases h
     refine ⟨fun t htm=>?_,?_⟩
     ·rcases List.mem_cons.1 htm with rfl | htm
      ·exact ⟨ht.1.name,ht.1.num⟩
      ·exact ih.1 t htm
     ·show tw { (nextP (l.drop (gapS l false))).1 with pos:=_ }+TW ts0≤_
      have hk:tw { (nextP (l.drop (gapS l false))).1 with pos:=((p+gapS l false:Nat):Int) }≤2 * (nextP (l.drop (gapS l false))).2.1.toNat:=by
       unfold tw
       show (bif (nextP (l.drop (gapS l false))).1.kind == 2 then 0 else (nextP (l.drop (gapS l false))).1.text.size+1)≤_
       cases h2:(nextP (l.drop (gapS l false))).1.kind == 2
       ·have:=ht.2 (ne_of_beq_false h2)
        simp only [cond_false]
        omega
       ·exact Nat.zero_le _
      omega
    | error e=>rw [hc] at h; cases h
   ·rw [hn] at h; cases h
  ·rw [he] at h
   cases h
   exact ⟨fun t ht=>(by cases ht),Nat.zero_le _⟩
def rem (x:Reader):Nat:=TW (x.l.drop x.at_.toNat)
theorem rem_adv {x:Reader} (hg:Rgd x) (hl:x.at_ < (x.l.length:Int)):rem x=tw (x.l.getD x.at_.toNat default)+rem (advP x):=by
 have ha:=adv_good hg hl
 have hlt:x.at_.toNat < x.l.length:=by have:=hg.1; omega
 have hat:(advP x).at_.toNat=x.at_.toNat+1:=by have:=hg.1; omega
 unfold rem
 rw [hat,List.drop_eq_getElem_cons hlt]
 have e:x.l.getD x.at_.toNat default=x.l[x.at_.toNat]:=by simp [List.getD,hlt]
 rw [e]
 rfl
theorem rem_is {x:Reader} (hg:Rgd x) {s:ByteArray} (h:isP x s=true):rem x=s.size+1+rem (advP x):=by
 rw [rem_adv hg (isP_lt h)]
 unfold isP at h
 simp only [Bool.and_eq_true,Bool.or_eq_true,beq_iff_eq,decide_eq_true_eq] at h
 have ht:=bytes_inj h.1.2
 have hk:((x.l.getD x.at_.toNat default).kind == 2)=false:=by rcases h.2 with e | e <;> rw [e] <;> rfl
 unfold tw
 rw [hk,ht]
 rfl
theorem need_rem {x y:Reader} {s:ByteArray} (hg:Rgd x) (h:rule_reader_need x s=.ok y):rem x=s.size+1+rem y:=by
 have hy:=(need_good hg h).1
 subst hy
 rw [needP_eq] at h
 obtain ⟨hi,-⟩:=cond_okT h
 exact rem_is hg hi
def Toks (x:Reader):Prop:=∀ t,t∈x.l→TokOK t
theorem tok_at {x:Reader} (hg:Rgd x) (ht:Toks x) (hl:x.at_ < (x.l.length:Int)):TokOK (x.l.getD x.at_.toNat default):=ht _ (lget_mem (by have:=hg.1; omega) default)
def WW:List Wt→Nat
 | []=>0
 | w :: r=>w.1.length+1+WW r
theorem WW_app:∀ a b:List Wt,WW (a++b)=WW a+WW b
 | [],b=>by simp [WW]
 | w :: a,b=>by
  simp only [List.cons_append,WW,WW_app a b]
  omega
theorem wT_len:∀ l:List Wt,(wT l).length≤WW l
 | []=>Nat.le_refl _
 | [w]=>by show w.1.length≤w.1.length+1+0; omega
 | w :: v :: r=>by
  have ih:=wT_len (v :: r)
  rw [wT_cons w (by simp),List.length_append,List.length_cons]
  simp only [WW] at ih ⊢
  omega
theorem WW_part {f:Term→List Wt} (a:Term):WW (f a)≤WW (partTW f a)∧WW (partTW f a)≤WW (f a)+4:=by
 by_cases hl:a.args=[]
 ·rw [part_leaf hl]; omega
 ·rw [part_node hl]
  simp only [WW,WW_app]
  have e1:(sgW (⟨#[40]⟩:ByteArray)).1.length=1:=rfl
  have e2:(sgW (⟨#[41]⟩:ByteArray)).1.length=1:=rfl
  omega
def SndA (x:Reader) (v:Except Wrong (Term × Reader)):Prop:=∀ t y,v=.ok (t,y)→t.Wr∧∀ fw,t.depth≤fw→WW (partTW (termTW fw) t)+rem y≤rem x
def SndT (x:Reader) (v:Except Wrong (Term × Reader)):Prop:=∀ t y,v=.ok (t,y)→t.Wr∧∀ fw,t.depth≤fw→WW (termTW fw t)+rem y≤rem x
structure RvOK (rv:Reader→Except Wrong (Term × Reader)) (x:Reader):Prop where
 ps:∀ y a,Rgd y→y.l=x.l→x.at_≤y.at_→rv y=.ok a→Rgd a.2∧a.2.l=y.l∧y.at_ < a.2.at_
 sd:∀ y,Rgd y→y.l=x.l→x.at_≤y.at_→SndA y (rv y)
theorem op_cases {o:Int × ByteArray} (h:o∈rule_operators):(o.1=4∨o.1=5∨(7≤o.1∧o.1≤13))∧o.2=mget rule_operators o.1 (⟨#[]⟩:ByteArray):=by
 have e:rule_operators=[(4,(⟨#[97,110,100]⟩:ByteArray)),(5,(⟨#[111,114]⟩:ByteArray)),(7,(⟨#[60]⟩:ByteArray)),(8,(⟨#[61]⟩:ByteArray)),(9,(⟨#[43]⟩:ByteArray)),(10,(⟨#[45]⟩:ByteArray)),(11,(⟨#[42]⟩:ByteArray)),(12,(⟨#[109,105,110]⟩:ByteArray)),(13,(⟨#[109,97,120]⟩:ByteArray))]:=rfl
 rw [e] at h ⊢
 simp only [List.mem_cons,List.not_mem_nil,or_false] at h
 rcases h with rfl | rfl | rfl | rfl | rfl | rfl | rfl | rfl | rfl <;> exact ⟨by decide,rfl⟩
theorem wr_bin {op:Int} (h:op=4∨op=5∨(7≤op∧op≤13)) {a b:Term} (ha:a.Wr) (hb:b.Wr):Term.Wr ⟨op,0,[a,b]⟩:=by
 refine .mk ?_ (fun c hc=>?_)
 ·have:op=4∨op=5∨op=7∨op=8∨op=9∨op=10∨op=11∨op=12∨op=13:=by omega
  rcases this with rfl | rfl | rfl | rfl | rfl | rfl | rfl | rfl | rfl <;> rfl
 ·simp only [List.mem_cons,List.not_mem_nil,or_false] at hc
  rcases hc with rfl | rfl
  ·exact ha
  ·exact hb
theorem opW_len {o:Int × ByteArray} (h:o∈rule_operators):(opW o.1).1.length=o.2.size:=by
 rw [opW_fst,← (op_cases h).2]
 rfl
theorem depth_one (t a:Term) (h:a∈t.args) {fw:Nat} (hf:t.depth≤fw):∃ k,fw=k+1∧a.depth≤k:=by
 have:=depth_mem h
 exact ⟨fw - 1,by omega,by omega⟩
theorem termP_sound {rv:Reader→Except Wrong (Term × Reader)} {x:Reader} (hg:Rgd x) (H:RvOK rv x):SndT x (termP rv x):=by
 intro t y h
 rw [termP_ops] at h
 rcases cond_or (P:=fun v:Except Wrong (Term × Reader)=>v=.ok (t,y)) h with ⟨h1,h⟩ | ⟨-,h⟩
 ·obtain ⟨⟨a,z⟩,ha,h⟩:=bindE_ok h
  cases h
  have g:=adv_good hg (isP_lt h1)
  have hr:=rem_is hg h1
  have s:=H.sd _ g.1 rfl (by omega) a z ha
  refine ⟨.mk rfl (fun c hc=>by rw [List.mem_singleton.1 hc]; exact s.1),fun fw hf=>?_⟩
  obtain ⟨k,rfl,hk⟩:=depth_one ⟨3,0,[a]⟩ a (by simp) hf
  have e:termTW (k+1) ⟨3,0,[a]⟩=nmW (⟨#[110,111,116]⟩:ByteArray) :: partTW (termTW k) a:=rfl
  have:=s.2 k hk
  rw [e]
  simp only [WW]
  have e1:(nmW (⟨#[110,111,116]⟩:ByteArray)).1.length=3:=rfl
  have e2:(⟨#[110,111,116]⟩:ByteArray).size=3:=rfl
  show _+rem z≤_
  omega
 rcases cond_or (P:=fun v:Except Wrong (Term × Reader)=>v=.ok (t,y)) h with ⟨h1,h⟩ | ⟨-,h⟩
 ·obtain ⟨⟨a,z⟩,ha,h⟩:=bindE_ok h
  obtain ⟨z1,hz1,h⟩:=bindE_ok h
  obtain ⟨⟨b,v⟩,hb,h⟩:=bindE_ok h
  obtain ⟨v1,hv1,h⟩:=bindE_ok h
  obtain ⟨⟨c,w⟩,hc,h⟩:=bindE_ok h
  cases h
  have g:=adv_good hg (isP_lt h1)
  have hr:=rem_is hg h1
  have s1:=H.sd _ g.1 rfl (by omega) a z ha
  have p1:Rgd z∧z.l=(advP x).l∧(advP x).at_ < z.at_:=H.ps _ _ g.1 rfl (by omega) ha
  have gz:=need_good p1.1 hz1
  have r1:=need_rem p1.1 hz1
  have l1:z1.l=x.l:=by rw [gz.1]; exact p1.2.1
  have s2:=H.sd _ gz.2.1 l1 (by omega) b v hb
  have p2:Rgd v∧v.l=z1.l∧z1.at_ < v.at_:=H.ps _ _ gz.2.1 l1 (by omega) hb
  have gv:=need_good p2.1 hv1
  have r2:=need_rem p2.1 hv1
  have l2:v1.l=x.l:=by rw [gv.1]; exact p2.2.1.trans l1
  have s3:=H.sd _ gv.2.1 l2 (by omega) c w hc
  refine ⟨.mk rfl (fun d hd=>?_),fun fw hf=>?_⟩
  ·simp only [List.mem_cons,List.not_mem_nil,or_false] at hd
   rcases hd with rfl | rfl | rfl
   ·exact s1.1
   ·exact s2.1
   ·exact s3.1
  ·obtain ⟨k,rfl,hk1⟩:=depth_one ⟨6,0,[a,b,c]⟩ a (by simp) hf
   obtain ⟨k',hk',hk2⟩:=depth_one ⟨6,0,[a,b,c]⟩ b (by simp) hf
   obtain ⟨k'',hk'',hk3⟩:=depth_one ⟨6,0,[a,b,c]⟩ c (by simp) hf
   have e:termTW (k+1) ⟨6,0,[a,b,c]⟩=nmW (⟨#[105,102]⟩:ByteArray) :: (partTW (termTW k) a++nmW (⟨#[116,104,101,110]⟩:ByteArray) :: (partTW (termTW k) b++nmW (⟨#[101,108,115,101]⟩:ByteArray) :: partTW (termTW k) c)):=rfl
   have q1:=s1.2 k hk1
   have q2:=s2.2 k (by omega)
   have q3:=s3.2 k (by omega)
   rw [e]
   simp only [WW,WW_app]
   have e1:(nmW (⟨#[105,102]⟩:ByteArray)).1.length=2:=rfl
   have e2:(⟨#[105,102]⟩:ByteArray).size=2:=rfl
   have e3:(nmW (⟨#[116,104,101,110]⟩:ByteArray)).1.length=4:=rfl
   have e4:(⟨#[116,104,101,110]⟩:ByteArray).size=4:=rfl
   have e5:(nmW (⟨#[101,108,115,101]⟩:ByteArray)).1.length=4:=rfl
   have e6:(⟨#[101,108,115,101]⟩:ByteArray).size=4:=rfl
   show _+rem w≤_
   omega
 ·obtain ⟨⟨a,z⟩,ha,h⟩:=bindE_ok h
  have s1:=H.sd _ hg rfl (Int.le_refl _) a z ha
  have p1:Rgd z∧z.l=x.l∧x.at_ < z.at_:=H.ps _ _ hg rfl (Int.le_refl _) ha
  unfold opsF at h
  cases hf:rule_operators.find? fun o=>isP z o.2 with
  | none =>
   rw [hf] at h
   cases h
   exact ⟨s1.1,fun fw hf=>by
    have q1:=s1.2 fw hf
    have q2:=(WW_part (f:=termTW fw) a).1
    show WW (termTW fw a)+rem z≤rem x
    omega⟩
  | some o =>
   rw [hf] at h
   obtain ⟨⟨b,v⟩,hb,h⟩:=bindE_ok h
   cases h
   have ho:=List.find?_some hf
   have hm:=List.mem_of_find?_eq_some hf
   have g:=adv_good p1.1 (isP_lt ho)
   have hr:=rem_is p1.1 ho
   have s2:=H.sd _ g.1 p1.2.1 (by omega) b v hb
   have hop:=(op_cases hm).1
   refine ⟨wr_bin hop s1.1 s2.1,fun fw hf=>?_⟩
   obtain ⟨k,rfl,hk1⟩:=depth_one ⟨o.1,0,[a,b]⟩ a (by simp) hf
   obtain ⟨k',hk',hk2⟩:=depth_one ⟨o.1,0,[a,b]⟩ b (by simp) hf
   have q1:=s1.2 k hk1
   have q2:=s2.2 k (by omega)
   rw [bin_tw k o.1 hop]
   simp only [WW,WW_app]
   have:=opW_len hm
   show _+rem v≤_
   omega
theorem one_sound {x:Reader} {names:List ByteArray} {i:Int} {y:Reader} (hg:Rgd x) (h:rule_reader_one x names=.ok (i,y)):y=x∧x.at_ < (x.l.length:Int)∧0≤i∧i < (names.length:Int)∧rem x=(names.getD i.toNat default).size+1+rem (advP x):=by
 have ho:=one_good h
 rw [oneP_eq] at h
 obtain ⟨a,ha,h⟩:=bindE_ok h
 have hn:=name_good ha
 rw [nameP_eq] at ha
 obtain ⟨hc,ha⟩:=cond_okF ha
 cases ha
 obtain ⟨hi,h⟩:=cond_okF h
 cases h
 simp only [Bool.or_eq_false_iff,bne_eq_false_iff_eq] at hc
 have hi:=of_decide_eq_false hi
 have hp:=slices_IndexS_post names (x.l.getD x.at_.toNat default).text
 rcases hp with ⟨hp,-⟩ | ⟨h1,h2,h3,-⟩
 ·simp only at hi; omega
 ·refine ⟨rfl,ho.2,h1,h2,?_⟩
  rw [rem_adv hg ho.2]
  have ht:=bytes_inj (eq_of_beq h3)
  unfold tw
  rw [hc.2,ht]
  rfl
theorem wtop_int {n:Int} (h : -1099511627776≤n∧n≤1099511627776):wtop ⟨0,n,[]⟩=true :=
 decide_eq_true (show (0:Int)≤0∧(0:Int) < 14∧((0:Nat):Int)=nargs 0∧(0 < nargs 0→n=0)∧((0:Int)=0→-1099511627776≤n∧n≤1099511627776)∧((0:Int)=1→n=0∨n=1)∧((0:Int)=2→0≤n∧n < 20) from ⟨by decide,by decide,rfl,fun h=>absurd h (by decide),fun _=>h,fun h=>absurd h (by decide),fun h=>absurd h (by decide)⟩)
theorem wtop_var {n:Int} (h:0≤n∧n < 20):wtop ⟨2,n,[]⟩=true :=
 decide_eq_true (show (0:Int)≤2∧(2:Int) < 14∧((0:Nat):Int)=nargs 2∧(0 < nargs 2→n=0)∧((2:Int)=0→-1099511627776≤n∧n≤1099511627776)∧((2:Int)=1→n=0∨n=1)∧((2:Int)=2→0≤n∧n < 20) from ⟨by decide,by decide,rfl,fun h=>absurd h (by decide),fun h=>absurd h (by decide),fun h=>absurd h (by decide),fun _=>h⟩)
theorem atomRv {fu:Nat} {x:Reader} (hg:Rgd x) (hm:mR x≤fu) (H:∀ y,Rgd y→y.l=x.l→x.at_≤y.at_→SndA y (rule_reader_atom_n fu y)):RvOK (rule_reader_atom_n fu) x :=
 ⟨fun y a hy hl ha h=>by
  have p:=atom_ps hy (mR_le hg hy hm (by rw [hl]) ha) h
  exact ⟨p.1,(atom_kp fu y a h).1,p.2.2⟩,H⟩
theorem atom_sound:∀ (fu:Nat) (x:Reader),Rgd x→Toks x→mR x≤fu→SndA x (rule_reader_atom_n fu x)
 | 0,x,_,_,h=>absurd h (by unfold mR; omega)
 | fu+1,x,hg,ht,hm=>by
  intro t y h
  rw [atom_succ] at h
  unfold atomP at h
  rcases cond_or (P:=fun v:Except Wrong (Term × Reader)=>v=.ok (t,y)) h with ⟨h1,h⟩ | ⟨-,h⟩
  ·obtain ⟨⟨a,z⟩,ha,h⟩:=bindE_ok h
   obtain ⟨z1,hz1,h⟩:=bindE_ok h
   cases h
   have g:=adv_good hg (isP_lt h1)
   have hr:=rem_is hg h1
   have hm1:mR (advP x)≤fu:=by
    have e:(advP x).l=x.l:=rfl
    have:=hg.1
    have:=isP_lt h1
    unfold mR at hm ⊢
    rw [e,g.2]
    omega
   have H:=atomRv g.1 hm1 (fun y hy hl ha=>atom_sound fu y hy (by intro t htm; rw [hl] at htm; exact ht t htm) (mR_le g.1 hy hm1 (by rw [hl]) ha))
   have s:=termP_sound g.1 H a z ha
   have p:=term_ps g.1 hm1 ha
   have r1:=need_rem p.1 hz1
   refine ⟨s.1,fun fw hf=>?_⟩
   have q1:=s.2 fw hf
   have q2:=(WW_part (f:=termTW fw) a).2
   have e1:(⟨#[40]⟩:ByteArray).size=1:=rfl
   have e2:(⟨#[41]⟩:ByteArray).size=1:=rfl
   have r1:rem z=(⟨#[41]⟩:ByteArray).size+1+rem y:=r1
   show WW (partTW (termTW fw) a)+rem y≤rem x
   omega
  rcases cond_or (P:=fun v:Except Wrong (Term × Reader)=>v=.ok (t,y)) h with ⟨h1,h⟩ | ⟨-,h⟩
  ·cases h
   have hr:=rem_is hg h1
   refine ⟨.mk rfl (fun c hc=>by cases hc),fun fw hf=>?_⟩
   obtain ⟨k,rfl⟩:∃ k,fw=k+1:=⟨fw - 1,by have:=Term.depth_pos ⟨1,1,[]⟩; omega⟩
   have e1:(⟨#[116,114,117,101]⟩:ByteArray).size=4:=rfl
   show 4+1+0+rem (advP x)≤rem x
   omega
  rcases cond_or (P:=fun v:Except Wrong (Term × Reader)=>v=.ok (t,y)) h with ⟨h1,h⟩ | ⟨-,h⟩
  ·cases h
   have hr:=rem_is hg h1
   refine ⟨.mk rfl (fun c hc=>by cases hc),fun fw hf=>?_⟩
   obtain ⟨k,rfl⟩:∃ k,fw=k+1:=⟨fw - 1,by have:=Term.depth_pos ⟨1,0,[]⟩; omega⟩
   have e1:(⟨#[102,97,108,115,101]⟩:ByteArray).size=5:=rfl
   show 5+1+0+rem (advP x)≤rem x
   omega
  have num:∀ (z:Reader) (n:Int),Rgd z→Toks z→z.at_ < (z.l.length:Int)→(z.l.getD z.at_.toNat default).kind=1→(n=(z.l.getD z.at_.toNat default).n∨n=0 - (z.l.getD z.at_.toNat default).n)→Term.Wr ⟨0,n,[]⟩∧∀ fw,Term.depth ⟨0,n,[]⟩≤fw→WW (partTW (termTW fw) ⟨0,n,[]⟩)+rem (advP z)≤rem z+(bif decide (n < 0) then 2 else 0):=by
   intro z n gz tz lz kz hn
   obtain ⟨n0,n1,n2⟩:=(tok_at gz tz lz).num kz
   have hr:=rem_adv gz lz
   have htw:tw (z.l.getD z.at_.toNat default)=(z.l.getD z.at_.toNat default).text.size+1:=by
    unfold tw
    rw [kz]; rfl
   refine ⟨.mk ?_ (fun c hc=>by cases hc),fun fw hf=>?_⟩
   ·exact wtop_int (by omega)
   ·obtain ⟨k,rfl⟩:∃ k,fw=k+1:=⟨fw - 1,by have:=Term.depth_pos ⟨0,n,[]⟩; omega⟩
    rw [part_leaf rfl]
    have e:termTW (k+1) ⟨0,n,[]⟩=bif decide (n < 0) then [sgW (⟨#[45]⟩:ByteArray),nuW (0 - n).toNat] else [nuW n.toNat]:=rfl
    rw [e]
    cases hd:decide (n < 0)
    ·have hd:=of_decide_eq_false hd
     have hnn:n.toNat=(z.l.getD z.at_.toNat default).n.toNat:=by omega
     simp only [cond_false,WW,nuW]
     rw [hnn]
     omega
    ·have hd:=of_decide_eq_true hd
     have hnn:(0 - n).toNat=(z.l.getD z.at_.toNat default).n.toNat:=by omega
     have e1:(sgW (⟨#[45]⟩:ByteArray)).1.length=1:=rfl
     simp only [cond_true,WW,nuW,e1]
     rw [hnn]
     omega
  rcases cond_or (P:=fun v:Except Wrong (Term × Reader)=>v=.ok (t,y)) h with ⟨h1,h⟩ | ⟨-,h⟩
  ·obtain ⟨hc,h⟩:=cond_okT h
   cases h
   simp only [Bool.and_eq_true,decide_eq_true_eq,beq_iff_eq] at hc
   have g:=adv_good hg (isP_lt h1)
   have hr:=rem_is hg h1
   have tn:=(tok_at g.1 ht hc.1).num hc.2
   have hw:w64 (0 - ((advP x).l.getD (advP x).at_.toNat default).n)=0 - ((advP x).l.getD (advP x).at_.toNat default).n:=w64_id (by omega) (by omega)
   rw [hw]
   have q:=num (advP x) (0 - ((advP x).l.getD (advP x).at_.toNat default).n) g.1 ht hc.1 hc.2 (.inr rfl)
   refine ⟨q.1,fun fw hf=>?_⟩
   have q2:=q.2 fw hf
   have e1:(⟨#[45]⟩:ByteArray).size=1:=rfl
   have q3:(bif decide (0 - ((advP x).l.getD (advP x).at_.toNat default).n < 0) then 2 else 0)≤2:=by
    cases decide (0 - ((advP x).l.getD (advP x).at_.toNat default).n < 0)
    ·exact Nat.zero_le _
    ·exact Nat.le_refl _
   omega
  rcases cond_or (P:=fun v:Except Wrong (Term × Reader)=>v=.ok (t,y)) h with ⟨hc,h⟩ | ⟨-,h⟩
  ·cases h
   simp only [Bool.and_eq_true,decide_eq_true_eq,beq_iff_eq] at hc
   have tn:=(tok_at hg ht hc.1).num hc.2
   have q:=num x (x.l.getD x.at_.toNat default).n hg ht hc.1 hc.2 (.inl rfl)
   refine ⟨q.1,fun fw hf=>?_⟩
   have q2:=q.2 fw hf
   rw [decide_eq_false (by omega)] at q2
   exact q2
  ·obtain ⟨⟨i,z⟩,hi,h⟩:=bindE_ok h
   cases h
   obtain ⟨rfl,s1,s2,s3,s4⟩:=one_sound hg hi
   rw [vars_len] at s3
   refine ⟨.mk ?_ (fun c hc=>by cases hc),fun fw hf=>?_⟩
   ·exact wtop_var (n:=i) (by omega)
   ·have hf:Term.depth ⟨2,i,[]⟩≤fw:=hf
    obtain ⟨k,rfl⟩:∃ k,fw=k+1:=⟨fw - 1,by have:=Term.depth_pos ⟨2,i,[]⟩; omega⟩
    have e:WW (partTW (termTW (k+1)) ⟨2,i,[]⟩)=(rule_Variables.getD i.toNat default).size+1+0:=rfl
    show WW (partTW (termTW (k+1)) ⟨2,i,[]⟩)+rem (advP z)≤rem z
    rw [e]
    omega
theorem term_sound {x:Reader} (hg:Rgd x) (ht:Toks x):SndT x (rule_reader_term x):=by
 rw [termP_eq]
 refine termP_sound hg ⟨fun y a hy hl ha h=>?_,fun y hy hl ha=>?_⟩
 ·have p:=atom_ps hy (Nat.le_refl _) h
  exact ⟨p.1,(atom_kp _ y a h).1,p.2.2⟩
 ·exact atom_sound _ y hy (by intro t htm; rw [hl] at htm; exact ht t htm) (Nat.le_refl _)
theorem take_rem {x:Reader} (hg:Rgd x) (s:ByteArray):rem x=(bif (rule_reader_take x s).1 then s.size+1 else 0)+rem (rule_reader_take x s).2:=by
 rw [takeP_eq]
 cases h:isP x s
 ·simp only [cond_false]; omega
 ·simp only [cond_true]; exact rem_is hg h
theorem quest_one {x:Reader} {i:Int} {y:Reader} (hg:Rgd x) (h:rule_reader_one x rule_Questions=.ok (i,y)):y=x∧x.at_ < (x.l.length:Int)∧0≤i∧i < 22∧rem x=(rule_Questions.getD i.toNat default).size+1+rem (advP x):=by
 have:=one_sound hg h
 rw [quest_len] at this
 exact this
theorem fact_one {x:Reader} {i:Int} {y:Reader} (hg:Rgd x) (h:rule_reader_one x rule_Factors=.ok (i,y)):y=x∧x.at_ < (x.l.length:Int)∧0≤i∧i < 5∧rem x=(rule_Factors.getD i.toNat default).size+1+rem (advP x):=by
 have:=one_sound hg h
 rw [fact_len] at this
 exact this
theorem contC_ne {l:List Choice} {v:Int} (h:slices_ContainsFunc_89 l v=false):∀ c,c∈l→c.ask≠v:=fun c hc e=>by
 have hp:=slices_ContainsFunc_89_post l v
 obtain ⟨q,hq,rfl⟩:=List.mem_iff_getElem.1 hc
 have:=hp.2 ⟨q,hq,by rw [rule_reader_choice_c1_eq,beq_iff_eq]; simpa [List.getD,hq] using e⟩
 rw [h] at this; cases this
theorem contR_ne {l:List Rule} {v:Int} (h:slices_ContainsFunc_91 l v=false):∀ c,c∈l→c.ask≠v:=fun c hc e=>by
 have hp:=slices_ContainsFunc_91_post l v
 obtain ⟨q,hq,rfl⟩:=List.mem_iff_getElem.1 hc
 have:=hp.2 ⟨q,hq,by rw [rule_reader_rule_c1_eq,beq_iff_eq]; simpa [List.getD,hq] using e⟩
 rw [h] at this; cases this
theorem choice_sound {x:Reader} {o:Order} {p:Reader × Order} (hg:Rgd x) (h:rule_reader_choice x o=.ok p):∃ c,p.2 = { o with choices:=o.choices++[c] }∧CokC c∧(∀ d,d∈o.choices→d.ask≠c.ask)∧WW (choiceTW c)+rem p.1≤rem x:=by
 rw [choiceP_eq] at h
 obtain ⟨⟨i,a⟩,ha,hA⟩:=bindE_ok h
 clear h
 obtain ⟨ea,a1,a2,a3,a4⟩:=quest_one hg ha
 subst ea
 obtain ⟨hc,hB⟩:=cond_okF hA
 clear hA
 obtain ⟨y,hy,hC⟩:=bindE_ok hB
 clear hB
 have g1:=adv_good hg a1
 have gy:=need_good g1.1 hy
 have r1:rem (advP a)=(⟨#[58]⟩:ByteArray).size+1+rem y:=need_rem g1.1 hy
 obtain ⟨⟨k,b⟩,hb,hD⟩:=bindE_ok hC
 clear hC
 obtain ⟨eb,b1,b2,b3,b4⟩:=fact_one gy.2.1 hb
 subst eb
 obtain ⟨z,hz,hE⟩:=bindE_ok hD
 clear hD
 have g2:=adv_good gy.2.1 b1
 have gt:=take_good (s:=(⟨#[119,104,111,108,101]⟩:ByteArray)) g2.1
 have r2:=take_rem g2.1 (⟨#[119,104,111,108,101]⟩:ByteArray)
 have r3:rem (rule_reader_take (advP b) (⟨#[119,104,111,108,101]⟩:ByteArray)).2=(⟨#[59]⟩:ByteArray).size+1+rem z:=need_rem gt.1 hz
 cases hE
 refine ⟨_,rfl,⟨a2,a3,b2,b3⟩,contC_ne hc,?_⟩
 have e1:(⟨#[58]⟩:ByteArray).size=1:=rfl
 have e2:(⟨#[59]⟩:ByteArray).size=1:=rfl
 have e3:(⟨#[119,104,111,108,101]⟩:ByteArray).size=5:=rfl
 have f1:(nmW (rule_Questions.getD i.toNat default)).1.length=(rule_Questions.getD i.toNat default).size:=rfl
 have f2:(nmW (rule_Factors.getD k.toNat default)).1.length=(rule_Factors.getD k.toNat default).size:=rfl
 have f3:(sgW (⟨#[58]⟩:ByteArray)).1.length=1:=rfl
 have f4:(sgW (⟨#[59]⟩:ByteArray)).1.length=1:=rfl
 have f5:(nmW (⟨#[119,104,111,108,101]⟩:ByteArray)).1.length=5:=rfl
 unfold choiceTW
 show WW ([nmW (rule_Questions.getD i.toNat default),sgW (⟨#[58]⟩:ByteArray),nmW (rule_Factors.getD k.toNat default)]++((bif (rule_reader_take (advP b) (⟨#[119,104,111,108,101]⟩:ByteArray)).1 then [nmW (⟨#[119,104,111,108,101]⟩:ByteArray)] else [])++[sgW (⟨#[59]⟩:ByteArray)]))+rem z≤rem a
 cases hw:(rule_reader_take (advP b) (⟨#[119,104,111,108,101]⟩:ByteArray)).1
 ·rw [hw] at r2
  simp only [cond_false,WW_app,WW,f1,f2,f3,f4] at r2 ⊢
  omega
 ·rw [hw] at r2
  simp only [cond_true,WW_app,WW,f1,f2,f3,f4,f5] at r2 ⊢
  omega
theorem rule_sound {x:Reader} {o:Order} {p:Reader × Order} (hg:Rgd x) (ht:Toks x) (h:rule_reader_rule x o=.ok p):∃ r,p.2 = { o with rules:=o.rules++[r] }∧RokR r∧(∀ d,d∈o.rules→d.ask≠r.ask)∧WW (ruleTW r)+rem p.1≤rem x:=by
 rw [ruleP_eq] at h
 obtain ⟨⟨i,a⟩,ha,hA⟩:=bindE_ok h
 clear h
 obtain ⟨ea,a1,a2,a3,a4⟩:=quest_one hg ha
 subst ea
 obtain ⟨hc,hB⟩:=cond_okF hA
 clear hA
 obtain ⟨y,hy,hC⟩:=bindE_ok hB
 clear hB
 have g1:=adv_good hg a1
 have gy:=need_good g1.1 hy
 have r1:rem (advP a)=(⟨#[61]⟩:ByteArray).size+1+rem y:=need_rem g1.1 hy
 obtain ⟨⟨t,z⟩,hz,hD⟩:=bindE_ok hC
 clear hC
 have gz:Rgd z∧z.l.length=y.l.length∧y.at_ < z.at_:=termF_ps gy.2.1 hz
 have ty:Toks y:=by
  intro t htm
  rw [gy.1] at htm
  exact ht t htm
 have st:=term_sound gy.2.1 ty t z hz
 obtain ⟨hi,hE⟩:=cond_okT hD
 obtain ⟨h6,hF⟩:=cond_okF hE
 have r2:rem z=(⟨#[59]⟩:ByteArray).size+1+rem (advP z):=rem_is gz.1 hi
 cases hF
 have hd8:=(term_Check_post t).2 (by simpa using h6)
 refine ⟨_,rfl,⟨a2,a3,st.1,hd8,by simpa using h6⟩,contR_ne hc,?_⟩
 have q:=st.2 9 (by omega)
 have e1:(⟨#[61]⟩:ByteArray).size=1:=rfl
 have e2:(⟨#[59]⟩:ByteArray).size=1:=rfl
 have f1:(nmW (rule_Questions.getD i.toNat default)).1.length=(rule_Questions.getD i.toNat default).size:=rfl
 have f3:(sgW (⟨#[61]⟩:ByteArray)).1.length=1:=rfl
 have f4:(sgW (⟨#[59]⟩:ByteArray)).1.length=1:=rfl
 unfold ruleTW
 show WW (nmW (rule_Questions.getD i.toNat default) :: sgW (⟨#[61]⟩:ByteArray) :: (termTW 9 t++[sgW (⟨#[59]⟩:ByteArray)]))+rem (advP z)≤rem a
 simp only [WW_app,WW,f1,f3,f4]
 omega
structure OB (o:Order):Prop where
 cs:∀ c,c∈o.choices→CokC c
 rs:∀ r,r∈o.rules→RokR r
 cn:(o.choices.map (·.ask)).Nodup
 rn:(o.rules.map (·.ask)).Nodup
theorem nodup_ne {α:Type} {key:α→Int} {l:List α} {c:α} (hn:(l.map key).Nodup) (h:∀ d,d∈l→key d≠key c):((l++[c]).map key).Nodup:=by
 rw [List.map_append,List.nodup_append]
 refine ⟨hn,List.nodup_cons.2 ⟨by simp,List.nodup_nil⟩,fun a ha a' ha' e=>?_⟩
 obtain ⟨x,hx,rfl⟩:=List.mem_map.1 ha
 have e2:a'=key c:=by simpa using ha'
 exact h x hx (e.trans e2)
theorem BW_c (cs:List Choice) (rs:List Rule) (c:Choice):WW (bodyTW (cs++[c]) rs)=WW (bodyTW cs rs)+(7+WW (choiceTW c)):=by
 unfold bodyTW
 rw [List.flatMap_append]
 simp only [WW_app,List.flatMap_cons,List.flatMap_nil,List.append_nil,WW]
 have e:(nmW (⟨#[99,104,111,111,115,101]⟩:ByteArray)).1.length=6:=rfl
 omega
theorem BW_r (cs:List Choice) (rs:List Rule) (r:Rule):WW (bodyTW cs (rs++[r]))=WW (bodyTW cs rs)+(5+WW (ruleTW r)):=by
 unfold bodyTW
 rw [List.flatMap_append]
 simp only [WW_app,List.flatMap_cons,List.flatMap_nil,List.append_nil,WW]
 have e:(nmW (⟨#[114,117,108,101]⟩:ByteArray)).1.length=4:=rfl
 omega
theorem body_sound (i:Order × Reader) (hg:Rgd i.2) (ht:Toks i.2) (hb:OB i.1):∀ c,bodyL i=.inr c→OB c.1∧c.1.name=i.1.name∧c.1.accepts=i.1.accepts∧WW (bodyTW c.1.choices c.1.rules)+2+rem c.2≤WW (bodyTW i.1.choices i.1.rules)+rem i.2:=by
 unfold bodyL
 refine iter_inv (f:=bodyP) (d:=default) (fun j=>Rgd j.2∧Toks j.2∧OB j.1∧j.1.name=i.1.name∧j.1.accepts=i.1.accepts∧WW (bodyTW j.1.choices j.1.rules)+rem j.2≤WW (bodyTW i.1.choices i.1.rules)+rem i.2) (fun j=>j.2.l.length - j.2.at_.toNat) (fun v:Except Wrong Reader ⊕ (Order × Reader)=>∀ c,v=.inr c→OB c.1∧c.1.name=i.1.name∧c.1.accepts=i.1.accepts∧WW (bodyTW c.1.choices c.1.rules)+2+rem c.2≤WW (bodyTW i.1.choices i.1.rules)+rem i.2) (fun j hj=>?_) _ i ⟨hg,ht,hb,rfl,rfl,Nat.le_refl _⟩ (Nat.lt_succ_self _)
 obtain ⟨j1,j2,j3,j4,j5,j6⟩:=hj
 cases hf:bodyP j with
 | inr k =>
  right
  have hd:=body_dec j j1 k hf
  refine ⟨k,rfl,⟨hd.1,?_⟩,hd.2⟩
  unfold bodyP at hf
  cases h1:isP j.2 (⟨#[125]⟩:ByteArray)
  ·rw [h1] at hf
   simp only [cond_false] at hf
   cases h2:isP j.2 (⟨#[99,104,111,111,115,101]⟩:ByteArray)
   ·rw [h2] at hf
    simp only [cond_false] at hf
    cases h3:isP j.2 (⟨#[114,117,108,101]⟩:ByteArray)
    ·rw [h3] at hf; cases hf
    ·rw [h3] at hf
     simp only [cond_true] at hf
     have g:=adv_good j1 (isP_lt h3)
     have hr:=rem_is j1 h3
     have e0:(⟨#[114,117,108,101]⟩:ByteArray).size=4:=rfl
     cases hq:rule_reader_rule (advP j.2) j.1 with
     | error e=>rw [hq] at hf; cases hf
     | ok p =>
      rw [hq] at hf
      cases hf
      obtain ⟨r,s1,s2,s3,s4⟩:=rule_sound g.1 j2 hq
      have kp:=(rule_kp hq).1
      show Toks p.1∧OB p.2∧p.2.name=_∧p.2.accepts=_∧WW (bodyTW p.2.choices p.2.rules)+rem p.1≤_
      rw [s1]
      refine ⟨by intro t htm; rw [kp.1] at htm; exact j2 t htm,⟨j3.cs,fun d hd=>?_,j3.cn,nodup_ne j3.rn s3⟩,j4,j5,?_⟩
      ·rcases List.mem_append.1 hd with hd | hd
       ·exact j3.rs d hd
       ·rw [List.mem_singleton.1 hd]; exact s2
      ·show WW (bodyTW j.1.choices (j.1.rules++[r]))+rem p.1≤_
       rw [BW_r]
       omega
   ·rw [h2] at hf
    simp only [cond_true] at hf
    have g:=adv_good j1 (isP_lt h2)
    have hr:=rem_is j1 h2
    have e0:(⟨#[99,104,111,111,115,101]⟩:ByteArray).size=6:=rfl
    cases hq:rule_reader_choice (advP j.2) j.1 with
    | error e=>rw [hq] at hf; cases hf
    | ok p =>
     rw [hq] at hf
     cases hf
     obtain ⟨r,s1,s2,s3,s4⟩:=choice_sound g.1 hq
     have kp:=(choice_kp hq).1
     show Toks p.1∧OB p.2∧p.2.name=_∧p.2.accepts=_∧WW (bodyTW p.2.choices p.2.rules)+rem p.1≤_
     rw [s1]
     refine ⟨by intro t htm; rw [kp.1] at htm; exact j2 t htm,⟨fun d hd=>?_,j3.rs,nodup_ne j3.cn s3,j3.rn⟩,j4,j5,?_⟩
     ·rcases List.mem_append.1 hd with hd | hd
      ·exact j3.cs d hd
      ·rw [List.mem_singleton.1 hd]; exact s2
     ·show WW (bodyTW (j.1.choices++[r]) j.1.rules)+rem p.1≤_
      rw [BW_c]
      omega
  ·rw [h1] at hf; cases hf
 | inl a =>
  left
  refine ⟨a,rfl,fun c hc=>?_⟩
  subst hc
  unfold bodyP at hf
  cases h1:isP j.2 (⟨#[125]⟩:ByteArray)
  ·rw [h1] at hf
   simp only [cond_false] at hf
   cases h2:isP j.2 (⟨#[99,104,111,111,115,101]⟩:ByteArray)
   ·rw [h2] at hf
    simp only [cond_false] at hf
    cases h3:isP j.2 (⟨#[114,117,108,101]⟩:ByteArray)
    ·rw [h3] at hf; cases hf
    ·rw [h3] at hf
     simp only [cond_true] at hf
     cases hq:rule_reader_rule (advP j.2) j.1 with
     | error e=>rw [hq] at hf; cases hf
     | ok p=>rw [hq] at hf; cases hf
   ·rw [h2] at hf
    simp only [cond_true] at hf
    cases hq:rule_reader_choice (advP j.2) j.1 with
    | error e=>rw [hq] at hf; cases hf
    | ok p=>rw [hq] at hf; cases hf
  ·rw [h1] at hf
   cases hf
   have hr:=rem_is j1 h1
   have e0:(⟨#[125]⟩:ByteArray).size=1:=rfl
   refine ⟨j3,j4,j5,?_⟩
   show WW (bodyTW j.1.choices j.1.rules)+2+rem (advP j.2)≤_
   omega
theorem WW_perm {α:Type} (f:α→List Wt) {l l':List α} (h:l.Perm l'):WW (l.flatMap f)=WW (l'.flatMap f):=by
 induction h with
 | nil=>rfl
 | cons x _ ih=>simp only [List.flatMap_cons,WW_app,ih]
 | swap x y l=>simp only [List.flatMap_cons,WW_app]; omega
 | trans _ _ i1 i2=>exact i1.trans i2
theorem nodup_asc {α:Type} {key:α→Int} {l:List α} (h:l.Pairwise fun a b=>key a≤key b) (hn:(l.map key).Nodup):Asc key l:=by
 rw [List.Nodup,List.pairwise_map] at hn
 rw [Asc,List.pairwise_iff_getElem]
 rw [List.pairwise_iff_getElem] at h hn
 intro i j hi hj hij
 have h1:=h i j hi hj hij
 have h2:=hn i j hi hj hij
 omega
theorem isort_asc {α:Type} (key:α→Int) {l:List α} (hn:(l.map key).Nodup):Asc key (isort key l) :=
 nodup_asc (isort_sorted key l) (((isort_perm key l).map key).nodup_iff.2 hn)
theorem contO_ne {l:List Order} {v:Order} (h:slices_ContainsFunc_44 l v=false):∀ c,c∈l→c.name≠v.name:=fun c hc e=>by
 have hp:=slices_ContainsFunc_44_post l v
 obtain ⟨q,hq,rfl⟩:=List.mem_iff_getElem.1 hc
 have:=hp.2 ⟨q,hq,by rw [rule_reader_order_c1_eq,beq_iff_eq]; simp [List.getD,hq,e]⟩
 rw [h] at this; cases this
theorem name_sound {x:Reader} {s:ByteArray} {y:Reader} (hg:Rgd x) (ht:Toks x) (h:rule_reader_name x=.ok (s,y)):y=x∧x.at_ < (x.l.length:Int)∧lex_Name s=true∧rem x=s.size+1+rem (advP x):=by
 have hn:=name_good h
 rw [nameP_eq] at h
 obtain ⟨hc,h2⟩:=cond_okF h
 cases h2
 simp only [Bool.or_eq_false_iff,bne_eq_false_iff_eq] at hc
 refine ⟨rfl,hn.2,(tok_at hg ht hn.2).name hc.2,?_⟩
 rw [rem_adv hg hn.2]
 unfold tw
 rw [hc.2]
 rfl
theorem order_sound {x y:Reader} (hg:Rgd x) (ht:Toks x) (h:rule_reader_order x=.ok y):∃ o,y.list=x.list++[o]∧OkO o∧(∀ p,p∈x.list→p.name≠o.name)∧WW (orderTW o)+rem y≤rem x:=by
 rw [orderP_eq] at h
 obtain ⟨a,ha,hA⟩:=bindE_ok h
 clear h
 have ga:=need_good hg ha
 have r0:rem x=(⟨#[111,114,100,101,114]⟩:ByteArray).size+1+rem a:=need_rem hg ha
 have ta:Toks a:=by intro t htm; rw [ga.1] at htm; exact ht t htm
 have la:a.list=x.list:=by rw [ga.1]; rfl
 obtain ⟨⟨s,b⟩,hb,hB⟩:=bindE_ok hA
 clear hA
 obtain ⟨eb,b1,b2,b3⟩:=name_sound ga.2.1 ta hb
 subst eb
 obtain ⟨hc,hC⟩:=cond_okF hB
 clear hB
 obtain ⟨-,hD⟩:=cond_okF hC
 clear hC
 obtain ⟨d,hd,hE⟩:=bindE_ok hD
 clear hD
 have g1:=adv_good ga.2.1 b1
 have gt:=take_good (s:=(⟨#[97,99,99,101,112,116,115]⟩:ByteArray)) g1.1
 have r2:=take_rem g1.1 (⟨#[97,99,99,101,112,116,115]⟩:ByteArray)
 have gd:=need_good gt.1 hd
 have r3:rem (rule_reader_take (advP b) (⟨#[97,99,99,101,112,116,115]⟩:ByteArray)).2=(⟨#[123]⟩:ByteArray).size+1+rem d:=need_rem gt.1 hd
 have td:Toks d:=by
  intro t htm
  have e:d.l=b.l:=by rw [gd.1]; exact gt.2.2
  rw [e] at htm
  exact ta t htm
 have ld:d.list=x.list:=by
  rw [gd.1]
  show (rule_reader_take (advP b) (⟨#[97,99,99,101,112,116,115]⟩:ByteArray)).2.list=_
  rw [(take_kp (advP b) _).2.2]
  exact la
 generalize hacc:(rule_reader_take (advP b) (⟨#[97,99,99,101,112,116,115]⟩:ByteArray)).1=acc at hE r2
 have bs:=body_sound (({ name:=s,accepts:=acc,choices:=[],rules:=[] }:Order),d) gd.2.1 td ⟨fun c h=>(by cases h),fun r h=>(by cases h),List.nodup_nil,List.nodup_nil⟩
 have kp:=body_kp (({ name:=s,accepts:=acc,choices:=[],rules:=[] }:Order),d) (fun r hr=>by cases hr)
 cases hv:bodyL (({ name:=s,accepts:=acc,choices:=[],rules:=[] }:Order),d) with
 | inl v =>
  rw [hv] at hE
  have hE:v=.ok y:=hE
  subst hE
  exact absurd hv (body_inl _ _)
 | inr c =>
  rw [hv] at hE
  cases hE
  obtain ⟨s1,s2,s3,s4⟩:=bs c hv
  have k:=(kp c hv).1
  obtain ⟨co,cy⟩:=c
  have s2:co.name=s:=s2
  have s3:co.accepts=acc:=s3
  have hcl:cy.list=x.list:=k.2.2.trans ld
  refine ⟨{ name:=co.name,accepts:=co.accepts,choices:=isort (·.ask) co.choices,rules:=isort (·.ask) co.rules },?_,⟨?_,fun c hc=>?_,fun r hr=>?_,isort_asc _ s1.cn,isort_asc _ s1.rn⟩,fun p hp=>?_,?_⟩
  ·show cy.list++[_]=_
   rw [hcl]
  ·show lex_Name co.name=true
   rw [s2]; exact b2
  ·exact s1.cs c ((isort_perm _ _).mem_iff.1 hc)
  ·exact s1.rs r ((isort_perm _ _).mem_iff.1 hr)
  ·show p.name≠co.name
   rw [s2]
   exact contO_ne hc p (by rw [la]; exact hp)
  ·have hW:WW (bodyTW (isort (·.ask) co.choices) (isort (·.ask) co.rules))=WW (bodyTW co.choices co.rules):=by
    unfold bodyTW
    rw [WW_app,WW_app,WW_perm _ (isort_perm (·.ask) co.choices),WW_perm _ (isort_perm (·.ask) co.rules)]
   have e1:(⟨#[111,114,100,101,114]⟩:ByteArray).size=5:=rfl
   have e2:(⟨#[123]⟩:ByteArray).size=1:=rfl
   have e3:(⟨#[97,99,99,101,112,116,115]⟩:ByteArray).size=7:=rfl
   have f1:(nmW (⟨#[111,114,100,101,114]⟩:ByteArray)).1.length=5:=rfl
   have f2:(nmW co.name).1.length=co.name.size:=rfl
   have f3:(nmW (⟨#[97,99,99,101,112,116,115]⟩:ByteArray)).1.length=7:=rfl
   have f4:(sgW (⟨#[123]⟩:ByteArray)).1.length=1:=rfl
   have f5:(sgW (⟨#[125]⟩:ByteArray)).1.length=1:=rfl
   have s4:WW (bodyTW co.choices co.rules)+2+rem cy≤0+rem d:=s4
   have hr:rem (endO (co,cy))=rem cy:=rfl
   rw [hr]
   unfold orderTW
   simp only
   rw [s3,s2]
   rw [s2] at f2
   cases acc
   ·simp only [cond_false,WW_app,WW,f1,f2,f4,f5,hW,List.nil_append] at r2 ⊢
    omega
   ·simp only [cond_true,WW_app,WW,f1,f2,f3,f4,f5,hW] at r2 ⊢
    omega
theorem read_sound {x:Reader} (hg:Rgd x) (ht:Toks x) (hx:x.list=[]) {l:List Order} (h:readP x=.ok l):AllOk l∧WW (l.flatMap orderTW)≤rem x:=by
 have key:=iter_inv (f:=ordersP) (d:=default) (fun j=>Rgd j∧Toks j∧(∀ o,o∈j.list→OkO o)∧j.list.Pairwise (fun a b=>a.name≠b.name)∧WW (j.list.flatMap orderTW)+rem j≤rem x) (fun j=>j.l.length - j.at_.toNat) (fun v:Except Wrong (List Order) ⊕ Reader=>∀ l,pickS v (fun b=>.ok b.list)=.ok l→AllOk l∧WW (l.flatMap orderTW)≤rem x) (fun j hj=>by
  obtain ⟨j1,j2,j3,j4,j5⟩:=hj
  cases hf:ordersP j with
  | inr k =>
   right
   have hd:=orders_dec j j1 k hf
   unfold ordersP at hf
   cases hc:decide (j.at_ < ((j.l.length:Nat):Int))
   ·rw [hc] at hf; cases hf
   ·rw [hc] at hf
    simp only [cond_true] at hf
    cases hr:rule_reader_order j with
    | error e=>rw [hr] at hf; cases hf
    | ok y =>
     rw [hr] at hf
     cases hf
     obtain ⟨o,s1,s2,s3,s4⟩:=order_sound j1 j2 hr
     have kp:=order_kp hr
     refine ⟨_,rfl,⟨hd.1,by intro t htm; rw [kp.1] at htm; exact j2 t htm,?_,?_,?_⟩,hd.2⟩
     ·rw [s1]
      intro p hp
      rcases List.mem_append.1 hp with hp | hp
      ·exact j3 p hp
      ·rw [List.mem_singleton.1 hp]; exact s2
     ·rw [s1]
      refine List.pairwise_append.2 ⟨j4,List.pairwise_singleton _ _,fun a ha b hb=>?_⟩
      rw [List.mem_singleton.1 hb]
      exact s3 a ha
     ·rw [s1,List.flatMap_append,WW_app,List.flatMap_cons,List.flatMap_nil,List.append_nil]
      omega
  | inl a =>
   left
   refine ⟨a,rfl,fun l hl=>?_⟩
   unfold ordersP at hf
   cases hc:decide (j.at_ < ((j.l.length:Nat):Int))
   ·rw [hc] at hf
    cases hf
    cases hl
    exact ⟨⟨j1.2.2.2,j3,j4⟩,by omega⟩
   ·rw [hc] at hf
    simp only [cond_true] at hf
    cases hr:rule_reader_order j with
    | error e=>rw [hr] at hf; cases hf; cases hl
    | ok y=>rw [hr] at hf; cases hf) (x.l.length - x.at_.toNat+1) x ⟨hg,ht,fun o ho=>(by rw [hx] at ho; cases ho),(by rw [hx]; exact List.Pairwise.nil),(by rw [hx]; show 0+rem x≤rem x; omega)⟩ (Nat.lt_succ_self _)
 exact key l h
theorem parse_allok {s:ByteArray} (hs:s.size≤2000) (h:(rule_Parse s).2.2=0):AllOk (rule_Parse s).1∧(wT ((rule_Parse s).1.flatMap orderTW)).length≤20000:=by
 have hN:=bsize s
 rw [parse_plain s (by omega)] at h ⊢
 have ht:=lexA_toks (s.data.toList.length+1) s.data.toList 0 (by omega)
 have hp:=(lexAll_pos (s.data.toList.length+1) s.data.toList 0 (by omega)).2
 cases hc:lexA s.data.toList 0 with
 | error e =>
  rw [hc] at h
  exact absurd h (hp e hc).1
 | ok ts =>
  rw [hc] at h
  dsimp only at h ⊢
  obtain ⟨t1,t2⟩:=ht ts hc
  have hg:=start_good (by omega) hc
  cases hr:readP (startP s ts) with
  | ok l =>
   dsimp only
   have hrs:=read_sound hg t1 rfl hr
   have hrem:rem (startP s ts)=TW ts:=rfl
   have:=wT_len (l.flatMap orderTW)
   exact ⟨hrs.1,by omega⟩
  | error w =>
   rw [hr] at h
   exact absurd h (read_nz hg w hr)
theorem name_small {s:ByteArray} (h:lex_Name s=true):s.size≤20:=by
 rw [name_eq] at h
 simp only [Bool.and_eq_true,decide_eq_true_eq] at h
 have:=h.1.2
 omega
theorem print_again {s:ByteArray} (hs:s.size≤2000) (h:(rule_Parse s).2.2=0):(rule_Print (rule_Parse s).1).2=true:=by
 obtain ⟨h1,h2⟩:=parse_allok hs h
 cases hp:(rule_Print (rule_Parse s).1).2 with
 | true=>rfl
 | false =>
  have:=((print_spec (rule_Parse s).1).2 hp).2 h1
  omega
noncomputable def L16_RuleAgain_sk (s:ByteArray):Sk (Bool) :=
 .r 1 L16_sane_k.c fun x1 =>
 .br (decide (((s.size:Nat):Int) > 2000))
 (.fin x1)
 (.r 4 ((rule_Parse_k s).c) fun x2 =>
 .br (x2.2.2 != 0)
 (.fin (((x1&&(((x2.1.length:Nat):Int) == 0))&&(decide (x2.2.1≥0)))&&(decide (x2.2.1≤((s.size:Nat):Int)))))
 (.r 7 ((rule_Print_k x2.1).c) fun x3 =>
 .r 8 ((rule_Parse_k x3.1).c) fun x4 =>
 .r 9 (.wh ((((x1&&(x2.2.1 == 0))&&x3.2)&&(x4.2.1 == 0))&&(x4.2.2 == 0)) true ((R16_Same_k x2.1 x4.1).c)) fun x5 =>
 .fin (((((x1&&(x2.2.1 == 0))&&x3.2)&&(x4.2.1 == 0))&&(x4.2.2 == 0))&&x5)))
noncomputable def L16_RuleAgain (s:ByteArray):Bool:=(L16_RuleAgain_sk s).val
theorem L16_RuleAgain_ok (s:ByteArray):(L16_RuleAgain_sk s).obs (fun _=>True):=by
 refine Sk.obs_of _ ?_
 unfold L16_RuleAgain_sk
 simp only [Sk.obq,Sk.isLoop,reduceCtorEq,ON,kk,L16_sane_k,rule_Print_k,rule_Parse_k,R16_Same_k,maxLen]
 intro x _ hc y hy he
 have hs:s.size≤2000:=by have:=of_decide_eq_false hc; omega
 rw [hy] at he ⊢
 have h0:(rule_Parse s).2.2=0:=by simpa using he
 intro o ho
 have:=name_small ((parse_allok hs h0).1.ok o ho).name
 omega
noncomputable def L16_RuleAgain_k (s:ByteArray):Ctr (Bool):=kk tok mixed Tryz.func5 [sv s] (fun x=>bv x) true (L16_RuleAgain_sk s) (L16_RuleAgain s) (fun (_:True)=>L16_RuleAgain_ok s)
theorem L16_RuleAgain_fn (s:ByteArray):FnA Tryz.prog 5 [sv s] [] (bv (L16_RuleAgain s)) []:=(L16_RuleAgain_k s).pf trivial
end Go.Proofs.YtgibnoahjhfmcaaGreatDoor
