/- Functions, as sketches. -/
import Derived.Test.YtbcnlpcaajpclaaGreatDoorRc13
namespace Go.Proofs.YtbcnlpcaajpclaaGreatDoor
open Go Go.Av
set_option linter.unusedSimpArgs false
set_option linter.unusedVariables false
set_option maxHeartbeats 1000000
set_option maxRecDepth 100000
noncomputable def owe_view_part_sk (v:View) (sign:Int):Sk (Int) :=
 .r 1 (.p (ixP sign v.now.signs.length)) fun _ =>
 .r 2 (.wh (sign == 0) false ((slices_Contains_k v.lead ((v.now.signs.getD sign.toNat default).part)).c)) fun x1 =>
 .br ((sign == 0)||(!x1))
 (.r 3 (.p (ixP (0:Int) v.lead.length)) fun _ =>
 .fin (v.lead.getD 0 default))
 (.fin ((v.now.signs.getD sign.toNat default).part))
noncomputable def owe_view_part (v:View) (sign:Int):Int:=(owe_view_part_sk v sign).val
theorem owe_view_part_ok (v:View) (sign:Int) (hs:0≤sign∧sign < v.now.signs.length) (hl:v.lead.length≠0):(owe_view_part_sk v sign).obs (fun _=>True):=by
 unfold owe_view_part_sk
 try simp only [slices_Contains_k]
 exact okD
noncomputable def owe_view_part_k (v:View) (sign:Int):Ctr (Int):=kk tok mixed Tryz.func88 [av v.cells,iv sign] (fun x=>iv x) true (owe_view_part_sk v sign) (owe_view_part v sign) (fun (h:(0≤sign∧sign < v.now.signs.length)∧(v.lead.length≠0))=>owe_view_part_ok v sign h.1 h.2)
noncomputable def owe_view_liable_sk (v:View) (part:Int) (by_:Int) (links:List Int):Sk ((List Int)) :=
 .r 2 (.wh (by_ != (-1)) true ((slices_Contains_k links by_).c)) fun x1 =>
 .br ((by_ != (-1))&&(!x1))
 (.fin [])
 (.bind true (fun b2=>b2.length≤v.now.signs.length∧∀ y,y∈b2→0≤y∧y < (v.now.signs.length:Int))
 (.loop (default:Sum ((List Int)) ((List Int))) (fun i3=>i3.2≤v.now.signs.length∧i3.1.length≤i3.2∧∀ y,y∈i3.1→0≤y∧y < (v.now.signs.length:Int)) (fun i3=>v.now.signs.length - i3.2) (([],0):(List Int) × Nat)
 (fun (i3:(List Int) × Nat)=>⟨[(9,ow 100002 i3.1),(25,iv (i3.2:Int))],[(100002,rowB 3 1 intC i3.1)]⟩) fun i3 =>
 .bnd 23 0 v.now.signs.length <|
 .br (decide ((i3.2:Int) < ((v.now.signs.length:Nat):Int)))
 (.r 6 (.p (ixP (i3.2:Int) v.now.signs.length)) fun _ =>
 .r 7 ((owe_view_part_k v (i3.2:Int)).c) fun x4 =>
 .br (x4 != part)
 (.r 18 .z fun _ =>
 .wi 25 (w64 ((i3.2:Int)+1)) ((i3.2+1:Nat):Int) <|
 .fin (.inr (i3.1,i3.2+1)))
 (.bind true (fun _=>True)
 (.bind false (fun _=>True)
 (.br (((v.now.signs.getD i3.2 default).kind) == 0)
 (.fin (.inr (((v.now.signs.getD i3.2 default).kind) == 0)))
 (.fin (.inr (((v.now.signs.getD i3.2 default).kind) == 1))))
 (fun (b6:Bool)=>⟨[(41,bv b6)],[]⟩) fun b6 =>
 .br b6
 (.fin (.inr (true,b6,((v.now.signs.getD i3.2 default).kind) == 0)))
 (.br (((v.now.signs.getD i3.2 default).kind) == 2)
 (.r 15 (.wh ((decide ((i3.2:Int)≤by_))&&((andK .i64 ((v.now.signs.getD i3.2 default).flags) 2) == 0)) true ((slices_Contains_k links (i3.2:Int)).c)) fun x7 =>
 .fin (.inr (((decide ((i3.2:Int)≤by_))&&((andK .i64 ((v.now.signs.getD i3.2 default).flags) 2) == 0))&&x7,b6,((v.now.signs.getD i3.2 default).kind) == 0)))
 (.r 10 ((slices_Contains_k i3.1 ((v.now.signs.getD i3.2 default).for_)).c) fun x8 =>
 .fin (.inr (x8,b6,((v.now.signs.getD i3.2 default).kind) == 0)))))
 (fun (b5:Bool × Bool × Bool)=>⟨[(12,bv b5.1),(41,bv b5.2.1),(42,bv b5.2.2)],[]⟩) fun b5 =>
 .br b5.1
 (.r 17 (.andl (.o [.nrm (litC intE [(i3.2:Int)])]) (.andl (.o [.nrm (catC intE i3.1 [(i3.2:Int)])]) (.andl (.t (intE.ones [(i3.2:Int)])) (.p (szP i3.1.length [(i3.2:Int)].length 8))))) fun _ =>
 .r 18 .z fun _ =>
 .wi 25 (w64 ((i3.2:Int)+1)) ((i3.2+1:Nat):Int) <|
 .fin (.inr (i3.1++[(i3.2:Int)],i3.2+1)))
 (.r 18 .z fun _ =>
 .wi 25 (w64 ((i3.2:Int)+1)) ((i3.2+1:Nat):Int) <|
 .fin (.inr (i3.1,i3.2+1)))))
 (.fin (.inl (.inr i3.1))))
 (fun (b2:(List Int))=>⟨[(9,ow 100001 b2)],[(100001,rowB 3 1 intC b2)]⟩) fun b2 =>
 .fin b2)
noncomputable def owe_view_liable (v:View) (part:Int) (by_:Int) (links:List Int):(List Int):=(owe_view_liable_sk v part by_ links).val
theorem owe_view_liable_pst (v:View) (part:Int) (by_:Int) (links:List Int):(owe_view_liable_sk v part by_ links).pst (fun (x:(List Int))=>x.length≤v.now.signs.length∧∀ y,y∈x→0≤y∧y < (v.now.signs.length:Int)):=by
 unfold owe_view_liable_sk
 try simp only [owe_view_part_k,slices_Contains_k]
 exact okP
theorem owe_view_liable_post (v:View) (part:Int) (by_:Int) (links:List Int):(fun (x:(List Int))=>x.length≤v.now.signs.length∧∀ y,y∈x→0≤y∧y < (v.now.signs.length:Int)) (owe_view_liable v part by_ links):=have h:=Sk.pval _ (owe_view_liable_pst v part by_ links); h
theorem owe_view_liable_ok (v:View) (part:Int) (by_:Int) (links:List Int) (hl:v.lead.length≠0) (hn:v.now.signs.length≤1000000):(owe_view_liable_sk v part by_ links).obs (fun _=>True):=by
 unfold owe_view_liable_sk
 try simp only [owe_view_part_k,slices_Contains_k]
 exact okD
noncomputable def owe_view_liable_k (v:View) (part:Int) (by_:Int) (links:List Int):Ctr ((List Int)):=kk tok mixed Tryz.func39 [av v.cells,iv part,iv by_,lv intC links] (fun x=>lv intC x) false (owe_view_liable_sk v part by_ links) (owe_view_liable v part by_ links) (fun (h:(v.lead.length≠0)∧(v.now.signs.length≤1000000))=>owe_view_liable_ok v part by_ links h.1 h.2) (fun (x:(List Int))=>x.length≤v.now.signs.length∧∀ y,y∈x→0≤y∧y < (v.now.signs.length:Int)) (owe_view_liable_post v part by_ links)
noncomputable def owe_view_base_kr (rv:View→Int→Int) (rp:View→Int→Prop) (rf:∀ (v:View) (sign:Int),rp v sign→FnA Tryz.prog 89 [av v.cells,iv sign] [] (iv (rv v sign)) []) (v:View) (sign:Int):Ctr (Int):=⟨Tryz.prog,89,[av v.cells,iv sign],fun x=>iv x,true,rv v sign,rp v sign,rf v sign,fun _=>True,trivial⟩
noncomputable def owe_view_base_sk (rv:View→Int→Int) (rp:View→Int→Prop) (rf:∀ (v:View) (sign:Int),rp v sign→FnA Tryz.prog 89 [av v.cells,iv sign] [] (iv (rv v sign)) []) (v:View) (sign:Int):Sk (Int) :=
 .r 1 (.p (ixP sign v.now.signs.length)) fun _ =>
 .br ((((v.now.signs.getD sign.toNat default).kind) == 3)||(((v.now.signs.getD sign.toNat default).kind) == 4))
 (.r 3 ((owe_view_base_kr rv rp rf v ((v.now.signs.getD sign.toNat default).for_)).c) fun x1 =>
 .fin x1)
 (.fin sign)
noncomputable def owe_view_base_n:Nat→View→Int→Int
 | 0,_,_=>default
 | fu+1,v,sign=>(owe_view_base_sk (owe_view_base_n fu) (fun _ _=>False) (fun _ _=>fun h=>h.elim) v sign).val
theorem owe_view_base_n_rng (v:View) (h:v.BaseOK):∀ (fu:Nat) (sign:Int),0≤sign→sign < (v.now.signs.length:Int)→sign.toNat < fu→0≤owe_view_base_n fu v sign∧owe_view_base_n fu v sign≤sign
 | 0,_,_,_,h3=>absurd h3 (by omega)
 | fu+1,s,h1,h2,h3=>by
  have e:owe_view_base_n (fu+1) v s=bif (((v.now.signs.getD s.toNat default).kind) == 3)||(((v.now.signs.getD s.toNat default).kind) == 4) then owe_view_base_n fu v ((v.now.signs.getD s.toNat default).for_) else s:=by kernel_rfl
  rw [e]
  cases hk:(((v.now.signs.getD s.toNat default).kind) == 3)||(((v.now.signs.getD s.toNat default).kind) == 4) with
  | false=>exact ⟨h1,Int.le_refl _⟩
  | true =>
   rw [cond_true]
   have:=h s.toNat (by omega) (by simpa using hk)
   have:=owe_view_base_n_rng v h fu _ this.1 (by omega) (by omega)
   omega
theorem owe_view_base_ok (fu:Nat) (rf:∀ (v:View) (sign:Int),(sign.toNat+1)≤fu∧(v.BaseOK)∧(0≤sign∧sign < v.now.signs.length)→FnA Tryz.prog 89 [av v.cells,iv sign] [] (iv (owe_view_base_n fu v sign)) []) (v:View) (sign:Int) (hm:(sign.toNat+1)≤fu+1) (hv:v.BaseOK) (hs:0≤sign∧sign < v.now.signs.length):(owe_view_base_sk (owe_view_base_n fu) (fun v sign=>(sign.toNat+1)≤fu∧(v.BaseOK)∧(0≤sign∧sign < v.now.signs.length)) rf v sign).obs (fun _=>True):=by
 refine Sk.obs_of _ ?_
 unfold owe_view_base_sk
 simp only [Sk.obq,Sk.isLoop,reduceCtorEq,ON,kk,owe_view_base_kr,maxLen]
 refine ⟨hs,fun _ hk=>?_⟩
 have:=hv sign.toNat (by omega) (by simpa using hk)
 exact ⟨by omega,hv,by omega,by omega⟩
theorem owe_view_base_val (fu:Nat) (rp:View→Int→Prop) (rf:∀ (v:View) (sign:Int),rp v sign→FnA Tryz.prog 89 [av v.cells,iv sign] [] (iv (owe_view_base_n fu v sign)) []) (v:View) (sign:Int):(owe_view_base_sk (owe_view_base_n fu) rp rf v sign).val=owe_view_base_n (fu+1) v sign:=by kernel_rfl
theorem owe_view_base_fnN (fu:Nat):∀ (v:View) (sign:Int),(sign.toNat+1)≤fu→v.BaseOK→(0≤sign∧sign < v.now.signs.length)→FnA Tryz.prog 89 [av v.cells,iv sign] [] (iv (owe_view_base_n fu v sign)) []:=by
 induction fu with
 | zero=>intro v sign hm h0 h1; exact absurd hm (by omega)
 | succ fu ih =>
  intro v sign hm h0 h1
  have h:FnA Tryz.prog 89 [av v.cells,iv sign] [] (iv ((owe_view_base_sk (owe_view_base_n fu) (fun v sign=>(sign.toNat+1)≤fu∧(v.BaseOK)∧(0≤sign∧sign < v.now.signs.length)) (fun v sign h=>ih v sign h.1 h.2.1 h.2.2) v sign).val)) []:=FnA.sk tok mixed (fun x=>iv x) (fun _=>[]) Tryz.func89 rfl (by kernel_rfl) 3000 (owe_view_base_sk (owe_view_base_n fu) (fun v sign=>(sign.toNat+1)≤fu∧(v.BaseOK)∧(0≤sign∧sign < v.now.signs.length)) (fun v sign h=>ih v sign h.1 h.2.1 h.2.2) v sign) (by kernel_rfl) (owe_view_base_ok fu _ v sign hm h0 h1)
  rw [owe_view_base_val] at h
  exact h
noncomputable def owe_view_base (v:View) (sign:Int):Int:=owe_view_base_n ((sign.toNat+1)) v sign
theorem owe_view_base_fn (v:View) (sign:Int) (hv:v.BaseOK) (hs:0≤sign∧sign < v.now.signs.length):FnA Tryz.prog 89 [av v.cells,iv sign] [] (iv (owe_view_base v sign)) []:=owe_view_base_fnN _ v sign (Nat.le_refl _) hv hs
theorem owe_view_base_post (v:View) (sign:Int):(fun (x:Int)=>v.BaseOK→0≤sign∧sign < (v.now.signs.length:Int)→0≤x∧x≤sign) (owe_view_base v sign):=by
 exact fun h hs=>owe_view_base_n_rng v h _ sign hs.1 hs.2 (by omega)
noncomputable def owe_view_base_k (v:View) (sign:Int):Ctr (Int):=⟨Tryz.prog,89,[av v.cells,iv sign],fun x=>iv x,true,owe_view_base v sign,(v.BaseOK)∧(0≤sign∧sign < v.now.signs.length),fun h=>owe_view_base_fn v sign h.1 h.2,fun (x:Int)=>v.BaseOK→0≤sign∧sign < (v.now.signs.length:Int)→0≤x∧x≤sign,owe_view_base_post v sign⟩
noncomputable def owe_court_state_c1_sk (a:ActX):Sk (Bool) :=
 .fin ((a.kind == 1)||(a.kind == 3))
noncomputable def owe_court_state_c1 (a:ActX):Bool:=(owe_court_state_c1_sk a).val
theorem owe_court_state_c1_eq (a:ActX):owe_court_state_c1 a=((a.kind == 1)||(a.kind == 3)):=rfl
theorem owe_court_state_c1_ok (a:ActX):(owe_court_state_c1_sk a).obs (fun _=>True):=by
 unfold owe_court_state_c1_sk
 exact okE
noncomputable def owe_court_state_c1_k (a:ActX):Ctr (Bool):=kk tok mixed Tryz.func92 [av a.cells] (fun x=>bv x) true (owe_court_state_c1_sk a) (owe_court_state_c1 a) (fun (_:True)=>owe_court_state_c1_ok a)
noncomputable def slices_IndexFunc_92_sk (s:List ActX):Sk (Int) :=
 .bind true (fun b1=>∀ q,q < s.length→owe_court_state_c1 (s.getD q default)=false)
 (.loop (default:Sum (Int) (Unit)) (fun i2=>∀ q,q < i2→owe_court_state_c1 (s.getD q default)=false) (fun i2=>s.length - i2) (0:Nat)
 (fun (i2:Nat)=>⟨[(8,iv (i2:Int))],[]⟩) fun i2 =>
 .bnd 0 0 s.length <|
 .br (decide ((i2:Int) < ((s.length:Nat):Int)))
 (.r 4 (.andl (.p (ixP (i2:Int) s.length)) ((owe_court_state_c1_k (s.getD i2 default)).c)) fun x3 =>
 .br x3
 (.fin (.inl (.inl (i2:Int))))
 (.r 6 .z fun _ =>
 .wi 8 (w64 ((i2:Int)+1)) ((i2+1:Nat):Int) <|
 .fin (.inr (i2+1))))
 (.fin (.inl (.inr ()))))
 (fun (_:Unit)=>⟨[],[]⟩) fun _ =>
 .fin (-1)
noncomputable def slices_IndexFunc_92 (s:List ActX):Int:=(slices_IndexFunc_92_sk s).val
theorem slices_IndexFunc_92_pst (s:List ActX):(slices_IndexFunc_92_sk s).pst (fun (x:Int)=>(x = -1∧∀ q,q < s.length→owe_court_state_c1 (s.getD q default)=false)∨(0≤x∧x < s.length∧owe_court_state_c1 (s.getD x.toNat default)=true∧∀ q,(q:Nat) < x.toNat→owe_court_state_c1 (s.getD q default)=false)):=by
 unfold slices_IndexFunc_92_sk
 try simp only [owe_court_state_c1_k,owe_court_state_c1_eq]
 exact okQ
theorem slices_IndexFunc_92_post (s:List ActX):(fun (x:Int)=>(x = -1∧∀ q,q < s.length→owe_court_state_c1 (s.getD q default)=false)∨(0≤x∧x < s.length∧owe_court_state_c1 (s.getD x.toNat default)=true∧∀ q,(q:Nat) < x.toNat→owe_court_state_c1 (s.getD q default)=false)) (slices_IndexFunc_92 s):=have h:=Sk.pval _ (slices_IndexFunc_92_pst s); h
theorem slices_IndexFunc_92_ok (s:List ActX):(slices_IndexFunc_92_sk s).obs (fun _=>True):=by
 unfold slices_IndexFunc_92_sk
 try simp only [owe_court_state_c1_k,owe_court_state_c1_eq]
 exact okG
noncomputable def slices_IndexFunc_92_k (s:List ActX):Ctr (Int):=kk tok mixed Tryz.func160 [lv ActX.cells s,.fn 92 []] (fun x=>iv x) true (slices_IndexFunc_92_sk s) (slices_IndexFunc_92 s) (fun (_:True)=>slices_IndexFunc_92_ok s) (fun (x:Int)=>(x = -1∧∀ q,q < s.length→owe_court_state_c1 (s.getD q default)=false)∨(0≤x∧x < s.length∧owe_court_state_c1 (s.getD x.toNat default)=true∧∀ q,(q:Nat) < x.toNat→owe_court_state_c1 (s.getD q default)=false)) (slices_IndexFunc_92_post s)
noncomputable def slices_ContainsFunc_92_sk (s:List ActX):Sk (Bool) :=
 .r 1 ((slices_IndexFunc_92_k s).c) fun x1 =>
 .fin (decide (x1≥0))
noncomputable def slices_ContainsFunc_92 (s:List ActX):Bool:=(slices_ContainsFunc_92_sk s).val
theorem slices_ContainsFunc_92_pst (s:List ActX):(slices_ContainsFunc_92_sk s).pst (fun (x:Bool)=>(x=true↔∃ q,q < s.length∧owe_court_state_c1 (s.getD q default)=true)):=by
 unfold slices_ContainsFunc_92_sk
 try simp only [slices_IndexFunc_92_k]
 exact okP
theorem slices_ContainsFunc_92_post (s:List ActX):(fun (x:Bool)=>(x=true↔∃ q,q < s.length∧owe_court_state_c1 (s.getD q default)=true)) (slices_ContainsFunc_92 s):=have h:=Sk.pval _ (slices_ContainsFunc_92_pst s); h
theorem slices_ContainsFunc_92_ok (s:List ActX):(slices_ContainsFunc_92_sk s).obs (fun _=>True):=by
 unfold slices_ContainsFunc_92_sk
 try simp only [slices_IndexFunc_92_k]
 exact okE
noncomputable def slices_ContainsFunc_92_k (s:List ActX):Ctr (Bool):=kk tok mixed Tryz.func91 [lv ActX.cells s,.fn 92 []] (fun x=>bv x) true (slices_ContainsFunc_92_sk s) (slices_ContainsFunc_92 s) (fun (_:True)=>slices_ContainsFunc_92_ok s) (fun (x:Bool)=>(x=true↔∃ q,q < s.length∧owe_court_state_c1 (s.getD q default)=true)) (slices_ContainsFunc_92_post s)
structure Kept where
 shown:Int
 protest:Int
 notice:Int
 all:Int
 deriving Inhabited
def Kept.cells (c:Kept):List D:=[dI c.shown,dI c.protest,dI c.notice,dI c.all]
def Kept.E:Enc Kept:=⟨Kept.cells,4,fun _=>rfl,fun _=>rfl⟩
structure ViewXX where
 r:Realm
 forum:Int
 f:File
 sign:Int
 day:Int
 due:Int
 deriving Inhabited
def ViewXX.cells (c:ViewXX):List D:=c.r.cells++[dI c.forum]++c.f.cells++[dI c.sign,dI c.day,dI c.due]
def ViewXX.E:Enc ViewXX:=⟨ViewXX.cells,31,fun _=>rfl,fun _=>rfl⟩
def ViewXX.PayOK (v:ViewXX):Prop:=0≤v.f.bill.pay∧v.f.bill.pay < v.r.cities.length
noncomputable def diligence_look_sk (r:Realm) (forum:Int) (f:File) (sign:Int) (day:Int):Sk (ViewXX) :=
 .r 1 (.dep ((record_At_k f day).c) fun _=>(ask_Maturity_k r forum f day).c) fun p3 =>
 .fin ({ r:=r,forum:=forum,f:=p3.1,sign:=sign,day:=day,due:=p3.2 }:ViewXX)
noncomputable def diligence_look (r:Realm) (forum:Int) (f:File) (sign:Int) (day:Int):ViewXX:=(diligence_look_sk r forum f sign day).val
theorem diligence_look_pst (r:Realm) (forum:Int) (f:File) (sign:Int) (day:Int):(diligence_look_sk r forum f sign day).pst (fun (x:ViewXX)=>x.r=r∧x.f=record_At f day∧x.sign=sign):=by
 unfold diligence_look_sk
 try simp only [ask_Maturity_k,record_At_k,File.Small,Realm.Small,Realm.ByOK]
 exact okP
theorem diligence_look_post (r:Realm) (forum:Int) (f:File) (sign:Int) (day:Int):(fun (x:ViewXX)=>x.r=r∧x.f=record_At f day∧x.sign=sign) (diligence_look r forum f sign day):=have h:=Sk.pval _ (diligence_look_pst r forum f sign day); h
theorem diligence_look_ok (r:Realm) (forum:Int) (f:File) (sign:Int) (day:Int) (h_f_Small:f.Small) (h_r_ByOK:r.ByOK) (h_r_Small:r.Small):(diligence_look_sk r forum f sign day).obs (fun _=>True):=by
 simp only [File.Small,Realm.Small,Realm.ByOK] at h_f_Small
 simp only [File.Small,Realm.Small,Realm.ByOK] at h_r_ByOK
 simp only [File.Small,Realm.Small,Realm.ByOK] at h_r_Small
 unfold diligence_look_sk
 try simp only [ask_Maturity_k,record_At_k,File.Small,Realm.Small,Realm.ByOK]
 exact okD
noncomputable def diligence_look_k (r:Realm) (forum:Int) (f:File) (sign:Int) (day:Int):Ctr (ViewXX):=kk tok mixed Tryz.func161 [av r.cells,iv forum,av f.cells,iv sign,iv day] (fun x=>av x.cells) false (diligence_look_sk r forum f sign day) (diligence_look r forum f sign day) (fun (h:(f.Small)∧(r.ByOK)∧(r.Small))=>diligence_look_ok r forum f sign day h.1 h.2.1 h.2.2) (fun (x:ViewXX)=>x.r=r∧x.f=record_At f day∧x.sign=sign) (diligence_look_post r forum f sign day)
noncomputable def diligence_view_first_sk (v:ViewXX) (kind:Int) (from_:Int):Sk (Int) :=
 .bind true (fun _=>True)
 (.loop (default:Sum (Int) (Unit)) (fun i2=>i2≤v.f.acts.length) (fun i2=>v.f.acts.length - i2) (0:Nat)
 (fun (i2:Nat)=>⟨[(13,iv (i2:Int))],[]⟩) fun i2 =>
 .bnd 11 0 v.f.acts.length <|
 .br (decide ((i2:Int) < ((v.f.acts.length:Nat):Int)))
 (.r 3 (.p (ixP (i2:Int) v.f.acts.length)) fun _ =>
 .br (((((v.f.acts.getD i2 default).kind) == kind)&&(((v.f.acts.getD i2 default).to_) == v.f.bill.drawee))&&(decide (((v.f.acts.getD i2 default).day)≥from_)))
 (.fin (.inl (.inl ((v.f.acts.getD i2 default).day))))
 (.r 6 .z fun _ =>
 .wi 13 (w64 ((i2:Int)+1)) ((i2+1:Nat):Int) <|
 .fin (.inr (i2+1))))
 (.fin (.inl (.inr ()))))
 (fun (_:Unit)=>⟨[],[]⟩) fun _ =>
 .fin (-1)
noncomputable def diligence_view_first (v:ViewXX) (kind:Int) (from_:Int):Int:=(diligence_view_first_sk v kind from_).val
theorem diligence_view_first_ok (v:ViewXX) (kind:Int) (from_:Int):(diligence_view_first_sk v kind from_).obs (fun _=>True):=by
 unfold diligence_view_first_sk
 exact okD
noncomputable def diligence_view_first_k (v:ViewXX) (kind:Int) (from_:Int):Ctr (Int):=kk tok mixed Tryz.func213 [av v.cells,iv kind,iv from_] (fun x=>iv x) true (diligence_view_first_sk v kind from_) (diligence_view_first v kind from_) (fun (_:True)=>diligence_view_first_ok v kind from_)
structure TermX where
 known:Bool
 last:Int
 deriving Inhabited
def TermX.cells (c:TermX):List D:=[dB c.known,dI c.last]
def TermX.E:Enc TermX:=⟨TermX.cells,2,fun _=>rfl,fun _=>rfl⟩
noncomputable def diligence_view_show_sk (v:ViewXX):Sk (TermX) :=
 .r 1 ((ask_Bill_k v.r v.forum 7 v.f v.day).c) fun x1 =>
 .br (x1.err != 0)
 (.fin ({ known:=true,last:=9223372036854775807 }:TermX))
 (.br (!x1.cell.known)
 (.fin ({ known:=false,last:=0 }:TermX))
 (.br (decide ((w64 (v.f.bill.day+x1.cell.n)) > 100000))
 (.fin ({ known:=true,last:=9223372036854775807 }:TermX))
 (.fin ({ known:=true,last:=w64 (v.f.bill.day+x1.cell.n) }:TermX))))
noncomputable def diligence_view_show (v:ViewXX):TermX:=(diligence_view_show_sk v).val
theorem diligence_view_show_ok (v:ViewXX) (h_v_f_Small:v.f.Small) (h_v_r_ByOK:v.r.ByOK) (h_v_r_Small:v.r.Small):(diligence_view_show_sk v).obs (fun _=>True):=by
 unfold diligence_view_show_sk
 try simp only [ask_Bill_k]
 exact okD
noncomputable def diligence_view_show_k (v:ViewXX):Ctr (TermX):=kk tok mixed Tryz.func214 [av v.cells] (fun x=>av x.cells) true (diligence_view_show_sk v) (diligence_view_show v) (fun (h:(v.f.Small)∧(v.r.ByOK)∧(v.r.Small))=>diligence_view_show_ok v h.1 h.2.1 h.2.2)
noncomputable def diligence_view_timely_sk (v:ViewXX) (on:Int) (t:TermX):Sk (Int) :=
 .br (!t.known)
 (.fin 2)
 (.br ((on != (-1))&&(decide (on≤t.last)))
 (.fin 1)
 (.br ((on != (-1))||(decide (v.day > t.last)))
 (.fin 0)
 (.fin 2)))
noncomputable def diligence_view_timely (v:ViewXX) (on:Int) (t:TermX):Int:=(diligence_view_timely_sk v on t).val
theorem diligence_view_timely_ok (v:ViewXX) (on:Int) (t:TermX):(diligence_view_timely_sk v on t).obs (fun _=>True):=by
 unfold diligence_view_timely_sk
 exact okE
noncomputable def diligence_view_timely_k (v:ViewXX) (on:Int) (t:TermX):Ctr (Int):=kk tok mixed Tryz.func212 [av v.cells,iv on,av t.cells] (fun x=>iv x) true (diligence_view_timely_sk v on t) (diligence_view_timely v on t) (fun (_:True)=>diligence_view_timely_ok v on t)
noncomputable def diligence_view_refused_sk (v:ViewXX):Sk (Int) :=
 .r 1 ((diligence_view_first_k v 1 0).c) fun x1 =>
 .br (decide (x1 > v.due))
 (.fin (-1))
 (.fin x1)
noncomputable def diligence_view_refused (v:ViewXX):Int:=(diligence_view_refused_sk v).val
theorem diligence_view_refused_ok (v:ViewXX):(diligence_view_refused_sk v).obs (fun _=>True):=by
 unfold diligence_view_refused_sk
 try simp only [diligence_view_first_k]
 exact okE
noncomputable def diligence_view_refused_k (v:ViewXX):Ctr (Int):=kk tok mixed Tryz.func215 [av v.cells] (fun x=>iv x) true (diligence_view_refused_sk v) (diligence_view_refused v) (fun (_:True)=>diligence_view_refused_ok v)
noncomputable def diligence_and_sk (l:List Int):Sk (Int) :=
 .r 1 ((slices_Contains_k l 0).c) fun x1 =>
 .br x1
 (.fin 0)
 (.r 3 ((slices_Contains_k l 2).c) fun x2 =>
 .br x2
 (.fin 2)
 (.fin 1))
noncomputable def diligence_and (l:List Int):Int:=(diligence_and_sk l).val
theorem diligence_and_ok (l:List Int):(diligence_and_sk l).obs (fun _=>True):=by
 unfold diligence_and_sk
 try simp only [slices_Contains_k]
 exact okE
noncomputable def diligence_and_k (l:List Int):Ctr (Int):=kk tok mixed Tryz.func167 [lv intC l] (fun x=>iv x) true (diligence_and_sk l) (diligence_and l) (fun (_:True)=>diligence_and_ok l)
noncomputable def diligence_view_asked_sk (v:ViewXX) (question:Int):Sk (Said) :=
 .r 1 ((ask_Ask_k v.r v.forum question ({ file:=v.f,sign:=v.sign,holder:=v.sign,defence:=(-1),due:=v.due,day:=v.day }:CaseX)).c) fun x1 =>
 .fin x1
noncomputable def diligence_view_asked (v:ViewXX) (question:Int):Said:=(diligence_view_asked_sk v question).val
theorem diligence_view_asked_ok (v:ViewXX) (question:Int) (h_v_f_Small:v.f.Small) (h_v_r_ByOK:v.r.ByOK) (h_v_r_Small:v.r.Small):(diligence_view_asked_sk v question).obs (fun _=>True):=by
 unfold diligence_view_asked_sk
 try simp only [ask_Ask_k]
 exact okD
noncomputable def diligence_view_asked_k (v:ViewXX) (question:Int):Ctr (Said):=kk tok mixed Tryz.func164 [av v.cells,iv question] (fun x=>av x.cells) false (diligence_view_asked_sk v question) (diligence_view_asked v question) (fun (h:(v.f.Small)∧(v.r.ByOK)∧(v.r.Small))=>diligence_view_asked_ok v question h.1 h.2.1 h.2.2)
noncomputable def calendar_Plus_sk (c_:City) (day:Int) (n:Int):Sk (Int × Int) :=
 .r 1 ((calendar_valid_k day).c) fun x1 =>
 .br (((!x1)||(decide (n < 0)))||(decide (n > 20000)))
 (.fin (0,3))
 (.bind true (fun _=>True)
 (.loop (default:Sum (Int × Int) (Int)) (fun i3=>0≤i3.2∧i3.2≤n∧0≤i3.1∧i3.1≤100000) (fun i3=>(n - i3.2).toNat) ((day,0):Int × Int)
 (fun (i3:Int × Int)=>⟨[(1,iv i3.1),(22,iv i3.2)],[]⟩) fun i3 =>
 .br (decide (i3.2 < n))
 (.r 5 ((calendar_Next_k c_ (w64 (i3.1+1))).c) fun x4 =>
 .br (x4.2 != 0)
 (.fin (.inl (.inl (0,x4.2))))
 (.fin (.inr (x4.1,w64 (i3.2+1)))))
 (.fin (.inl (.inr i3.1))))
 (fun (b2:Int)=>⟨[(1,iv b2)],[]⟩) fun b2 =>
 .fin (b2,0))
noncomputable def calendar_Plus (c_:City) (day:Int) (n:Int):Int × Int:=(calendar_Plus_sk c_ day n).val
theorem calendar_Plus_ok (c_:City) (day:Int) (n:Int):(calendar_Plus_sk c_ day n).obs (fun _=>True):=by
 unfold calendar_Plus_sk
 try simp only [calendar_Next_k,calendar_valid_k,calendar_valid_eq]
 exact okG
noncomputable def calendar_Plus_k (c_:City) (day:Int) (n:Int):Ctr (Int × Int):=kk tok mixed Tryz.func251 [av c_.cells,iv day,iv n] (fun x=>.tup [iv x.1,iv x.2]) true (calendar_Plus_sk c_ day n) (calendar_Plus c_ day n) (fun (_:True)=>calendar_Plus_ok c_ day n)
noncomputable def diligence_view_days_sk (v:ViewXX) (said:Said) (from_:Int):Sk (TermX) :=
 .br (said.err != 0)
 (.fin ({ known:=true,last:=9223372036854775807 }:TermX))
 (.br (!said.cell.known)
 (.fin ({ known:=false,last:=0 }:TermX))
 (.r 5 (.andl (.p (ixP v.f.bill.pay v.r.cities.length)) ((calendar_Plus_k (v.r.cities.getD v.f.bill.pay.toNat default) from_ said.cell.n).c)) fun x1 =>
 .br (x1.2 != 0)
 (.fin ({ known:=true,last:=9223372036854775807 }:TermX))
 (.fin ({ known:=true,last:=x1.1 }:TermX))))
noncomputable def diligence_view_days (v:ViewXX) (said:Said) (from_:Int):TermX:=(diligence_view_days_sk v said from_).val
theorem diligence_view_days_ok (v:ViewXX) (said:Said) (from_:Int) (hp:v.PayOK):(diligence_view_days_sk v said from_).obs (fun _=>True):=by
 unfold diligence_view_days_sk
 try simp only [calendar_Plus_k]
 exact okD
noncomputable def diligence_view_days_k (v:ViewXX) (said:Said) (from_:Int):Ctr (TermX):=kk tok mixed Tryz.func216 [av v.cells,av said.cells,iv from_] (fun x=>av x.cells) true (diligence_view_days_sk v said from_) (diligence_view_days v said from_) (fun (h:(v.PayOK))=>diligence_view_days_ok v said from_ h)
noncomputable def diligence_view_presented_sk (v:ViewXX):Sk (Int) :=
 .br (v.f.bill.tenor.kind == 0)
 (.r 3 (.dep ((diligence_view_first_k v 2 0).c) fun x1=>.dep ((diligence_view_show_k v).c) fun x2=>(diligence_view_timely_k v x1 x2).c) fun p4 =>
 .fin p4.2.2)
 (.bind false (fun _=>True)
 (.br (v.f.bill.tenor.kind == 1)
 (.r 6 (.dep ((record_Seen_k v.f).c) fun x6=>.dep ((diligence_view_show_k v).c) fun x7=>(diligence_view_timely_k v x6 x7).c) fun p9 =>
 .fin (.inr p9.2.2))
 (.fin (.inr 1)))
 (fun (b5:Int)=>⟨[(4,iv b5)],[]⟩) fun b5 =>
 .r 7 ((diligence_view_refused_k v).c) fun x10 =>
 .br (x10 != (-1))
 (.fin b5)
 (.br (v.due == (-1))
 (.r 10 (.andl (.o [.nrm (litC intE [b5,2])]) ((diligence_and_k [b5,2]).c)) fun x11 =>
 .fin x11)
 (.r 11 (.dep ((diligence_view_first_k v 2 v.due).c) fun x12=>.dep ((diligence_view_asked_k v 10).c) fun x13=>.dep ((diligence_view_days_k v x13 v.due).c) fun x14=>.dep ((diligence_view_timely_k v x12 x14).c) fun x15=>.andl (.o [.nrm (litC intE [b5,x15])]) ((diligence_and_k [b5,x15]).c)) fun p17 =>
 .fin p17.2.2.2.2)))
noncomputable def diligence_view_presented (v:ViewXX):Int:=(diligence_view_presented_sk v).val
theorem diligence_view_presented_ok (v:ViewXX) (h_v_f_Small:v.f.Small) (h_v_r_ByOK:v.r.ByOK) (h_v_r_Small:v.r.Small) (h_v_PayOK:v.PayOK):(diligence_view_presented_sk v).obs (fun _=>True):=by
 refine Sk.obs_of _ ?_
 unfold diligence_view_presented_sk
 simp (maxSteps:=2000000) only [Sk.obq,Sk.isLoop,reduceCtorEq,ON,kk,diligence_and_k,diligence_view_asked_k,diligence_view_days_k,diligence_view_first_k,diligence_view_refused_k,diligence_view_show_k,diligence_view_timely_k,record_Seen_k,maxLen]
 all_goals (repeat' first | assumption | (apply And.intro) | (intro h))
 all_goals first | trivial | assumption | omega | ((try simp only [LN] at *) <;> first | omega | (refine (w64_id ?_ ?_).trans ?_ <;> omega) | (simp (disch:=omega) only [w64_id] at *; omega) | (grind) | (simp_all; done) | (simp_all; omega))
noncomputable def diligence_view_presented_k (v:ViewXX):Ctr (Int):=kk tok mixed Tryz.func162 [av v.cells] (fun x=>iv x) true (diligence_view_presented_sk v) (diligence_view_presented v) (fun (h:(v.f.Small)∧(v.r.ByOK)∧(v.r.Small)∧(v.PayOK))=>diligence_view_presented_ok v h.1 h.2.1 h.2.2.1 h.2.2.2)
noncomputable def diligence_view_dishonour_sk (v:ViewXX):Sk (Int) :=
 .r 1 ((diligence_view_refused_k v).c) fun x1 =>
 .br (x1 != (-1))
 (.fin x1)
 (.fin v.due)
noncomputable def diligence_view_dishonour (v:ViewXX):Int:=(diligence_view_dishonour_sk v).val
theorem diligence_view_dishonour_ok (v:ViewXX):(diligence_view_dishonour_sk v).obs (fun _=>True):=by
 unfold diligence_view_dishonour_sk
 try simp only [diligence_view_refused_k]
 exact okE
noncomputable def diligence_view_dishonour_k (v:ViewXX):Ctr (Int):=kk tok mixed Tryz.func217 [av v.cells] (fun x=>iv x) true (diligence_view_dishonour_sk v) (diligence_view_dishonour v) (fun (_:True)=>diligence_view_dishonour_ok v)
noncomputable def diligence_view_protested_sk (v:ViewXX):Sk (Int) :=
 .r 1 ((diligence_view_dishonour_k v).c) fun x1 =>
 .r 2 (.dep ((diligence_view_asked_k v 10).c) fun x2=>(diligence_view_days_k v x2 x1).c) fun p11 =>
 .br (!p11.2.known)
 (.fin 2)
 (.bind false (fun _=>True)
 (.br (decide (v.day≤p11.2.last))
 (.fin (.inr 2))
 (.fin (.inr 0)))
 (fun (b4:Int)=>⟨[(5,iv b4)],[]⟩) fun b4 =>
 .bind true (fun _=>True)
 (.loop (default:Sum (Int) (Int)) (fun i6=>i6.2≤v.f.acts.length) (fun i6=>v.f.acts.length - i6.2) ((b4,0):Int × Nat)
 (fun (i6:Int × Nat)=>⟨[(5,iv i6.1),(28,iv (i6.2:Int))],[]⟩) fun i6 =>
 .bnd 26 0 v.f.acts.length <|
 .br (decide ((i6.2:Int) < ((v.f.acts.length:Nat):Int)))
 (.r 10 (.p (ixP (i6.2:Int) v.f.acts.length)) fun _ =>
 .br ((((((v.f.acts.getD i6.2 default).kind) != 4)||(((v.f.acts.getD i6.2 default).to_) != v.f.bill.drawee))||(decide (((v.f.acts.getD i6.2 default).day) < x1)))||(decide (((v.f.acts.getD i6.2 default).day) > p11.2.last)))
 (.r 19 .z fun _ =>
 .wi 28 (w64 ((i6.2:Int)+1)) ((i6.2+1:Nat):Int) <|
 .fin (.inr (i6.1,i6.2+1)))
 (.bind false (fun _=>True)
 (.br (((v.f.acts.getD i6.2 default).form) == 1)
 (.r 14 (.dep ((diligence_view_asked_k v 9).c) fun x8=>(ask_Tri_k x8).c) fun p10 =>
 .fin (.inr p10.2))
 (.fin (.inr 1)))
 (fun (b7:Int)=>⟨[(8,iv b7)],[]⟩) fun b7 =>
 .br (b7 == 1)
 (.fin (.inl (.inl 1)))
 (.br (b7 == 2)
 (.r 19 .z fun _ =>
 .wi 28 (w64 ((i6.2:Int)+1)) ((i6.2+1:Nat):Int) <|
 .fin (.inr (2,i6.2+1)))
 (.r 19 .z fun _ =>
 .wi 28 (w64 ((i6.2:Int)+1)) ((i6.2+1:Nat):Int) <|
 .fin (.inr (i6.1,i6.2+1))))))
 (.fin (.inl (.inr i6.1))))
 (fun (b5:Int)=>⟨[(5,iv b5)],[]⟩) fun b5 =>
 .fin b5)
noncomputable def diligence_view_protested (v:ViewXX):Int:=(diligence_view_protested_sk v).val
theorem diligence_view_protested_ok (v:ViewXX) (h_v_f_Small:v.f.Small) (h_v_r_ByOK:v.r.ByOK) (h_v_r_Small:v.r.Small) (h_v_PayOK:v.PayOK):(diligence_view_protested_sk v).obs (fun _=>True):=by
 unfold diligence_view_protested_sk
 try simp only [ask_Tri_k,diligence_view_asked_k,diligence_view_days_k,diligence_view_dishonour_k]
 exact okD
noncomputable def diligence_view_protested_k (v:ViewXX):Ctr (Int):=kk tok mixed Tryz.func165 [av v.cells] (fun x=>iv x) true (diligence_view_protested_sk v) (diligence_view_protested v) (fun (h:(v.f.Small)∧(v.r.ByOK)∧(v.r.Small)∧(v.PayOK))=>diligence_view_protested_ok v h.1 h.2.1 h.2.2.1 h.2.2.2)
noncomputable def diligence_unless_sk (said:Said) (answer:Int):Sk (Int) :=
 .r 1 ((ask_Tri_k said).c) fun x1 =>
 .br ((x1 == 0)||(answer == 1))
 (.fin 1)
 (.br (x1 == 2)
 (.fin 2)
 (.fin answer))
noncomputable def diligence_unless (said:Said) (answer:Int):Int:=(diligence_unless_sk said answer).val
theorem diligence_unless_ok (said:Said) (answer:Int):(diligence_unless_sk said answer).obs (fun _=>True):=by
 unfold diligence_unless_sk
 try simp only [ask_Tri_k]
 exact okE
noncomputable def diligence_unless_k (said:Said) (answer:Int):Ctr (Int):=kk tok mixed Tryz.func163 [av said.cells,iv answer] (fun x=>iv x) true (diligence_unless_sk said answer) (diligence_unless said answer) (fun (_:True)=>diligence_unless_ok said answer)
noncomputable def diligence_view_notified_sk (v:ViewXX):Sk (Int) :=
 .r 1 ((diligence_view_dishonour_k v).c) fun x1 =>
 .r 2 ((diligence_view_asked_k v 12).c) fun x2 =>
 .r 3 ((diligence_view_days_k v x2 x1).c) fun x3 =>
 .br (!x3.known)
 (.fin 2)
 (.bind true (fun _=>True)
 (.loop (default:Sum (Int) (Int)) (fun i5=>i5.2.2≤v.f.acts.length∧i5.2.1.length≤i5.2.2) (fun i5=>v.f.acts.length - i5.2.2) ((x3.last,[],0):Int × (List ActX) × Nat)
 (fun (i5:Int × (List ActX) × Nat)=>⟨[(6,iv i5.1),(7,ow 100005 i5.2.1),(30,iv (i5.2.2:Int))],[(100005,rowB 50 9 ActX.cells i5.2.1)]⟩) fun i5 =>
 .bnd 28 0 v.f.acts.length <|
 .br (decide ((i5.2.2:Int) < ((v.f.acts.length:Nat):Int)))
 (.bind true (fun b6=>b6.2.1.length≤i5.2.1.length+1)
 (.r 10 (.p (ixP (i5.2.2:Int) v.f.acts.length)) fun _ =>
 .br (((v.f.acts.getD i5.2.2 default).kind) != 5)
 (.fin (.inr (i5.1,i5.2.1,v.f.acts.getD i5.2.2 default,(v.f.acts.getD i5.2.2 default).kind,((v.f.acts.getD i5.2.2 default).kind) != 5)))
 (.bind true (fun _=>True)
 (.loop (default:Sum (Sum (Sum (Sum (Int) (Int)) (Int × (List ActX) × Nat)) (Int × (List ActX) × ActX × Int × Bool)) (Bool × Int × Bool)) (fun i8=>i8.2≤i5.2.1.length) (fun i8=>i5.2.1.length - i8.2) (((decide (((v.f.acts.getD i5.2.2 default).day)≥x1))&&(decide (((v.f.acts.getD i5.2.2 default).day)≤x3.last)),0):Bool × Nat)
 (fun (i8:Bool × Nat)=>⟨[(10,bv i8.1),(50,iv (i8.2:Int))],[]⟩) fun i8 =>
 .bnd 7 0 i5.2.1.length <|
 .br (decide ((i8.2:Int) < ((i5.2.1.length:Nat):Int)))
 (.r 15 (.andl (.p (ixP (i8.2:Int) i5.2.1.length)) (.p (i8.2 < i5.2.1.length))) fun _ =>
 .r 16 (.wh i8.1 false (.wh (((i5.2.1.getD i8.2 default).to_) == ((v.f.acts.getD i5.2.2 default).who)) true ((diligence_view_days_k v x2 ((i5.2.1.getD i8.2 default).day)).c))) fun x9 =>
 .r 17 .z fun _ =>
 .wi 50 (w64 ((i8.2:Int)+1)) ((i8.2+1:Nat):Int) <|
 .fin (.inr (i8.1||((((i5.2.1.getD i8.2 default).to_) == ((v.f.acts.getD i5.2.2 default).who))&&(decide (((v.f.acts.getD i5.2.2 default).day)≤x9.last))),i8.2+1)))
 (.fin (.inl (.inr (i8.1,(i8.2:Int),decide ((i8.2:Int) < ((i5.2.1.length:Nat):Int)))))))
 (fun (b7:Bool × Int × Bool)=>⟨[(10,bv b7.1),(50,iv b7.2.1),(51,bv b7.2.2)],[]⟩) fun b7 =>
 .br (!b7.1)
 (.fin (.inr (i5.1,i5.2.1,v.f.acts.getD i5.2.2 default,(v.f.acts.getD i5.2.2 default).kind,((v.f.acts.getD i5.2.2 default).kind) != 5)))
 (.r 19 (.p (ixP v.sign v.f.signs.length)) fun _ =>
 .br (((v.f.acts.getD i5.2.2 default).to_) == ((v.f.signs.getD v.sign.toNat default).who))
 (.fin (.inl (.inl (.inl 1))))
 (.r 21 (.andl (.o [.nrm (litC ActX.E [v.f.acts.getD i5.2.2 default])]) (.andl (.o [.nrm (catC ActX.E i5.2.1 [v.f.acts.getD i5.2.2 default])]) (.andl (.t (ActX.E.ones [v.f.acts.getD i5.2.2 default])) (.p (szP i5.2.1.length [v.f.acts.getD i5.2.2 default].length 72))))) fun _ =>
 .r 22 ((diligence_view_days_k v x2 ((v.f.acts.getD i5.2.2 default).day)).c) fun x10 =>
 .fin (.inr (maxI i5.1 x10.last,i5.2.1++[v.f.acts.getD i5.2.2 default],v.f.acts.getD i5.2.2 default,(v.f.acts.getD i5.2.2 default).kind,((v.f.acts.getD i5.2.2 default).kind) != 5))))))
 (fun (b6:Int × (List ActX) × ActX × Int × Bool)=>⟨[(6,iv b6.1),(7,ow 100007 b6.2.1),(33,av b6.2.2.1.cells),(35,iv b6.2.2.2.1),(36,bv b6.2.2.2.2)],[(100007,rowB 50 9 ActX.cells b6.2.1)]⟩) fun b6 =>
 .r 23 .z fun _ =>
 .wi 30 (w64 ((i5.2.2:Int)+1)) ((i5.2.2+1:Nat):Int) <|
 .fin (.inr (b6.1,b6.2.1,i5.2.2+1)))
 (.fin (.inl (.inr i5.1))))
 (fun (b4:Int)=>⟨[(6,iv b4)],[]⟩) fun b4 =>
 .br (decide (v.day > b4))
 (.fin 0)
 (.fin 2))
noncomputable def diligence_view_notified (v:ViewXX):Int:=(diligence_view_notified_sk v).val
theorem diligence_view_notified_ok (v:ViewXX) (hs:0≤v.sign∧v.sign < (v.f.signs.length:Int)) (h_v_f_Small:v.f.Small) (h_v_r_ByOK:v.r.ByOK) (h_v_r_Small:v.r.Small) (h_v_PayOK:v.PayOK):(diligence_view_notified_sk v).obs (fun _=>True):=by
 refine Sk.obs_of _ ?_
 unfold diligence_view_notified_sk
 simp only [Sk.obq,Sk.isLoop,reduceCtorEq,ON,kk,diligence_view_asked_k,diligence_view_days_k,diligence_view_dishonour_k,maxLen]
 have hS1:=h_v_f_Small.2.2.1
 all_goals exact okT
noncomputable def diligence_view_notified_k (v:ViewXX):Ctr (Int):=kk tok mixed Tryz.func166 [av v.cells] (fun x=>iv x) true (diligence_view_notified_sk v) (diligence_view_notified v) (fun (h:(0≤v.sign∧v.sign < (v.f.signs.length:Int))∧(v.f.Small)∧(v.r.ByOK)∧(v.r.Small)∧(v.PayOK))=>diligence_view_notified_ok v h.1 h.2.1 h.2.2.1 h.2.2.2.1 h.2.2.2.2)
noncomputable def diligence_Kept_sk (r:Realm) (forum:Int) (f:File) (sign:Int) (day:Int):Sk (Kept) :=
 .r 1 ((diligence_look_k r forum f sign day).c) fun x1 =>
 .br ((decide (sign < 0))||(decide (sign≥((x1.f.signs.length:Nat):Int))))
 (.fin ({ shown:=0,protest:=0,notice:=0,all:=0 }:Kept))
 (.r 5 ((diligence_view_presented_k x1).c) fun x2 =>
 .bind false (fun _=>True)
 (.br (x1.due != (-1))
 (.r 7 (.dep ((diligence_view_asked_k x1 8).c) fun x4=>.dep ((diligence_view_protested_k x1).c) fun x5=>(diligence_unless_k x4 x5).c) fun p11 =>
 .r 8 (.dep ((diligence_view_asked_k x1 11).c) fun x7=>.dep ((diligence_view_notified_k x1).c) fun x8=>(diligence_unless_k x7 x8).c) fun p10 =>
 .fin (.inr ({ shown:=x2,protest:=p11.2.2,notice:=p10.2.2,all:=0 }:Kept)))
 (.fin (.inr ({ shown:=x2,protest:=2,notice:=2,all:=0 }:Kept))))
 (fun (b3:Kept)=>⟨[],[(12,.box (b3.cells.map .d))]⟩) fun b3 =>
 .r 9 (.andl (.o [.nrm (litC intE [b3.shown,b3.protest,b3.notice])]) ((diligence_and_k [b3.shown,b3.protest,b3.notice]).c)) fun x12 =>
 .fin ({ b3 with all:=x12 }))
noncomputable def diligence_Kept (r:Realm) (forum:Int) (f:File) (sign:Int) (day:Int):Kept:=(diligence_Kept_sk r forum f sign day).val
theorem diligence_Kept_ok (r:Realm) (forum:Int) (f:File) (sign:Int) (day:Int) (hF:RightF r f) (h_f_Small:f.Small) (h_r_ByOK:r.ByOK) (h_r_Small:r.Small):(diligence_Kept_sk r forum f sign day).obs (fun _=>True):=by
 refine Sk.obs_of _ ?_
 unfold diligence_Kept_sk
 simp only [Sk.obq,Sk.isLoop,reduceCtorEq,ON,kk,diligence_and_k,diligence_look_k,diligence_unless_k,diligence_view_asked_k,diligence_view_notified_k,diligence_view_presented_k,diligence_view_protested_k,maxLen]
 refine ⟨⟨h_f_Small,h_r_ByOK,h_r_Small⟩,fun x _ hx hc=>?_⟩
 have hS:x.f.Small:=by rw [hx.2.1]; exact At_small h_f_Small day
 have hB:x.r.ByOK:=by rw [hx.1]; exact h_r_ByOK
 have hR:x.r.Small:=by rw [hx.1]; exact h_r_Small
 have hp:x.PayOK:=by unfold ViewXX.PayOK; rw [hx.1,hx.2.1,bill_AtR]; exact hF.1.2.1
 have hs:0≤x.sign∧x.sign < (x.f.signs.length:Int):=by rw [hx.2.2]; simp only [LN] at hc; omega
 all_goals exact okT
noncomputable def diligence_Kept_k (r:Realm) (forum:Int) (f:File) (sign:Int) (day:Int):Ctr (Kept):=kk tok mixed Tryz.func93 [av r.cells,iv forum,av f.cells,iv sign,iv day] (fun x=>av x.cells) true (diligence_Kept_sk r forum f sign day) (diligence_Kept r forum f sign day) (fun (h:(RightF r f)∧(f.Small)∧(r.ByOK)∧(r.Small))=>diligence_Kept_ok r forum f sign day h.1 h.2.1 h.2.2.1 h.2.2.2)
theorem compactUpTo_facts {d:Array Int} {n:Nat} (hs:∀ i j,i≤j→j < n→d[i]!≤d[j]!):∀ m,m≤n→(Lib.compactUpTo d m).Pairwise (· < ·)∧∀ x,x∈Lib.compactUpTo d m↔∃ j,j < m∧d[j]! = x
 | 0,_=>by simp [Lib.compactUpTo]
 | m+1,hm=>by
  obtain ⟨h1,h2⟩:=compactUpTo_facts hs m (by omega)
  rw [Lib.compactUpTo_succ]
  by_cases hk:Lib.keeps d m=true
  ·rw [if_pos hk]
   refine ⟨List.pairwise_append.2 ⟨h1,by simp,fun a ha b hb=>?_⟩,fun x=>?_⟩
   ·simp only [List.mem_singleton] at hb
    subst hb
    obtain ⟨j,hj,rfl⟩:=(h2 a).1 ha
    have h3:=hs j (m - 1) (by omega) (by omega)
    have h4:=hs (m - 1) m (by omega) (by omega)
    simp only [Lib.keeps,decide_eq_true_eq] at hk
    rcases hk with hk | hk
    ·omega
    ·omega
   ·rw [List.mem_append,h2,List.mem_singleton]
    constructor
    ·rintro (⟨j,hj,rfl⟩ | rfl)
     ·exact ⟨j,by omega,rfl⟩
     ·exact ⟨m,by omega,rfl⟩
    ·rintro ⟨j,hj,rfl⟩
     by_cases e:j=m
     ·subst e; exact .inr rfl
     ·exact .inl ⟨j,by omega,rfl⟩
  ·rw [if_neg hk,List.append_nil]
   refine ⟨h1,fun x=>(h2 x).trans ?_⟩
   constructor
   ·rintro ⟨j,hj,rfl⟩
    exact ⟨j,by omega,rfl⟩
   ·rintro ⟨j,hj,rfl⟩
    by_cases e:j=m
    ·subst e
     simp only [Lib.keeps,decide_eq_true_eq,not_or] at hk
     have:¬ d[j]!≠d[j - 1]!:=hk.2
     exact ⟨j - 1,by omega,by omega⟩
    ·exact ⟨j,by omega,rfl⟩
theorem runY_prefix {β Y:Type} {γ:Type} (sg:γ→List β) (se:Y→β) {δ:Type} (sd:δ→List β) {f:γ→Y→δ ⊕ γ}:∀ (l:List Y) (s:γ),(∀ s y,match f s y with | .inl e=>sd e=sg s | .inr s'=>sg s'=sg s++[se y]) →
  ∃ k,(match runY f l s with | .inl e=>sd e | .inr s'=>sg s')=sg s++(l.take k).map se
 | [],s,_=>⟨0,by simp [runY]⟩
 | y :: r,s,h=>by
  have h1:=h s y
  simp only [runY]
  cases e:f s y with
  | inl b=>rw [e] at h1; exact ⟨0,by simpa using h1⟩
  | inr s' =>
   rw [e] at h1
   obtain ⟨k,hk⟩:=runY_prefix sg se sd r s' h
   refine ⟨k+1,?_⟩
   rw [hk,h1]
   simp
theorem Chain_take (f:File) (part day:Int):∃ k,(title_Chain f part day).signs=((title_endorsements_c1 f day part).take k).map (·.1):=by
 unfold title_Chain title_Chain_sk
 dsimp +instances only [Sk.val_bind,Sk.val_loop,Sk.val_bnd,Sk.val_br,Sk.val_r,Sk.val_wi,Sk.val_fin,Sk.val_rf,Ctr.c_v,kk,Cal.andl_v,title_dishonoured_k,title_endorsements_k,title_endorsements_c1_it,title_right_k]
 obtain ⟨k,hk⟩:=runY_prefix (fun s:List Int × Int × Bool × Int × List Int=>s.1) (fun y:Int × Sign=>y.1) (fun e:List Int × Int × Int × Bool × Int × List Int=>e.1)
  (f:=fun s y=>bif (!s.2.2.1)&&(y.2.who != s.2.1) then .inl (s.1,s.2.1,y.1,s.2.2.1,s.2.2.2.1,s.2.2.2.2) else bif (title_dishonoured f day).2&&decide (y.2.day > (title_dishonoured f day).1) then .inr (s.1++[y.1],y.2.to_,y.2.to_ == (-1),title_right s.2.2.2.1 y.2.flags,s.2.2.2.2++[y.1]) else .inr (s.1++[y.1],y.2.to_,y.2.to_ == (-1),title_right s.2.2.2.1 y.2.flags,s.2.2.2.2))
  (title_endorsements_c1 f day part) ([],f.bill.payee,f.bill.payee == (-1),0,[]) (fun s y=>by
   cases (!s.2.2.1)&&(y.2.who != s.2.1)
   ·cases (title_dishonoured f day).2&&decide (y.2.day > (title_dishonoured f day).1) <;> rfl
   ·rfl)
 refine ⟨k,?_⟩
 rw [List.nil_append] at hk
 rw [← hk]
 generalize hr:runY _ _ _=r
 cases r <;> rfl
theorem links_mem {v:View} {part y:Int} (h:y∈owe_view_links v part):0≤y∧y < v.all.signs.length∧(v.all.signs.getD y.toNat default).kind=2∧(v.all.signs.getD y.toNat default).part=part∧(v.all.signs.getD y.toNat default).day≤v.day∧mget (title_struck v.all v.day) y false=false:=by
 have e:owe_view_links v part=(title_Chain v.all part v.day).signs:=rfl
 obtain ⟨k,hk⟩:=Chain_take v.all part v.day
 rw [e,hk] at h
 obtain ⟨z,hz,rfl⟩:=List.mem_map.1 h
 obtain ⟨i,hi⟩:=List.getElem?_of_mem ((List.take_sublist _ _).subset hz)
 have:=ends_mem hi
 rw [← this.2.2.2.1]
 exact ⟨this.2.1,this.2.2.1,this.2.2.2.2⟩
theorem ownersL_mem (c:Court) (last:Int):∀ (links:List Int) (o z:Owner),z∈ownersL c last links o→(z.sign=o.sign∧z.firm=o.firm∨z.sign∈links∧z.firm=(c.view.now.signs.getD z.sign.toNat default).to_)∧(z.state=2∨z.state=o.state)
 | [],o,z,h=>by
  simp only [ownersL,List.mem_singleton] at h
  subst h
  exact ⟨.inl ⟨rfl,rfl⟩,.inr rfl⟩
 | l :: r,o,z,h=>by
  simp only [ownersL] at h
  cases h0:owe_court_passes c l last == 0 with
  | true =>
   rw [h0,cond_true,List.mem_singleton] at h
   subst h
   exact ⟨.inl ⟨rfl,rfl⟩,.inr rfl⟩
  | false =>
   rw [h0,cond_false] at h
   have ih:∀ o',o'.sign=l→o'.firm=(c.view.now.signs.getD l.toNat default).to_→(o'.state=2∨o'.state=o.state)→z∈ownersL c last r o'→(z.sign=o.sign∧z.firm=o.firm∨z.sign∈l :: r∧z.firm=(c.view.now.signs.getD z.sign.toNat default).to_)∧(z.state=2∨z.state=o.state):=by
    intro o' e1 e2 e3 hz
    obtain ⟨h1,h2⟩:=ownersL_mem c last r o' z hz
    refine ⟨.inr ?_,?_⟩
    ·rcases h1 with ⟨h1,h3⟩ | ⟨h1,h3⟩
     ·rw [h1,e1]; exact ⟨by simp,by rw [h3,e2]⟩
     ·exact ⟨by simp [h1],h3⟩
    ·rcases h2 with h2 | h2
     ·exact .inl h2
     ·rw [h2]; exact e3
   cases h2:owe_court_passes c l last == 2 with
   | true =>
    rw [h2,cond_true] at h
    rcases List.mem_cons.1 h with rfl | h
    ·exact ⟨.inl ⟨rfl,rfl⟩,.inl rfl⟩
    ·exact ih _ rfl rfl (.inl rfl) h
   | false =>
    rw [h2,cond_false] at h
    exact ih { o with firm:=(c.view.now.signs.getD l.toNat default).to_,sign:=l } rfl rfl (.inr rfl) h
theorem owners_mem {c:Court} {links:List Int} {z:Owner} (h:z∈owe_court_owners_c1 c links):(z.sign = -1∧z.firm=c.view.now.bill.payee∨z.sign∈links∧z.firm=(c.view.now.signs.getD z.sign.toNat default).to_)∧(z.state=1∨z.state=2):=by
 have:=ownersL_mem c _ links _ z h
 exact ⟨this.1,this.2.symm⟩
theorem ownersL_len (c:Court) (last:Int):∀ (links:List Int) (o:Owner),(ownersL c last links o).length≤links.length+1
 | [],o=>by simp [ownersL]
 | l :: r,o=>by
  simp only [ownersL]
  cases owe_court_passes c l last == 0 with
  | true=>simp
  | false =>
   rw [cond_false]
   cases owe_court_passes c l last == 2 with
   | true=>rw [cond_true,List.length_cons,List.length_cons]; have:=ownersL_len c last r { firm:=(c.view.now.signs.getD l.toNat default).to_,sign:=l,state:=2 }; omega
   | false=>rw [cond_false,List.length_cons]; have:=ownersL_len c last r { o with firm:=(c.view.now.signs.getD l.toNat default).to_,sign:=l }; omega
theorem owners_len (c:Court) (links:List Int):(owe_court_owners_c1 c links).length≤links.length+1:=ownersL_len c _ links _
noncomputable def liIs (v:View) (by_:Int) (links l:List Int) (i:Nat):Bool :=
 bif ((v.now.signs.getD i default).kind == 0)||((v.now.signs.getD i default).kind == 1) then true else
 bif (v.now.signs.getD i default).kind == 2 then ((decide (((i:Nat):Int)≤by_))&&((andK .i64 ((v.now.signs.getD i default).flags) 2) == 0))&&slices_Contains links ((i:Nat):Int)
 else slices_Contains l ((v.now.signs.getD i default).for_)
noncomputable def liStep (v:View) (part by_:Int) (links:List Int) (i:Nat) (l:List Int):List Int :=
 bif owe_view_part v ((i:Nat):Int) != part then l else bif liIs v by_ links l i then l++[((i:Nat):Int)] else l
noncomputable def liTo (v:View) (part by_:Int) (links:List Int):Nat→List Int
 | 0=>[]
 | n+1=>liStep v part by_ links n (liTo v part by_ links n)
theorem iter_to {α ι δ:Type} (n:Nat) (h:Nat→α) (pack:α→Nat→ι) {f:ι→δ ⊕ ι} {d:δ} (e:α→δ) (hs:∀ i,i < n→f (pack (h i) i)=.inr (pack (h (i+1)) (i+1))) (he:f (pack (h n) n)=.inl (e (h n))) {m:Nat} (hm:n < m):iter f d m (pack (h 0) 0)=e (h n):=by
 have key:∀ k,k≤n→∀ m,k < m→iter f d m (pack (h (n - k)) (n - k))=e (h n):=by
  intro k
  induction k with
  | zero =>
   intro _ m hm
   obtain ⟨m,rfl⟩:∃ q,m=q+1:=⟨m - 1,by omega⟩
   simp only [iter,Nat.sub_zero,he]
  | succ k ih =>
   intro hk m hm
   obtain ⟨m,rfl⟩:∃ q,m=q+1:=⟨m - 1,by omega⟩
   simp only [iter,hs (n - (k+1)) (by omega)]
   rw [show n - (k+1)+1=n - k by omega]
   exact ih (by omega) m (by omega)
 have:=key n (Nat.le_refl _) m hm
 rwa [Nat.sub_self] at this
theorem liable_eq (v:View) (part by_:Int) (links:List Int):owe_view_liable v part by_ links=bif (by_ != (-1))&&(!(slices_Contains links by_)) then [] else liTo v part by_ links v.now.signs.length:=by
 unfold owe_view_liable owe_view_liable_sk
 dsimp +instances only [Sk.val_bind,Sk.val_loop,Sk.val_bnd,Sk.val_br,Sk.val_r,Sk.val_wi,Sk.val_fin,Ctr.c_v,kk,Cal.andl_v,Cal.wh_v,slices_Contains_k,owe_view_part_k]
 cases (by_ != (-1))&&(!(slices_Contains links by_)) with
 | true=>rfl
 | false =>
  refine congrArg (fun q=>pickS q fun b=>b) (iter_to v.now.signs.length (liTo v part by_ links) (fun s i=>(s,i)) (fun s=>Sum.inr s) (fun i hi=>?_) ?_ (by omega))
  ·dsimp only
   rw [decide_eq_true (by omega),cond_true]
   show _=Sum.inr (liStep v part by_ links i (liTo v part by_ links i),i+1)
   unfold liStep
   cases owe_view_part v ((i:Nat):Int) != part with
   | true=>rfl
   | false =>
    unfold liIs
    rw [cond_false,cond_false]
    cases (v.now.signs.getD i default).kind == 0 with
    | true=>rfl
    | false =>
     cases (v.now.signs.getD i default).kind == 1 with
     | true=>rfl
     | false =>
      cases (v.now.signs.getD i default).kind == 2 with
      | true=>cases ((decide (((i:Nat):Int)≤by_))&&((andK .i64 ((v.now.signs.getD i default).flags) 2) == 0))&&slices_Contains links ((i:Nat):Int) <;> rfl
      | false=>cases slices_Contains (liTo v part by_ links i) ((v.now.signs.getD i default).for_) <;> rfl
  ·dsimp only
   rw [decide_eq_false (by omega),cond_false]
theorem contains_iff (l:List Int) (x:Int):slices_Contains l x=true↔x∈l:=by
 refine Iff.trans (slices_Contains_post l x) ?_
 constructor
 ·rintro ⟨q,hq,e⟩
  rw [← (beq_iff_eq.1 e:l.getD q default=x)]
  exact lget_mem hq _
 ·intro h
  obtain ⟨i,hi,rfl⟩:=List.getElem_of_mem h
  exact ⟨i,hi,by simp [List.getD,hi]⟩
theorem liTo_mem {v:View} {part by_:Int} {links:List Int}:∀ {n:Nat} {y:Int},y∈liTo v part by_ links n→0≤y∧y < n∧owe_view_part v y=part∧liIs v by_ links (liTo v part by_ links y.toNat) y.toNat=true∧∀ z,z∈liTo v part by_ links y.toNat→z∈liTo v part by_ links n
 | 0,y,h=>by cases h
 | n+1,y,h=>by
  have up:∀ z,z∈liTo v part by_ links n→z∈liTo v part by_ links (n+1):=fun z hz=>by
   show z∈liStep v part by_ links n (liTo v part by_ links n)
   unfold liStep
   cases owe_view_part v ((n:Nat):Int) != part with
   | true=>exact hz
   | false =>
    cases liIs v by_ links (liTo v part by_ links n) n with
    | true=>exact List.mem_append_left _ hz
    | false=>exact hz
  have old:y∈liTo v part by_ links n→0≤y∧y < ((n+1:Nat):Int)∧owe_view_part v y=part∧liIs v by_ links (liTo v part by_ links y.toNat) y.toNat=true∧∀ z,z∈liTo v part by_ links y.toNat→z∈liTo v part by_ links (n+1):=fun hy=>by
   have:=liTo_mem hy
   exact ⟨this.1,by omega,this.2.2.1,this.2.2.2.1,fun z hz=>up z (this.2.2.2.2 z hz)⟩
  change y∈liStep v part by_ links n (liTo v part by_ links n) at h
  unfold liStep at h
  cases hp:owe_view_part v ((n:Nat):Int) != part with
  | true=>rw [hp,cond_true] at h; exact old h
  | false =>
   rw [hp,cond_false] at h
   cases hi:liIs v by_ links (liTo v part by_ links n) n with
   | false=>rw [hi,cond_false] at h; exact old h
   | true =>
    rw [hi,cond_true,List.mem_append,List.mem_singleton] at h
    rcases h with h | rfl
    ·exact old h
    ·exact ⟨by omega,by omega,by simpa using hp,by simpa using hi,fun z hz=>up z (by simpa using hz)⟩
theorem liable_mem {v:View} {part by_:Int} {links:List Int} {y:Int} (h:y∈owe_view_liable v part by_ links):(by_ = -1∨by_∈links)∧y∈liTo v part by_ links v.now.signs.length:=by
 rw [liable_eq] at h
 cases hc:(by_ != (-1))&&(!(slices_Contains links by_)) with
 | true=>rw [hc] at h; cases h
 | false =>
  rw [hc,cond_false] at h
  refine ⟨?_,h⟩
  by_cases e:by_ = -1
  ·exact .inl e
  ·refine .inr ((contains_iff links by_).1 ?_)
   have:(by_ != (-1))=true:=by simpa using e
   rw [this,Bool.true_and,Bool.not_eq_eq_eq_not,Bool.not_false] at hc
   exact hc
noncomputable def struckIn (now:File) (i:Int):Bool:=now.acts.any fun a=>a.kind == 7&&a.at_ == i
noncomputable def leadL (now:File):List Int:=((List.range now.signs.length).filter fun i=>((now.signs.getD i default).kind == 2)&&!(struckIn now ((i:Nat):Int))).map fun i=>(now.signs.getD i default).part
theorem mfind_mupd {α:Type} (k k':Int) (v:α):∀ (m:List (Int × α)),mfind (mupd m k v) k'=if k'=k then some v else mfind m k'
 | []=>by
  simp only [mupd,mfind]
  by_cases e:k'=k
  ·subst e; simp
  ·have:(k' == k)=false:=by simpa using e
   rw [this,if_neg e]; rfl
 | p :: r=>by
  have ih:=mfind_mupd k k' v r
  simp only [mupd]
  cases h:k == p.1 with
  | true =>
   have h:=beq_iff_eq.1 h
   simp only [cond_true,mfind]
   by_cases e:k'=k
   ·subst e; rw [← h]; simp
   ·have:(k' == p.1)=false:=by rw [← h]; simpa using e
    rw [this,if_neg e]; rfl
  | false =>
   simp only [cond_false,mfind,ih]
   by_cases e:k'=k
   ·subst e; rw [h]; simp
   ·rw [if_neg e,if_neg e]
theorem gone_loop (acts:List ActX) (p:ActX→Bool) (k:Int) (m:List (Int × Bool)):mget (acts.foldl (fun m a=>bif p a then mupd m a.at_ true else m) m) k false=(acts.any (fun a=>p a&&a.at_ == k)||mget m k false):=by
 induction acts generalizing m with
 | nil=>rfl
 | cons a r ih =>
  rw [List.foldl_cons,ih,List.any_cons]
  cases hp:p a with
  | false=>simp
  | true =>
   simp only [cond_true,Bool.true_and]
   unfold mget
   rw [mfind_mupd]
   by_cases e:k=a.at_
   ·subst e; simp
   ·have:(a.at_ == k)=false:=by simpa using fun h:a.at_=k=>e h.symm
    rw [if_neg e,this,Bool.false_or]
theorem open_eq (f:File) (day:Int):owe_open f day=⟨f,record_At f day,day,bif (((Lib.compact (sortI (leadL (record_At f day)))).length:Nat):Int) == 0 then [0] else Lib.compact (sortI (leadL (record_At f day)))⟩:=by
 unfold owe_open owe_open_sk
 dsimp +instances only [Sk.val_bind,Sk.val_loop,Sk.val_bnd,Sk.val_br,Sk.val_r,Sk.val_wi,Sk.val_wn,Sk.val_fin,Ctr.c_v,kk,Cal.andl_v,Cal.wh_v,CtrS.c_v,CtrH.c_v,record_At_k,slices_Sort_s,slices_Compact_h]
 generalize record_At f day=now
 rw [iter_walk0 now.acts (fun s i=>(i,s)) (fun x (s:List (Int × Bool))=>Sum.inr (bif x.kind == 7 then mupd s x.at_ true else s)) (fun s=>Sum.inr s) (fun s i hi=>?_) (fun s=>?_) (by omega) []]
 ·rw [walk_fold (fun (x:ActX) s=>bif x.kind == 7 then mupd s x.at_ true else s)]
  simp only [pickS_inr]
  have hg:∀ k,mget (now.acts.foldl (fun m a=>bif a.kind == 7 then mupd m a.at_ true else m) []) k false=struckIn now k:=fun k=>by
   rw [gone_loop now.acts (fun a=>a.kind == 7) k []]
   show (_||false)=_
   rw [Bool.or_false]; rfl
  generalize now.acts.foldl (fun m a=>bif a.kind == 7 then mupd m a.at_ true else m) []=m at hg
  refine Eq.trans (congrArg (fun q=>pickS q _) (iter_to now.signs.length (fun n=>((List.range n).filter fun i=>((now.signs.getD i default).kind == 2)&&!(struckIn now ((i:Nat):Int))).map fun i=>(now.signs.getD i default).part) (fun s i=>(i,s)) (fun s=>Sum.inr s) (fun i hi=>?_) ?_ (by omega))) ?_
  rotate_left
  rotate_left
  ·simp only [pickS_inr]
   show (bif (((Lib.compact (sortI (leadL now))).length:Nat):Int) == 0 then View.mk f now day [0] else View.mk f now day (Lib.compact (sortI (leadL now))))=View.mk f now day (bif (((Lib.compact (sortI (leadL now))).length:Nat):Int) == 0 then [0] else Lib.compact (sortI (leadL now)))
   cases (((Lib.compact (sortI (leadL now))).length:Nat):Int) == 0 <;> rfl
  ·dsimp only
   rw [decide_eq_true (by omega),cond_true,hg,List.range_succ,List.filter_append,List.map_append]
   cases hc:((now.signs.getD i default).kind == 2)&&!(struckIn now ((i:Nat):Int)) with
   | true=>rw [List.filter_cons_of_pos (by simpa using hc)]; rfl
   | false=>rw [List.filter_cons_of_neg (by simpa using hc)]; simp
  ·dsimp only
   rw [decide_eq_false (by omega),cond_false]
 ·rw [decide_eq_true (by omega),cond_true]
  cases (now.acts.getD i default).kind == 7 <;> rfl
 ·rw [decide_eq_false (by omega),cond_false]
noncomputable def owe_court_state_sk (c_:Court) (o:Owner) (sign:Int) (links:List Int) (effects:List Effect):Sk (Int × Int) :=
 .r 1 ((owe_view_base_k c_.view sign).c) fun x1 =>
 .r 2 (.andl (.p (ixP sign effects.length)) ((owe_both_k o.state ((effects.getD sign.toNat default).binds)).c)) fun x2 =>
 .r 4 (.p (ixP x1 c_.view.now.signs.length)) fun _ =>
 .br (((c_.view.now.signs.getD x1.toNat default).kind) == 1)
 (.br (!((c_.due != (-1))&&(decide (c_.view.day≥c_.due))))
 (.fin (0,0))
 (.fin (x2,0)))
 (.r 8 ((slices_ContainsFunc_92_k c_.view.now.acts).c) fun x3 =>
 .r 9 (.wh ((!((c_.due != (-1))&&(decide (c_.view.day≥c_.due))))&&(!x3)) false (.p (ixP x1 effects.length))) fun _ =>
 .br (((!((c_.due != (-1))&&(decide (c_.view.day≥c_.due))))&&(!x3))||(!((effects.getD x1.toNat default).recourse)))
 (.fin (0,0))
 (.bind true (fun _=>True)
 (.loop (default:Sum (Int × Int) (Int × Int)) (fun i5=>i5.2.2≤links.length) (fun i5=>links.length - i5.2.2) ((0,1,0):Int × Int × Nat)
 (fun (i5:Int × Int × Nat)=>⟨[(16,iv i5.1),(17,iv i5.2.1),(76,iv (i5.2.2:Int))],[]⟩) fun i5 =>
 .bnd 3 0 links.length <|
 .br (decide ((i5.2.2:Int) < ((links.length:Nat):Int)))
 (.r 14 (.p (ixP (i5.2.2:Int) links.length)) fun _ =>
 .bind false (fun _=>True)
 (.br (decide ((links.getD i5.2.2 default)≤o.sign))
 (.fin (.inr (w64 (i5.2.1+1))))
 (.fin (.inr i5.2.1)))
 (fun (b6:Int)=>⟨[(17,iv b6)],[]⟩) fun b6 =>
 .br ((decide ((links.getD i5.2.2 default)≤o.sign))&&(decide ((links.getD i5.2.2 default)≥x1)))
 (.r 19 .z fun _ =>
 .wi 76 (w64 ((i5.2.2:Int)+1)) ((i5.2.2+1:Nat):Int) <|
 .fin (.inr (w64 (i5.1+1),b6,i5.2.2+1)))
 (.r 19 .z fun _ =>
 .wi 76 (w64 ((i5.2.2:Int)+1)) ((i5.2.2+1:Nat):Int) <|
 .fin (.inr (i5.1,b6,i5.2.2+1))))
 (.fin (.inl (.inr (i5.1,i5.2.1)))))
 (fun (b4:Int × Int)=>⟨[(16,iv b4.1),(17,iv b4.2)],[]⟩) fun b4 =>
 .r 20 ((slices_Contains_k links x1).c) fun x7 =>
 .bind false (fun _=>True)
 (.br (!x7)
 (.fin (.inr b4.2))
 (.fin (.inr b4.1)))
 (fun (b8:Int)=>⟨[(16,iv b8)],[]⟩) fun b8 =>
 .r 22 (.dep ((diligence_Kept_k c_.r c_.forum c_.view.all x1 c_.view.day).c) fun x9=>(owe_both_k x2 x9.all).c) fun p11 =>
 .fin (p11.2,b8)))
noncomputable def owe_court_state (c_:Court) (o:Owner) (sign:Int) (links:List Int) (effects:List Effect):Int × Int:=(owe_court_state_sk c_ o sign links effects).val
theorem owe_court_state_ok (c_:Court) (o:Owner) (sign:Int) (links:List Int) (effects:List Effect) (he:effects.length=c_.view.now.signs.length) (hs:0≤sign∧sign < (c_.view.now.signs.length:Int)) (hc:c_.view.now=record_At c_.view.all c_.view.day) (hF:RightF c_.r c_.view.all) (h_c__view_BaseOK:c_.view.BaseOK) (h_c__view_all_Small:c_.view.all.Small) (h_c__r_ByOK:c_.r.ByOK) (h_c__r_Small:c_.r.Small):(owe_court_state_sk c_ o sign links effects).obs (fun _=>True):=by
 unfold owe_court_state_sk
 try simp only [diligence_Kept_k,owe_both_k,owe_view_base_k,slices_ContainsFunc_92_k,slices_Contains_k]
 exact okD
noncomputable def owe_court_state_k (c_:Court) (o:Owner) (sign:Int) (links:List Int) (effects:List Effect):Ctr (Int × Int):=kk tok mixed Tryz.func40 [av c_.cells,av o.cells,iv sign,lv intC links,lv Effect.cells effects] (fun x=>.tup [iv x.1,iv x.2]) true (owe_court_state_sk c_ o sign links effects) (owe_court_state c_ o sign links effects) (fun (h:(effects.length=c_.view.now.signs.length)∧(0≤sign∧sign < (c_.view.now.signs.length:Int))∧(c_.view.now=record_At c_.view.all c_.view.day)∧(RightF c_.r c_.view.all)∧(c_.view.BaseOK)∧(c_.view.all.Small)∧(c_.r.ByOK)∧(c_.r.Small))=>owe_court_state_ok c_ o sign links effects h.1 h.2.1 h.2.2.1 h.2.2.2.1 h.2.2.2.2.1 h.2.2.2.2.2.1 h.2.2.2.2.2.2.1 h.2.2.2.2.2.2.2)
structure Owed where
 sum:Int
 interest:Int
 costs:Int
 exchange:Int
 paid:Int
 rest:Int
 currency:Int
 deriving Inhabited
def Owed.cells (c:Owed):List D:=[dI c.sum,dI c.interest,dI c.costs,dI c.exchange,dI c.paid,dI c.rest,dI c.currency]
def Owed.E:Enc Owed:=⟨Owed.cells,7,fun _=>rfl,fun _=>rfl⟩
noncomputable def bind_Effect_sk (r:Realm) (forum:Int) (f:File) (sign:Int) (day:Int):Sk (Effect × Bool) :=
 .r 1 ((bind_open_k r forum f day).c) fun x1 =>
 .br ((decide (sign < 0))||(decide (sign≥((x1.f.signs.length:Nat):Int))))
 (.fin (({ sign:=0,kind:=0,firm:=0,binds:=0,text:=0,sum:=0,recourse:=false }:Effect),false))
 (.r 4 ((bind_view_effect_k x1 sign).c) fun x2 =>
 .fin (x2,true))
noncomputable def bind_Effect (r:Realm) (forum:Int) (f:File) (sign:Int) (day:Int):Effect × Bool:=(bind_Effect_sk r forum f sign day).val
theorem bind_Effect_pst (r:Realm) (forum:Int) (f:File) (sign:Int) (day:Int) (hP:f.SumOK∧f.Small):(bind_Effect_sk r forum f sign day).pst (fun (x:Effect × Bool)=>0≤x.1.sum∧x.1.sum≤1099511627776):=by
 refine Sk.pst_of _ ?_
 unfold bind_Effect_sk
 simp only [Sk.pstq,Sk.isLoop,reduceCtorEq,ON,kk,bind_open_k,bind_view_effect_k,maxLen]
 intro x _ hx
 refine ⟨fun _=>⟨by decide,by decide⟩,fun hc y _ hy=>hy ⟨by rw [hx.1]; exact At_sums hP.1 day,by rw [hx.1]; exact At_small hP.2 day,?_⟩⟩
 simp only [LN] at hc
 omega
theorem bind_Effect_post (r:Realm) (forum:Int) (f:File) (sign:Int) (day:Int):(fun (x:Effect × Bool)=>(f.SumOK∧f.Small)→(0≤x.1.sum∧x.1.sum≤1099511627776)) (bind_Effect r forum f sign day):=fun hP=>Sk.pval _ (bind_Effect_pst r forum f sign day hP)
theorem bind_Effect_ok (r:Realm) (forum:Int) (f:File) (sign:Int) (day:Int) (h_f_Small:f.Small) (h_r_ByOK:r.ByOK) (h_r_Small:r.Small):(bind_Effect_sk r forum f sign day).obs (fun _=>True):=by
 refine Sk.obs_of _ ?_
 unfold bind_Effect_sk
 simp only [Sk.obq,Sk.isLoop,reduceCtorEq,ON,kk,bind_open_k,bind_view_effect_k,maxLen]
 refine ⟨⟨h_f_Small,h_r_ByOK,h_r_Small⟩,fun x _ hx hc=>?_⟩
 have hS:x.f.Small:=by rw [hx.1]; exact At_small h_f_Small day
 have hB:x.r.ByOK:=by rw [hx.2]; exact h_r_ByOK
 have hR:x.r.Small:=by rw [hx.2]; exact h_r_Small
 simp only [LN] at hc
 exact ⟨by omega,hS,hB,hR⟩
noncomputable def bind_Effect_k (r:Realm) (forum:Int) (f:File) (sign:Int) (day:Int):Ctr (Effect × Bool):=kk tok mixed Tryz.func94 [av r.cells,iv forum,av f.cells,iv sign,iv day] (fun x=>.tup [av x.1.cells,bv x.2]) true (bind_Effect_sk r forum f sign day) (bind_Effect r forum f sign day) (fun (h:(f.Small)∧(r.ByOK)∧(r.Small))=>bind_Effect_ok r forum f sign day h.1 h.2.1 h.2.2) (fun (x:Effect × Bool)=>(f.SumOK∧f.Small)→(0≤x.1.sum∧x.1.sum≤1099511627776)) (bind_Effect_post r forum f sign day)
noncomputable def money_Interest_sk (sum:Int) (permille:Int) (from_:Int) (to_:Int) (basis:Int):Sk (Int × Int) :=
 .r 1 (.dep ((money_within_k sum 1099511627776).c) fun x1=>.dep (.wh (!x1) false ((money_within_k permille 1000).c)) fun x2=>.dep (.wh ((!x1)||(!x2)) false ((money_within_k from_ 100000).c)) fun x3=>.wh (((!x1)||(!x2))||(!x3)) false ((money_within_k to_ 100000).c)) fun p6 =>
 .br ((((((!p6.1)||(!p6.2.1))||(!p6.2.2.1))||(!p6.2.2.2))||(decide (to_ < from_)))||((basis != 360)&&(basis != 365)))
 (.fin (0,1))
 (.r 3 ((money_part_k sum (w64 (permille * (w64 (to_ - from_)))) (w64 ((1000:Int) * basis))).c) fun x5 =>
 .br (!x5.2.2)
 (.fin (0,3))
 (.fin (x5.1,0)))
noncomputable def money_Interest (sum:Int) (permille:Int) (from_:Int) (to_:Int) (basis:Int):Int × Int:=(money_Interest_sk sum permille from_ to_ basis).val
theorem money_Interest_pst (sum:Int) (permille:Int) (from_:Int) (to_:Int) (basis:Int):(money_Interest_sk sum permille from_ to_ basis).pst (fun (x:Int × Int)=>0≤x.1∧x.1≤1099511627776):=by
 refine Sk.pst_of _ ?_
 unfold money_Interest_sk
 simp only [Sk.pstq,Sk.isLoop,reduceCtorEq,ON,kk,money_part_k,money_within_k,money_within_eq,forall_eq,maxLen]
 refine ⟨fun _=>⟨by decide,by decide⟩,fun hc h=>⟨fun _=>⟨by decide,by decide⟩,fun hc2=>?_⟩⟩
 simp only [LN] at hc hc2
 have hp0:0≤permille * (to_ - from_):=Int.mul_nonneg (by omega) (by omega)
 have hp1:permille * (to_ - from_)≤1000 * (to_ - from_):=Int.mul_le_mul_of_nonneg_right (by omega) (by omega)
 rw [w64_id (n:=to_ - from_) (by omega) (by omega),w64_id (n:=permille * (to_ - from_)) (by omega) (by omega),w64_id (n:=1000 * basis) (by omega) (by omega)] at h hc2 ⊢
 exact (h ⟨by omega,by omega,by omega⟩ hc2).1
theorem money_Interest_post (sum:Int) (permille:Int) (from_:Int) (to_:Int) (basis:Int):(fun (x:Int × Int)=>0≤x.1∧x.1≤1099511627776) (money_Interest sum permille from_ to_ basis):=have h:=Sk.pval _ (money_Interest_pst sum permille from_ to_ basis); h
theorem money_Interest_ok (sum:Int) (permille:Int) (from_:Int) (to_:Int) (basis:Int):(money_Interest_sk sum permille from_ to_ basis).obs (fun _=>True):=by
 unfold money_Interest_sk
 try simp only [money_part_k,money_within_k,money_within_eq]
 exact okG
noncomputable def money_Interest_k (sum:Int) (permille:Int) (from_:Int) (to_:Int) (basis:Int):Ctr (Int × Int):=kk tok mixed Tryz.func170 [iv sum,iv permille,iv from_,iv to_,iv basis] (fun x=>.tup [iv x.1,iv x.2]) true (money_Interest_sk sum permille from_ to_ basis) (money_Interest sum permille from_ to_ basis) (fun (_:True)=>money_Interest_ok sum permille from_ to_ basis) (fun (x:Int × Int)=>0≤x.1∧x.1≤1099511627776) (money_Interest_post sum permille from_ to_ basis)
noncomputable def amount_interest_sk (sum:Int) (rate:Int) (from_:Int) (to_:Int):Sk (Int) :=
 .r 1 ((money_Interest_k sum rate from_ to_ 360).c) fun x1 =>
 .br (x1.2 == 3)
 (.fin 1099511627776)
 (.fin x1.1)
noncomputable def amount_interest (sum:Int) (rate:Int) (from_:Int) (to_:Int):Int:=(amount_interest_sk sum rate from_ to_).val
theorem amount_interest_pst (sum:Int) (rate:Int) (from_:Int) (to_:Int):(amount_interest_sk sum rate from_ to_).pst (fun (x:Int)=>0≤x∧x≤1099511627776):=by
 unfold amount_interest_sk
 try simp only [money_Interest_k]
 exact okP
theorem amount_interest_post (sum:Int) (rate:Int) (from_:Int) (to_:Int):(fun (x:Int)=>0≤x∧x≤1099511627776) (amount_interest sum rate from_ to_):=have h:=Sk.pval _ (amount_interest_pst sum rate from_ to_); h
theorem amount_interest_ok (sum:Int) (rate:Int) (from_:Int) (to_:Int):(amount_interest_sk sum rate from_ to_).obs (fun _=>True):=by
 unfold amount_interest_sk
 try simp only [money_Interest_k]
 exact okE
noncomputable def amount_interest_k (sum:Int) (rate:Int) (from_:Int) (to_:Int):Ctr (Int):=kk tok mixed Tryz.func97 [iv sum,iv rate,iv from_,iv to_] (fun x=>iv x) true (amount_interest_sk sum rate from_ to_) (amount_interest sum rate from_ to_) (fun (_:True)=>amount_interest_ok sum rate from_ to_) (fun (x:Int)=>0≤x∧x≤1099511627776) (amount_interest_post sum rate from_ to_)
structure Ratio where
 num:Int
 den:Int
 deriving Inhabited
def Ratio.cells (c:Ratio):List D:=[dI c.num,dI c.den]
def Ratio.E:Enc Ratio:=⟨Ratio.cells,2,fun _=>rfl,fun _=>rfl⟩
noncomputable def amount_pair_sk (rates:List RateX) (from_:Int) (to_:Int) (day:Int):Sk (Int) :=
 .bind true (fun b1=>b1 = -1∨(0≤b1∧b1 < (rates.length:Int)))
 (.loop (default:Sum (Int) (Int)) (fun i2=>i2.2≤rates.length∧(i2.1 = -1∨(0≤i2.1∧i2.1 < (rates.length:Int)))) (fun i2=>rates.length - i2.2) (((-1),0):Int × Nat)
 (fun (i2:Int × Nat)=>⟨[(9,iv i2.1),(14,iv (i2.2:Int))],[]⟩) fun i2 =>
 .bnd 0 0 rates.length <|
 .br (decide ((i2.2:Int) < ((rates.length:Nat):Int)))
 (.r 4 (.p (ixP (i2.2:Int) rates.length)) fun _ =>
 .r 5 (.wh (((((rates.getD i2.2 default).from_) == from_)&&(((rates.getD i2.2 default).to_) == to_))&&(decide (((rates.getD i2.2 default).since)≤day))) true (.wh (decide (i2.1 < 0)) false (.p (ixP i2.1 rates.length)))) fun _ =>
 .br ((((((rates.getD i2.2 default).from_) == from_)&&(((rates.getD i2.2 default).to_) == to_))&&(decide (((rates.getD i2.2 default).since)≤day)))&&((decide (i2.1 < 0))||(decide (((rates.getD i2.2 default).since) > ((rates.getD i2.1.toNat default).since)))))
 (.r 7 .z fun _ =>
 .wi 14 (w64 ((i2.2:Int)+1)) ((i2.2+1:Nat):Int) <|
 .fin (.inr ((i2.2:Int),i2.2+1)))
 (.r 7 .z fun _ =>
 .wi 14 (w64 ((i2.2:Int)+1)) ((i2.2+1:Nat):Int) <|
 .fin (.inr (i2.1,i2.2+1))))
 (.fin (.inl (.inr i2.1))))
 (fun (b1:Int)=>⟨[(9,iv b1)],[]⟩) fun b1 =>
 .fin b1
noncomputable def amount_pair (rates:List RateX) (from_:Int) (to_:Int) (day:Int):Int:=(amount_pair_sk rates from_ to_ day).val
theorem amount_pair_pst (rates:List RateX) (from_:Int) (to_:Int) (day:Int):(amount_pair_sk rates from_ to_ day).pst (fun (x:Int)=>x = -1∨(0≤x∧x < (rates.length:Int))):=by
 unfold amount_pair_sk
 exact okP
theorem amount_pair_post (rates:List RateX) (from_:Int) (to_:Int) (day:Int):(fun (x:Int)=>x = -1∨(0≤x∧x < (rates.length:Int))) (amount_pair rates from_ to_ day):=have h:=Sk.pval _ (amount_pair_pst rates from_ to_ day); h
theorem amount_pair_ok (rates:List RateX) (from_:Int) (to_:Int) (day:Int):(amount_pair_sk rates from_ to_ day).obs (fun _=>True):=by
 unfold amount_pair_sk
 exact okD
noncomputable def amount_pair_k (rates:List RateX) (from_:Int) (to_:Int) (day:Int):Ctr (Int):=kk tok mixed Tryz.func224 [lv RateX.cells rates,iv from_,iv to_,iv day] (fun x=>iv x) true (amount_pair_sk rates from_ to_ day) (amount_pair rates from_ to_ day) (fun (_:True)=>amount_pair_ok rates from_ to_ day) (fun (x:Int)=>x = -1∨(0≤x∧x < (rates.length:Int))) (amount_pair_post rates from_ to_ day)
noncomputable def ratio_abs_sk (n:Int):Sk (Int) :=
 .br (decide (n < 0))
 (.fin (IntKind.u64.wrap (0 - (IntKind.u64.wrap (n)))))
 (.fin (IntKind.u64.wrap (n)))
noncomputable def ratio_abs (n:Int):Int:=(ratio_abs_sk n).val
theorem ratio_abs_pst (n:Int):(ratio_abs_sk n).pst (fun (x:Int)=>0≤x∧x < 18446744073709551616∧(0≤n→n≤9223372036854775807→x=n)):=by
 refine Sk.pst_of _ ?_
 unfold ratio_abs_sk
 simp only [Sk.pstq,Sk.isLoop,reduceCtorEq,ON,kk,maxLen]
 refine ⟨fun hc=>⟨(u64_rng _).1,(u64_rng _).2,fun h=>?_⟩,fun _=>⟨(u64_rng _).1,(u64_rng _).2,fun h1 h2=>u64_id h1 (by omega)⟩⟩
 simp only [LN] at hc
 omega
theorem ratio_abs_post (n:Int):(fun (x:Int)=>0≤x∧x < 18446744073709551616∧(0≤n→n≤9223372036854775807→x=n)) (ratio_abs n):=have h:=Sk.pval _ (ratio_abs_pst n); h
theorem ratio_abs_ok (n:Int):(ratio_abs_sk n).obs (fun _=>True):=by
 unfold ratio_abs_sk
 exact okE
noncomputable def ratio_abs_k (n:Int):Ctr (Int):=kk tok mixed Tryz.func259 [iv n] (fun x=>.d (.v (.int .u64 x))) true (ratio_abs_sk n) (ratio_abs n) (fun (_:True)=>ratio_abs_ok n) (fun (x:Int)=>0≤x∧x < 18446744073709551616∧(0≤n→n≤9223372036854775807→x=n)) (ratio_abs_post n)
theorem gcd_step {p q:Int} (hp:0≤p) (hq:0≤q):q.gcd (p.tmod q)=p.gcd q:=by
 obtain ⟨p,rfl⟩:=Int.eq_ofNat_of_zero_le hp
 obtain ⟨q,rfl⟩:=Int.eq_ofNat_of_zero_le hq
 rw [Int.tmod_eq_emod_of_nonneg (by omega),← Int.natCast_emod,Int.gcd_natCast_natCast,Int.gcd_natCast_natCast,Nat.gcd_comm q,Nat.gcd_comm p q,Nat.gcd_rec q p]
theorem gcd_round {i:Int × Int} {a b:Int} (hi:0≤i.1∧0≤i.2∧Int.gcd i.1 i.2=Int.gcd a b) (h:i.2≠0):(0≤i.2∧0≤i.1.tmod i.2∧Int.gcd i.2 (i.1.tmod i.2)=Int.gcd a b)∧(i.1.tmod i.2).toNat < i.2.toNat:=by
 have h1:=Int.tmod_nonneg i.2 hi.1
 have h2:=Int.tmod_lt_of_pos i.1 (b:=i.2) (by omega)
 exact ⟨⟨hi.2.1,h1,(gcd_step hi.1 hi.2.1).trans hi.2.2⟩,by omega⟩
theorem gcd_end {i:Int × Int} {a b:Int} (hi:0≤i.1∧0≤i.2∧Int.gcd i.1 i.2=Int.gcd a b) (h:i.2=0):i.1=(Int.gcd a b:Int):=by
 rw [← hi.2.2,h]
 have:=hi.1
 simp [Int.gcd_zero_right]
 omega
theorem quot_rng {n:Int} {g:Int} (hn:1≤n∧n≤1073741824) (hg:0 < g) (hd:g∣n):1≤IntKind.u64.wrap (n.tdiv g)∧IntKind.u64.wrap (n.tdiv g)≤1073741824:=by
 have e:n.tdiv g=n / g:=Int.tdiv_eq_ediv_of_nonneg (by omega)
 have h1:g≤n:=Int.le_of_dvd (by omega) hd
 have h2:1≤n / g:=(Int.le_ediv_iff_mul_le hg).2 (by omega)
 have h3:n / g≤n:=Int.ediv_le_self _ (by omega)
 rw [e,u64_id (by omega) (by omega)]
 omega
noncomputable def ratio_gcd_sk (a:Int) (b:Int):Sk (Int) :=
 .bind true (fun b1=>b1=(Int.gcd a b:Int))
 (.loop (default:Sum (Int) (Int)) (fun i2=>0≤i2.1∧0≤i2.2∧Int.gcd i2.1 i2.2=Int.gcd a b) (fun i2=>i2.2.toNat) ((a,b):Int × Int)
 (fun (i2:Int × Int)=>⟨[(0,.d (.v (.int .u64 i2.1))),(1,.d (.v (.int .u64 i2.2)))],[]⟩) fun i2 =>
 .br (i2.2 != 0)
 (.r 2 (.p (i2.2≠0)) fun _ =>
 .fin (.inr (i2.2,i2.1.tmod i2.2)))
 (.fin (.inl (.inr i2.1))))
 (fun (b1:Int)=>⟨[(0,.d (.v (.int .u64 b1)))],[]⟩) fun b1 =>
 .fin b1
noncomputable def ratio_gcd (a:Int) (b:Int):Int:=(ratio_gcd_sk a b).val
theorem ratio_gcd_pst (a:Int) (b:Int) (hP:0≤a∧0≤b):(ratio_gcd_sk a b).pst (fun (x:Int)=>x=(Int.gcd a b:Int)):=by
 refine Sk.pst_of _ ?_
 unfold ratio_gcd_sk
 simp only [Sk.pstq,Sk.isLoop,reduceCtorEq,ON,kk,maxLen]
 exact ⟨⟨hP,fun i hi=>⟨fun hc _=>gcd_round hi (by simpa using hc),fun hc=>gcd_end hi (by simpa using hc)⟩⟩,fun b hb=>hb⟩
theorem ratio_gcd_post (a:Int) (b:Int):(fun (x:Int)=>(0≤a∧0≤b)→(x=(Int.gcd a b:Int))) (ratio_gcd a b):=fun hP=>Sk.pval _ (ratio_gcd_pst a b hP)
theorem ratio_gcd_ok (a:Int) (b:Int) (ha:0≤a∧0≤b):(ratio_gcd_sk a b).obs (fun _=>True):=by
 refine Sk.obs_of _ ?_
 unfold ratio_gcd_sk
 simp only [Sk.obq,Sk.isLoop,reduceCtorEq,ON,kk,maxLen]
 exact ⟨ha,fun i hi=>⟨fun hc=>⟨by simpa using hc,fun _=>gcd_round hi (by simpa using hc)⟩,fun hc=>gcd_end hi (by simpa using hc)⟩⟩
noncomputable def ratio_gcd_k (a:Int) (b:Int):Ctr (Int):=kk tok mixed Tryz.func260 [.d (.v (.int .u64 a)),.d (.v (.int .u64 b))] (fun x=>.d (.v (.int .u64 x))) true (ratio_gcd_sk a b) (ratio_gcd a b) (fun (h:(0≤a∧0≤b))=>ratio_gcd_ok a b h) (fun (x:Int)=>(0≤a∧0≤b)→(x=(Int.gcd a b:Int))) (ratio_gcd_post a b)
structure Wide where
 hi:Int
 lo:Int
 deriving Inhabited
def Wide.cells (c:Wide):List D:=[.v (.int .u64 c.hi),.v (.int .u64 c.lo)]
def Wide.E:Enc Wide:=⟨Wide.cells,2,fun _=>rfl,fun _=>rfl⟩
noncomputable def ratio_give_sk (negative:Bool) (num:Wide) (den:Wide):Sk (Ratio × Int) :=
 .br ((((decide (num.hi > 0))||(decide (den.hi > 0)))||(decide (num.lo > 1152921504606846976)))||(decide (den.lo > 1152921504606846976)))
 (.fin (({ num:=0,den:=0 }:Ratio),3))
 (.br negative
 (.fin (({ num:=w64 (0 - (w64 (num.lo))),den:=w64 (den.lo) }:Ratio),0))
 (.fin (({ num:=w64 (num.lo),den:=w64 (den.lo) }:Ratio),0)))
noncomputable def ratio_give (negative:Bool) (num:Wide) (den:Wide):Ratio × Int:=(ratio_give_sk negative num den).val
theorem ratio_give_pst (negative:Bool) (num:Wide) (den:Wide) (hP:num.hi=0∧den.hi=0∧negative=false∧(1≤num.lo∧num.lo≤1073741824)∧1≤den.lo∧den.lo≤1073741824):(ratio_give_sk negative num den).pst (fun (x:Ratio × Int)=>x.1.num=num.lo∧x.1.den=den.lo):=by
 unfold ratio_give_sk
 exact okP
theorem ratio_give_post (negative:Bool) (num:Wide) (den:Wide):(fun (x:Ratio × Int)=>(num.hi=0∧den.hi=0∧negative=false∧(1≤num.lo∧num.lo≤1073741824)∧1≤den.lo∧den.lo≤1073741824)→(x.1.num=num.lo∧x.1.den=den.lo)) (ratio_give negative num den):=fun hP=>Sk.pval _ (ratio_give_pst negative num den hP)
theorem ratio_give_ok (negative:Bool) (num:Wide) (den:Wide):(ratio_give_sk negative num den).obs (fun _=>True):=by
 unfold ratio_give_sk
 exact okE
noncomputable def ratio_give_k (negative:Bool) (num:Wide) (den:Wide):Ctr (Ratio × Int):=kk tok mixed Tryz.func261 [bv negative,av num.cells,av den.cells] (fun x=>.tup [av x.1.cells,iv x.2]) true (ratio_give_sk negative num den) (ratio_give negative num den) (fun (_:True)=>ratio_give_ok negative num den) (fun (x:Ratio × Int)=>(num.hi=0∧den.hi=0∧negative=false∧(1≤num.lo∧num.lo≤1073741824)∧1≤den.lo∧den.lo≤1073741824)→(x.1.num=num.lo∧x.1.den=den.lo)) (ratio_give_post negative num den)
noncomputable def ratio_Make_sk (num:Int) (den:Int):Sk (Ratio × Int) :=
 .br (den == 0)
 (.fin (({ num:=0,den:=0 }:Ratio),1))
 (.r 3 (.dep ((ratio_abs_k num).c) fun _=>(ratio_abs_k den).c) fun p5 =>
 .r 4 ((ratio_gcd_k p5.1 p5.2).c) fun x3 =>
 .r 5 (.andl (.p (x3≠0)) (.andl (.p (x3≠0)) ((ratio_give_k (!((decide (num < 0)) == (decide (den < 0)))) ({ hi:=0,lo:=IntKind.u64.wrap (p5.1.tdiv x3) }:Wide) ({ hi:=0,lo:=IntKind.u64.wrap (p5.2.tdiv x3) }:Wide)).c))) fun x4 =>
 .fin (x4.1,x4.2))
noncomputable def ratio_Make (num:Int) (den:Int):Ratio × Int:=(ratio_Make_sk num den).val
theorem ratio_Make_pst (num:Int) (den:Int):(ratio_Make_sk num den).pst (fun (x:Ratio × Int)=>(den=0→x.2=1)∧((1≤num∧num≤1073741824)∧1≤den∧den≤1073741824→(1≤x.1.num∧x.1.num≤1073741824)∧1≤x.1.den∧x.1.den≤1073741824)):=by
 refine Sk.pst_of _ ?_
 unfold ratio_Make_sk
 simp only [Sk.pstq,Sk.isLoop,reduceCtorEq,ON,kk,ratio_abs_k,ratio_gcd_k,ratio_give_k,maxLen]
 refine ⟨fun hc h=>?_,fun hc x _ hx y _ hy z _ hz=>⟨fun h=>?_,fun h=>?_⟩⟩
 all_goals simp only [LN] at hc
 ·omega
 ·omega
 ·have e1:=hx.1.2.2 (by omega) (by omega)
  have e2:=hx.2.2.2 (by omega) (by omega)
  have hg:=hy ⟨hx.1.1,hx.2.1⟩
  rw [e1,e2] at hg hz
  have hpos:0 < y:=by
   rw [hg]
   have:=Int.gcd_pos_of_ne_zero_left (a:=num) den (by omega)
   omega
  have q1:=quot_rng h.1 hpos (by rw [hg]; exact Int.gcd_dvd_left ..)
  have q2:=quot_rng h.2 hpos (by rw [hg]; exact Int.gcd_dvd_right ..)
  have hneg:(!decide (num < 0) == decide (den < 0))=false:=by
   rw [decide_eq_false (by omega),decide_eq_false (by omega)]; rfl
  have:=hz ⟨hneg,q1,q2⟩
  omega
theorem ratio_Make_post (num:Int) (den:Int):(fun (x:Ratio × Int)=>(den=0→x.2=1)∧((1≤num∧num≤1073741824)∧1≤den∧den≤1073741824→(1≤x.1.num∧x.1.num≤1073741824)∧1≤x.1.den∧x.1.den≤1073741824)) (ratio_Make num den):=have h:=Sk.pval _ (ratio_Make_pst num den); h
theorem ratio_Make_ok (num:Int) (den:Int) (hd:(0≤num∧num≤1073741824)∧0≤den∧den≤1073741824):(ratio_Make_sk num den).obs (fun _=>True):=by
 refine Sk.obs_of _ ?_
 unfold ratio_Make_sk
 simp only [Sk.obq,Sk.isLoop,reduceCtorEq,ON,kk,ratio_abs_k,ratio_gcd_k,ratio_give_k,maxLen]
 intro hc x _ hx
 refine ⟨⟨hx.1.1,hx.2.1⟩,fun y _ hy=>?_⟩
 simp only [LN] at hc
 have hg:=hy ⟨hx.1.1,hx.2.1⟩
 have e2:=hx.2.2.2 (by omega) (by omega)
 have:=Int.gcd_pos_of_ne_zero_right x.1 (b:=x.2) (by omega)
 omega
noncomputable def ratio_Make_k (num:Int) (den:Int):Ctr (Ratio × Int):=kk tok mixed Tryz.func225 [iv num,iv den] (fun x=>.tup [av x.1.cells,iv x.2]) true (ratio_Make_sk num den) (ratio_Make num den) (fun (h:((0≤num∧num≤1073741824)∧0≤den∧den≤1073741824))=>ratio_Make_ok num den h) (fun (x:Ratio × Int)=>(den=0→x.2=1)∧((1≤num∧num≤1073741824)∧1≤den∧den≤1073741824→(1≤x.1.num∧x.1.num≤1073741824)∧1≤x.1.den∧x.1.den≤1073741824)) (ratio_Make_post num den)
noncomputable def amount_Rate_sk (r:Realm) (from_:Int) (to_:Int) (day:Int):Sk (Ratio × Bool) :=
 .r 2 ((amount_pair_k r.rates from_ to_ day).c) fun x1 =>
 .bind false (fun b2=>r.RateOK→(b2.1=0∧b2.2=0)∨((1≤b2.1∧b2.1≤1073741824)∧1≤b2.2∧b2.2≤1073741824))
 (.br (decide (x1≥0))
 (.r 4 (.andl (.p (ixP x1 r.rates.length)) (.p (ixP x1 r.rates.length))) fun _ =>
 .fin (.inr ((r.rates.getD x1.toNat default).num,(r.rates.getD x1.toNat default).den)))
 (.r 5 ((amount_pair_k r.rates to_ from_ day).c) fun x3 =>
 .br (decide (x3≥0))
 (.r 7 (.andl (.p (ixP x3 r.rates.length)) (.p (ixP x3 r.rates.length))) fun _ =>
 .fin (.inr ((r.rates.getD x3.toNat default).den,(r.rates.getD x3.toNat default).num)))
 (.fin (.inr (0,0)))))
 (fun (b2:Int × Int)=>⟨[(10,iv b2.1),(11,iv b2.2)],[]⟩) fun b2 =>
 .r 8 ((ratio_Make_k b2.1 b2.2).c) fun x4 =>
 .fin (x4.1,x4.2 == 0)
noncomputable def amount_Rate (r:Realm) (from_:Int) (to_:Int) (day:Int):Ratio × Bool:=(amount_Rate_sk r from_ to_ day).val
theorem amount_Rate_pst (r:Realm) (from_:Int) (to_:Int) (day:Int) (hP:r.RateOK):(amount_Rate_sk r from_ to_ day).pst (fun (x:Ratio × Bool)=>x.2=true→(1≤x.1.num∧x.1.num≤1073741824)∧1≤x.1.den∧x.1.den≤1073741824):=by
 refine Sk.pst_of _ ?_
 unfold amount_Rate_sk
 simp only [Sk.pstq,Sk.isLoop,reduceCtorEq,ON,kk,amount_pair_k,ratio_Make_k,maxLen]
 intro x _ hx
 refine ⟨⟨fun hc _ hR=>?_,fun hc y _ hy=>⟨fun hc2 _ hR=>?_,fun _ _=>.inl trivial⟩⟩,fun b _ hb z _ hz h0=>?_⟩
 ·simp only [LN] at hc
  exact .inr (hR x.toNat (by omega))
 ·simp only [LN] at hc2
  exact .inr ⟨(hR y.toNat (by omega)).2,(hR y.toNat (by omega)).1⟩
 ·rcases hb hP with h | h
  ·have:=hz.1 h.2
   rw [this] at h0
   exact absurd h0 (by decide)
  ·exact hz.2 h
theorem amount_Rate_post (r:Realm) (from_:Int) (to_:Int) (day:Int):(fun (x:Ratio × Bool)=>(r.RateOK)→(x.2=true→(1≤x.1.num∧x.1.num≤1073741824)∧1≤x.1.den∧x.1.den≤1073741824)) (amount_Rate r from_ to_ day):=fun hP=>Sk.pval _ (amount_Rate_pst r from_ to_ day hP)
theorem amount_Rate_ok (r:Realm) (from_:Int) (to_:Int) (day:Int) (hra:r.RateOK):(amount_Rate_sk r from_ to_ day).obs (fun _=>True):=by
 refine Sk.obs_of _ ?_
 unfold amount_Rate_sk
 simp only [Sk.obq,Sk.isLoop,reduceCtorEq,ON,kk,amount_pair_k,ratio_Make_k,maxLen]
 intro x _ hx
 refine ⟨⟨fun hc=>⟨?_,fun _ hR=>?_⟩,fun hc y _ hy=>⟨fun hc2=>⟨?_,fun _ hR=>?_⟩,fun _ _=>.inl trivial⟩⟩,fun b _ hb=>?_⟩
 ·simp only [LN] at hc; omega
 ·simp only [LN] at hc
  exact .inr (hR x.toNat (by omega))
 ·simp only [LN] at hc2; omega
 ·simp only [LN] at hc2
  exact .inr ⟨(hR y.toNat (by omega)).2,(hR y.toNat (by omega)).1⟩
 ·rcases hb hra with h | h <;> omega
noncomputable def amount_Rate_k (r:Realm) (from_:Int) (to_:Int) (day:Int):Ctr (Ratio × Bool):=kk tok mixed Tryz.func171 [av r.cells,iv from_,iv to_,iv day] (fun x=>.tup [av x.1.cells,bv x.2]) true (amount_Rate_sk r from_ to_ day) (amount_Rate r from_ to_ day) (fun (h:(r.RateOK))=>amount_Rate_ok r from_ to_ day h) (fun (x:Ratio × Bool)=>(r.RateOK)→(x.2=true→(1≤x.1.num∧x.1.num≤1073741824)∧1≤x.1.den∧x.1.den≤1073741824)) (amount_Rate_post r from_ to_ day)
theorem prod60 {a b:Int} (ha:1≤a∧a≤1073741824) (hb:1≤b∧b≤1073741824):(1≤a * b∧a * b≤1152921504606846976)∧IntKind.u64.wrap (IntKind.u64.wrap a * IntKind.u64.wrap b)=a * b:=by
 have h1:1 * b≤a * b:=Int.mul_le_mul_of_nonneg_right ha.1 (by omega)
 have h2:a * b≤1073741824 * b:=Int.mul_le_mul_of_nonneg_right ha.2 (by omega)
 have h3:1≤a * b∧a * b≤1152921504606846976:=by omega
 rw [u64_id (n:=a) (by omega) (by omega),u64_id (n:=b) (by omega) (by omega),u64_id (by omega) (by omega)]
 exact ⟨h3,rfl⟩
theorem loss_rng {s D W x y:Int} (hs:0≤s∧s≤1099511627776) (hD:0≤D∧D≤W) (hW:1≤W∧W≤1152921504606846976) (hx:0≤x) (hy:0≤y) (e:x * 18446744073709551616+y=s * D):x < W∧0≤s * D / W∧s * D / W≤s:=by
 have h0:0≤s * D:=Int.mul_nonneg hs.1 hD.1
 have h1:s * D≤s * W:=Int.mul_le_mul_of_nonneg_left hD.2 hs.1
 have h2:s * W≤1099511627776 * W:=Int.mul_le_mul_of_nonneg_right hs.2 (by omega)
 exact ⟨by omega,Int.ediv_nonneg h0 (by omega),Int.ediv_le_of_le_mul (by omega) h1⟩
noncomputable def amount_loss_sk (sum:Int) (a:Ratio) (b:Ratio):Sk (Int) :=
 .br (decide ((IntKind.u64.wrap ((IntKind.u64.wrap (a.num)) * (IntKind.u64.wrap (b.num))))≥(IntKind.u64.wrap ((IntKind.u64.wrap (a.den)) * (IntKind.u64.wrap (b.den))))))
 (.fin 0)
 (.r 4 ((bits_Mul64_k (IntKind.u64.wrap (sum)) (IntKind.u64.wrap ((IntKind.u64.wrap ((IntKind.u64.wrap (a.den)) * (IntKind.u64.wrap (b.den)))) - (IntKind.u64.wrap ((IntKind.u64.wrap (a.num)) * (IntKind.u64.wrap (b.num))))))).c) fun x1 =>
 .r 5 ((bits_Div64_k x1.1 x1.2 (IntKind.u64.wrap ((IntKind.u64.wrap (a.den)) * (IntKind.u64.wrap (b.den))))).c) fun x2 =>
 .fin (w64 (x2.1)))
noncomputable def amount_loss (sum:Int) (a:Ratio) (b:Ratio):Int:=(amount_loss_sk sum a b).val
theorem amount_loss_pst (sum:Int) (a:Ratio) (b:Ratio) (hP:(0≤sum∧sum≤1099511627776)∧((1≤a.num∧a.num≤1073741824)∧1≤a.den∧a.den≤1073741824)∧(1≤b.num∧b.num≤1073741824)∧1≤b.den∧b.den≤1073741824):(amount_loss_sk sum a b).pst (fun (x:Int)=>0≤x∧x≤1099511627776):=by
 refine Sk.pst_of _ ?_
 unfold amount_loss_sk
 simp only [Sk.pstq,Sk.isLoop,reduceCtorEq,ON,kk,bits_Div64_k,bits_Mul64_k,maxLen]
 obtain ⟨hs,ha,hb⟩:=hP
 obtain ⟨hk,ek⟩:=prod60 (a:=a.num) (b:=b.num) ha.1 hb.1
 obtain ⟨hw,ew⟩:=prod60 (a:=a.den) (b:=b.den) ha.2 hb.2
 rw [ek,ew]
 refine ⟨fun _=>⟨by decide,by decide⟩,fun hc x _ hx y _ hy=>?_⟩
 simp only [LN] at hc
 rw [u64_id (n:=sum) hs.1 (by omega),u64_id (n:=a.den * b.den - a.num * b.num) (by omega) (by omega)] at hx
 obtain ⟨h1,h2,h3⟩:=hx ⟨⟨hs.1,by omega⟩,by omega,by omega⟩
 obtain ⟨l1,l2,l3⟩:=loss_rng hs (D:=a.den * b.den - a.num * b.num) (by omega) hw h1.1 h2.1 h3
 have hy:=(hy ⟨h1.1,l1,by omega,h2.1,h2.2⟩).1
 rw [h3] at hy
 rw [w64_id (by omega) (by omega)]
 omega
theorem amount_loss_post (sum:Int) (a:Ratio) (b:Ratio):(fun (x:Int)=>((0≤sum∧sum≤1099511627776)∧((1≤a.num∧a.num≤1073741824)∧1≤a.den∧a.den≤1073741824)∧(1≤b.num∧b.num≤1073741824)∧1≤b.den∧b.den≤1073741824)→(0≤x∧x≤1099511627776)) (amount_loss sum a b):=fun hP=>Sk.pval _ (amount_loss_pst sum a b hP)
theorem amount_loss_ok (sum:Int) (a:Ratio) (b:Ratio) (hs:0≤sum∧sum≤1099511627776) (ha:(1≤a.num∧a.num≤1073741824)∧1≤a.den∧a.den≤1073741824) (hb:(1≤b.num∧b.num≤1073741824)∧1≤b.den∧b.den≤1073741824):(amount_loss_sk sum a b).obs (fun _=>True):=by
 refine Sk.obs_of _ ?_
 unfold amount_loss_sk
 simp only [Sk.obq,Sk.isLoop,reduceCtorEq,ON,kk,bits_Div64_k,bits_Mul64_k,maxLen]
 obtain ⟨hk,ek⟩:=prod60 (a:=a.num) (b:=b.num) ha.1 hb.1
 obtain ⟨hw,ew⟩:=prod60 (a:=a.den) (b:=b.den) ha.2 hb.2
 rw [ek,ew]
 intro hc x _ hx
 simp only [LN] at hc
 rw [u64_id (n:=sum) hs.1 (by omega),u64_id (n:=a.den * b.den - a.num * b.num) (by omega) (by omega)] at hx
 obtain ⟨h1,h2,h3⟩:=hx ⟨⟨hs.1,by omega⟩,by omega,by omega⟩
 obtain ⟨l1,l2,l3⟩:=loss_rng hs (D:=a.den * b.den - a.num * b.num) (by omega) hw h1.1 h2.1 h3
 exact ⟨h1.1,l1,by omega,h2.1,h2.2⟩
noncomputable def amount_loss_k (sum:Int) (a:Ratio) (b:Ratio):Ctr (Int):=kk tok mixed Tryz.func172 [iv sum,av a.cells,av b.cells] (fun x=>iv x) true (amount_loss_sk sum a b) (amount_loss sum a b) (fun (h:(0≤sum∧sum≤1099511627776)∧((1≤a.num∧a.num≤1073741824)∧1≤a.den∧a.den≤1073741824)∧((1≤b.num∧b.num≤1073741824)∧1≤b.den∧b.den≤1073741824))=>amount_loss_ok sum a b h.1 h.2.1 h.2.2) (fun (x:Int)=>((0≤sum∧sum≤1099511627776)∧((1≤a.num∧a.num≤1073741824)∧1≤a.den∧a.den≤1073741824)∧(1≤b.num∧b.num≤1073741824)∧1≤b.den∧b.den≤1073741824)→(0≤x∧x≤1099511627776)) (amount_loss_post sum a b)
end Go.Proofs.YtbcnlpcaajpclaaGreatDoor
