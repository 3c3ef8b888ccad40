/- Functions, as sketches. -/
import Derived.Test.YtbcnlpcaajpclaaGreatDoorRc8
namespace Go.Proofs.YtbcnlpcaajpclaaGreatDoor
open Go Go.Av
set_option linter.unusedSimpArgs false
set_option linter.unusedVariables false
set_option maxHeartbeats 1000000
set_option maxRecDepth 100000
noncomputable def owe_open_sk (f:File) (day:Int):Sk (View) :=
 .r 1 ((record_At_k f day).c) fun x1 =>
 .r 2 (.o [.nrmm (mkM dB)]) fun _ =>
 .bind true (fun _=>True)
 (.loop (default:Sum (View) ((List (Int × Bool)))) (fun i3=>i3.1≤x1.acts.length) (fun i3=>x1.acts.length - i3.1) ((0,([]:List (Int × Bool))):Nat × (List (Int × Bool)))
 (fun (i3:Nat × (List (Int × Bool)))=>⟨[(22,iv (i3.1:Int))],[(17,mpM dB i3.2)]⟩) fun i3 =>
 .bnd 20 0 x1.acts.length <|
 .br (decide ((i3.1:Int) < ((x1.acts.length:Nat):Int)))
 (.r 5 (.p (ixP (i3.1:Int) x1.acts.length)) fun _ =>
 .br (((x1.acts.getD i3.1 default).kind) == 7)
 (.r 7 (.andl (.t (keysM dB i3.2)) (.o [.nrmm (updM dB i3.2 ((x1.acts.getD i3.1 default).at_) true)])) fun _ =>
 .r 8 .z fun _ =>
 .wi 22 (w64 ((i3.1:Int)+1)) ((i3.1+1:Nat):Int) <|
 .fin (.inr (i3.1+1,mupd i3.2 ((x1.acts.getD i3.1 default).at_) true)))
 (.r 8 .z fun _ =>
 .wi 22 (w64 ((i3.1:Int)+1)) ((i3.1+1:Nat):Int) <|
 .fin (.inr (i3.1+1,i3.2))))
 (.fin (.inl (.inr i3.2))))
 (fun (b2:(List (Int × Bool)))=>⟨[],[(17,mpM dB b2)]⟩) fun b2 =>
 .bind true (fun b4=>b4.length≤0+x1.signs.length)
 (.loop (default:Sum (View) ((List Int))) (fun i5=>i5.1≤x1.signs.length∧i5.2.length≤0+i5.1) (fun i5=>x1.signs.length - i5.1) ((0,[]):Nat × (List Int))
 (fun (i5:Nat × (List Int))=>⟨[(37,iv (i5.1:Int))],[(100002,rowB 3 1 intC i5.2),(5,.box (f.cells.map .d++x1.cells.map .d++[iv day,ow 100002 i5.2]))]⟩) fun i5 =>
 .bnd 35 0 x1.signs.length <|
 .br (decide ((i5.1:Int) < ((x1.signs.length:Nat):Int)))
 (.r 11 (.p (ixP (i5.1:Int) x1.signs.length)) fun _ =>
 .r 12 (.wh (((x1.signs.getD i5.1 default).kind) == 2) true (.andl (.t (keysM dB b2)) (.o [.cast 48 (getM dB b2 (i5.1:Int) false)]))) fun _ =>
 .br ((((x1.signs.getD i5.1 default).kind) == 2)&&(!(mget b2 (i5.1:Int) false)))
 (.r 13 (.andl (.o [.nrm (litC intE [(x1.signs.getD i5.1 default).part])]) (.andl (.o [.nrm (catC intE i5.2 [(x1.signs.getD i5.1 default).part])]) (.andl (.t (intE.ones [(x1.signs.getD i5.1 default).part])) (.p (szP i5.2.length [(x1.signs.getD i5.1 default).part].length 8))))) fun _ =>
 .r 14 .z fun _ =>
 .wi 37 (w64 ((i5.1:Int)+1)) ((i5.1+1:Nat):Int) <|
 .fin (.inr (i5.1+1,i5.2++[(x1.signs.getD i5.1 default).part])))
 (.r 14 .z fun _ =>
 .wi 37 (w64 ((i5.1:Int)+1)) ((i5.1+1:Nat):Int) <|
 .fin (.inr (i5.1+1,i5.2))))
 (.fin (.inl (.inr i5.2))))
 (fun (b4:(List Int))=>⟨[],[(100001,rowB 3 1 intC b4),(5,.box (f.cells.map .d++x1.cells.map .d++[iv day,ow 100001 b4]))]⟩) fun b4 =>
 .r 15 ((slices_Sort_s 100001 b4).c) fun x6 =>
 .wn 100001 b4.length x6.length <|
 .r 16 ((slices_Compact_h 100001 64 x6).c) fun x7 =>
 .br (((x7.length:Nat):Int) == 0)
 (.r 18 (.o [.nrm (litC intE [0])]) fun _ =>
 .fin ({ all:=f,now:=x1,day:=day,lead:=[0] }:View))
 (.fin ({ all:=f,now:=x1,day:=day,lead:=x7 }:View))
noncomputable def owe_open (f:File) (day:Int):View:=(owe_open_sk f day).val
theorem owe_open_pst (f:File) (day:Int):(owe_open_sk f day).pst (fun (x:View)=>x.all=f∧x.now=record_At f day∧x.day=day∧x.lead.length≠0∧x.lead.length≤1+f.signs.length):=by
 unfold owe_open_sk
 try simp only [record_At_k,slices_Compact_h,slices_Sort_s,CtrS.c,CtrH.c,File.Small,Realm.Small]
 exact okP
theorem owe_open_post (f:File) (day:Int):(fun (x:View)=>x.all=f∧x.now=record_At f day∧x.day=day∧x.lead.length≠0∧x.lead.length≤1+f.signs.length) (owe_open f day):=have h:=Sk.pval _ (owe_open_pst f day); h
theorem owe_open_ok (f:File) (day:Int) (h_f_Small:f.Small):(owe_open_sk f day).obs (fun _=>True):=by
 simp only [File.Small,Realm.Small] at h_f_Small
 unfold owe_open_sk
 try simp only [record_At_k,slices_Compact_h,slices_Sort_s,CtrS.c,CtrH.c,File.Small,Realm.Small]
 exact okD
noncomputable def owe_open_k (f:File) (day:Int):Ctr (View):=kk tok mixed Tryz.func80 [av f.cells,iv day] (fun x=>av x.cells) false (owe_open_sk f day) (owe_open f day) (fun (h:(f.Small))=>owe_open_ok f day h) (fun (x:View)=>x.all=f∧x.now=record_At f day∧x.day=day∧x.lead.length≠0∧x.lead.length≤1+f.signs.length) (owe_open_post f day)
noncomputable def owe_try_sk (r:Realm) (forum:Int) (f:File) (day:Int):Sk (Court × Bool) :=
 .br ((decide (forum < 0))||(decide (forum≥((r.orders.length:Nat):Int))))
 (.fin (({ view:=({ all:=({ bill:=({ drawer:=0,drawee:=0,payee:=0,sum:=0,currency:=0,tenor:=({ kind:=0,n:=0,unit:=0 }:Tenor),day:=0,city:=0,pay:=0,need:=0,rate:=0,flags:=0,parts:=0 }:Bill),signs:=[],alters:=[],acts:=[],facts:=[] }:File),now:=({ bill:=({ drawer:=0,drawee:=0,payee:=0,sum:=0,currency:=0,tenor:=({ kind:=0,n:=0,unit:=0 }:Tenor),day:=0,city:=0,pay:=0,need:=0,rate:=0,flags:=0,parts:=0 }:Bill),signs:=[],alters:=[],acts:=[],facts:=[] }:File),day:=0,lead:=[] }:View),r:=({ currencies:=[],cities:=[],groups:=[],firms:=[],orders:=[],usances:=[],rates:=[],halts:=[] }:Realm),forum:=0,due:=0 }:Court),false))
 (.r 3 (.dep ((owe_open_k f day).c) fun _=>(ask_Maturity_k r forum f day).c) fun p3 =>
 .fin (({ view:=p3.1,r:=r,forum:=forum,due:=p3.2 }:Court),true))
noncomputable def owe_try (r:Realm) (forum:Int) (f:File) (day:Int):Court × Bool:=(owe_try_sk r forum f day).val
theorem owe_try_pst (r:Realm) (forum:Int) (f:File) (day:Int):(owe_try_sk r forum f day).pst (fun (x:Court × Bool)=>x.2=true→x.1=⟨owe_open f day,r,forum,ask_Maturity r forum f day⟩∧0≤forum∧forum < (r.orders.length:Int)):=by
 unfold owe_try_sk
 try simp only [ask_Maturity_k,owe_open_k,File.Small,Realm.Small,Realm.ByOK]
 exact okP
theorem owe_try_post (r:Realm) (forum:Int) (f:File) (day:Int):(fun (x:Court × Bool)=>x.2=true→x.1=⟨owe_open f day,r,forum,ask_Maturity r forum f day⟩∧0≤forum∧forum < (r.orders.length:Int)) (owe_try r forum f day):=have h:=Sk.pval _ (owe_try_pst r forum f day); h
theorem owe_try_ok (r:Realm) (forum:Int) (f:File) (day:Int) (h_f_Small:f.Small) (h_r_ByOK:r.ByOK) (h_r_Small:r.Small):(owe_try_sk r forum f day).obs (fun _=>True):=by
 simp only [File.Small,Realm.Small,Realm.ByOK] at h_f_Small
 simp only [File.Small,Realm.Small,Realm.ByOK] at h_r_ByOK
 simp only [File.Small,Realm.Small,Realm.ByOK] at h_r_Small
 unfold owe_try_sk
 try simp only [ask_Maturity_k,owe_open_k,File.Small,Realm.Small,Realm.ByOK]
 exact okD
noncomputable def owe_try_k (r:Realm) (forum:Int) (f:File) (day:Int):Ctr (Court × Bool):=kk tok mixed Tryz.func35 [av r.cells,iv forum,av f.cells,iv day] (fun x=>.tup [av x.1.cells,bv x.2]) false (owe_try_sk r forum f day) (owe_try r forum f day) (fun (h:(f.Small)∧(r.ByOK)∧(r.Small))=>owe_try_ok r forum f day h.1 h.2.1 h.2.2) (fun (x:Court × Bool)=>x.2=true→x.1=⟨owe_open f day,r,forum,ask_Maturity r forum f day⟩∧0≤forum∧forum < (r.orders.length:Int)) (owe_try_post r forum f day)
structure Effect where
 sign:Int
 kind:Int
 firm:Int
 binds:Int
 text:Int
 sum:Int
 recourse:Bool
 deriving Inhabited
def Effect.cells (c:Effect):List D:=[dI c.sign,dI c.kind,dI c.firm,dI c.binds,dI c.text,dI c.sum,dB c.recourse]
def Effect.E:Enc Effect:=⟨Effect.cells,7,fun _=>rfl,fun _=>rfl⟩
structure ViewX where
 r:Realm
 forum:Int
 day:Int
 f:File
 form:Int
 due:Int
 deriving Inhabited
def ViewX.cells (c:ViewX):List D:=c.r.cells++[dI c.forum,dI c.day]++c.f.cells++[dI c.form,dI c.due]
def ViewX.E:Enc ViewX:=⟨ViewX.cells,31,fun _=>rfl,fun _=>rfl⟩
noncomputable def bind_open_sk (r:Realm) (forum:Int) (f:File) (day:Int):Sk (ViewX) :=
 .r 1 ((record_At_k f day).c) fun x1 =>
 .r 2 (.dep ((ask_Bill_k r forum 0 x1 day).c) fun x2=>.dep ((ask_Tri_k x2).c) fun _=>(ask_Maturity_k r forum x1 day).c) fun p5 =>
 .fin ({ r:=r,forum:=forum,day:=day,f:=x1,form:=p5.2.1,due:=p5.2.2 }:ViewX)
noncomputable def bind_open (r:Realm) (forum:Int) (f:File) (day:Int):ViewX:=(bind_open_sk r forum f day).val
theorem bind_open_pst (r:Realm) (forum:Int) (f:File) (day:Int):(bind_open_sk r forum f day).pst (fun (x:ViewX)=>x.f=record_At f day∧x.r=r):=by
 unfold bind_open_sk
 try simp only [ask_Bill_k,ask_Maturity_k,ask_Tri_k,record_At_k,File.Small,Realm.Small,Realm.ByOK]
 exact okP
theorem bind_open_post (r:Realm) (forum:Int) (f:File) (day:Int):(fun (x:ViewX)=>x.f=record_At f day∧x.r=r) (bind_open r forum f day):=have h:=Sk.pval _ (bind_open_pst r forum f day); h
theorem bind_open_ok (r:Realm) (forum:Int) (f:File) (day:Int) (h_f_Small:f.Small) (h_r_ByOK:r.ByOK) (h_r_Small:r.Small):(bind_open_sk r forum f day).obs (fun _=>True):=by
 simp only [File.Small,Realm.Small,Realm.ByOK] at h_f_Small
 simp only [File.Small,Realm.Small,Realm.ByOK] at h_r_ByOK
 simp only [File.Small,Realm.Small,Realm.ByOK] at h_r_Small
 unfold bind_open_sk
 try simp only [ask_Bill_k,ask_Maturity_k,ask_Tri_k,record_At_k,File.Small,Realm.Small,Realm.ByOK]
 exact okD
noncomputable def bind_open_k (r:Realm) (forum:Int) (f:File) (day:Int):Ctr (ViewX):=kk tok mixed Tryz.func82 [av r.cells,iv forum,av f.cells,iv day] (fun x=>av x.cells) false (bind_open_sk r forum f day) (bind_open r forum f day) (fun (h:(f.Small)∧(r.ByOK)∧(r.Small))=>bind_open_ok r forum f day h.1 h.2.1 h.2.2) (fun (x:ViewX)=>x.f=record_At f day∧x.r=r) (bind_open_post r forum f day)
noncomputable def title_struck_sk (f:File) (day:Int):Sk ((List (Int × Bool))) :=
 .r 1 (.o [.nrmm (mkM dB)]) fun _ =>
 .bind true (fun _=>True)
 (.loop (default:Sum ((List (Int × Bool))) ((List (Int × Bool)))) (fun i2=>i2.1≤f.acts.length) (fun i2=>f.acts.length - i2.1) ((0,([]:List (Int × Bool))):Nat × (List (Int × Bool)))
 (fun (i2:Nat × (List (Int × Bool)))=>⟨[(12,iv (i2.1:Int))],[(8,mpM dB i2.2)]⟩) fun i2 =>
 .bnd 10 0 f.acts.length <|
 .br (decide ((i2.1:Int) < ((f.acts.length:Nat):Int)))
 (.r 4 (.p (ixP (i2.1:Int) f.acts.length)) fun _ =>
 .br ((((f.acts.getD i2.1 default).kind) == 7)&&(decide (((f.acts.getD i2.1 default).day)≤day)))
 (.r 6 (.andl (.t (keysM dB i2.2)) (.o [.nrmm (updM dB i2.2 ((f.acts.getD i2.1 default).at_) true)])) fun _ =>
 .r 7 .z fun _ =>
 .wi 12 (w64 ((i2.1:Int)+1)) ((i2.1+1:Nat):Int) <|
 .fin (.inr (i2.1+1,mupd i2.2 ((f.acts.getD i2.1 default).at_) true)))
 (.r 7 .z fun _ =>
 .wi 12 (w64 ((i2.1:Int)+1)) ((i2.1+1:Nat):Int) <|
 .fin (.inr (i2.1+1,i2.2))))
 (.fin (.inl (.inr i2.2))))
 (fun (b1:(List (Int × Bool)))=>⟨[],[(8,mpM dB b1)]⟩) fun b1 =>
 .fin b1
noncomputable def title_struck (f:File) (day:Int):(List (Int × Bool)):=(title_struck_sk f day).val
theorem title_struck_ok (f:File) (day:Int):(title_struck_sk f day).obs (fun _=>True):=by
 unfold title_struck_sk
 exact okD
noncomputable def title_struck_k (f:File) (day:Int):Ctr ((List (Int × Bool))):=kk tok mixed Tryz.func208 [av f.cells,iv day] (fun x=>pmM dB x) false (title_struck_sk f day) (title_struck f day) (fun (_:True)=>title_struck_ok f day)
noncomputable def title_Struck_sk (f:File) (sign:Int) (day:Int):Sk (Bool) :=
 .r 1 (.depr (.wh ((decide (sign≥0))&&(decide (sign < ((f.signs.length:Nat):Int)))) true ((title_struck_k f day).c)) fun x1=>.wh ((decide (sign≥0))&&(decide (sign < ((f.signs.length:Nat):Int)))) true (.andl (.t (keysM dB x1)) (.o [.cast 21 (getM dB x1 sign false)]))) fun x1 =>
 .fin (((decide (sign≥0))&&(decide (sign < ((f.signs.length:Nat):Int))))&&(mget x1 sign false))
noncomputable def title_Struck (f:File) (sign:Int) (day:Int):Bool:=(title_Struck_sk f sign day).val
theorem title_Struck_ok (f:File) (sign:Int) (day:Int):(title_Struck_sk f sign day).obs (fun _=>True):=by
 unfold title_Struck_sk
 try simp only [title_struck_k]
 exact okE
noncomputable def title_Struck_k (f:File) (sign:Int) (day:Int):Ctr (Bool):=kk tok mixed Tryz.func150 [av f.cells,iv sign,iv day] (fun x=>bv x) true (title_Struck_sk f sign day) (title_Struck f sign day) (fun (_:True)=>title_Struck_ok f sign day)
noncomputable def bind_view_says_sk (v:ViewX) (question:Int) (sign:Int):Sk (Int) :=
 .r 2 (.dep ((ask_Ask_k v.r v.forum question ({ file:=v.f,sign:=sign,holder:=sign,defence:=(-1),due:=v.due,day:=v.day }:CaseX)).c) fun x1=>(ask_Tri_k x1).c) fun p3 =>
 .fin p3.2
noncomputable def bind_view_says (v:ViewX) (question:Int) (sign:Int):Int:=(bind_view_says_sk v question sign).val
theorem bind_view_says_ok (v:ViewX) (question:Int) (sign:Int) (h_v_f_Small:v.f.Small) (h_v_r_ByOK:v.r.ByOK) (h_v_r_Small:v.r.Small):(bind_view_says_sk v question sign).obs (fun _=>True):=by
 unfold bind_view_says_sk
 try simp only [ask_Ask_k,ask_Tri_k]
 exact okD
noncomputable def bind_view_says_k (v:ViewX) (question:Int) (sign:Int):Ctr (Int):=kk tok mixed Tryz.func152 [av v.cells,iv question,iv sign] (fun x=>iv x) true (bind_view_says_sk v question sign) (bind_view_says v question sign) (fun (h:(v.f.Small)∧(v.r.ByOK)∧(v.r.Small))=>bind_view_says_ok v question sign h.1 h.2.1 h.2.2)
noncomputable def bind_join_sk (l:List Int):Sk (Int) :=
 .bind true (fun _=>True)
 (.loop (default:Sum (Int) (Int)) (fun i2=>i2.2≤l.length) (fun i2=>l.length - i2.2) ((1,0):Int × Nat)
 (fun (i2:Int × Nat)=>⟨[(3,iv i2.1),(8,iv (i2.2:Int))],[]⟩) fun i2 =>
 .bnd 6 0 l.length <|
 .br (decide ((i2.2:Int) < ((l.length:Nat):Int)))
 (.r 4 (.p (ixP (i2.2:Int) l.length)) fun _ =>
 .br ((l.getD i2.2 default) == 0)
 (.fin (.inl (.inl 0)))
 (.br ((l.getD i2.2 default) == 2)
 (.r 9 .z fun _ =>
 .wi 8 (w64 ((i2.2:Int)+1)) ((i2.2+1:Nat):Int) <|
 .fin (.inr (2,i2.2+1)))
 (.r 9 .z fun _ =>
 .wi 8 (w64 ((i2.2:Int)+1)) ((i2.2+1:Nat):Int) <|
 .fin (.inr (i2.1,i2.2+1)))))
 (.fin (.inl (.inr i2.1))))
 (fun (b1:Int)=>⟨[(3,iv b1)],[]⟩) fun b1 =>
 .fin b1
noncomputable def bind_join (l:List Int):Int:=(bind_join_sk l).val
theorem bind_join_ok (l:List Int):(bind_join_sk l).obs (fun _=>True):=by
 unfold bind_join_sk
 exact okD
noncomputable def bind_join_k (l:List Int):Ctr (Int):=kk tok mixed Tryz.func151 [lv intC l] (fun x=>iv x) true (bind_join_sk l) (bind_join l) (fun (_:True)=>bind_join_ok l)
noncomputable def paper_SumAt_sk (f:File) (i:Int):Sk (Int) :=
 .bind true (fun b1=>f.SumOK→0≤b1∧b1≤1099511627776)
 (.loop (default:Sum (Int) (Int)) (fun i2=>i2.2≤f.alters.length∧(f.SumOK→0≤i2.1∧i2.1≤1099511627776)) (fun i2=>f.alters.length - i2.2) ((f.bill.sum,0):Int × Nat)
 (fun (i2:Int × Nat)=>⟨[(5,iv i2.1),(14,iv (i2.2:Int))],[]⟩) fun i2 =>
 .bnd 12 0 f.alters.length <|
 .br (decide ((i2.2:Int) < ((f.alters.length:Nat):Int)))
 (.r 4 (.p (ixP (i2.2:Int) f.alters.length)) fun _ =>
 .br (decide (((f.alters.getD i2.2 default).at_)≤i))
 (.r 7 .z fun _ =>
 .wi 14 (w64 ((i2.2:Int)+1)) ((i2.2+1:Nat):Int) <|
 .fin (.inr ((f.alters.getD i2.2 default).sum,i2.2+1)))
 (.r 7 .z fun _ =>
 .wi 14 (w64 ((i2.2:Int)+1)) ((i2.2+1:Nat):Int) <|
 .fin (.inr (i2.1,i2.2+1))))
 (.fin (.inl (.inr i2.1))))
 (fun (b1:Int)=>⟨[(5,iv b1)],[]⟩) fun b1 =>
 .fin b1
noncomputable def paper_SumAt (f:File) (i:Int):Int:=(paper_SumAt_sk f i).val
theorem paper_SumAt_pst (f:File) (i:Int) (hP:f.SumOK):(paper_SumAt_sk f i).pst (fun (x:Int)=>0≤x∧x≤1099511627776):=by
 refine Sk.pst_of _ ?_
 unfold paper_SumAt_sk
 simp only [Sk.pstq,Sk.isLoop,reduceCtorEq,ON,kk,maxLen]
 refine ⟨⟨⟨Nat.zero_le _,fun h=>h.1⟩,fun i hi=>⟨fun hc _=>?_,fun _=>hi.2⟩⟩,fun b hb=>hb hP⟩
 simp only [LN] at hc
 exact ⟨fun _ _=>⟨⟨by omega,fun h=>h.2.1 _ (by omega)⟩,by omega⟩,fun _ _=>⟨⟨by omega,hi.2⟩,by omega⟩⟩
theorem paper_SumAt_post (f:File) (i:Int):(fun (x:Int)=>(f.SumOK)→(0≤x∧x≤1099511627776)) (paper_SumAt f i):=fun hP=>Sk.pval _ (paper_SumAt_pst f i hP)
theorem paper_SumAt_ok (f:File) (i:Int):(paper_SumAt_sk f i).obs (fun _=>True):=by
 refine Sk.obs_of _ ?_
 unfold paper_SumAt_sk
 simp only [Sk.obq,Sk.isLoop,reduceCtorEq,ON,kk,maxLen]
 refine ⟨⟨Nat.zero_le _,fun h=>h.1⟩,fun i hi hm=>⟨fun hc=>?_,fun _=>hi.2⟩⟩
 simp only [LN] at hc
 have hw:w64 ((i.2:Int)+1)=((i.2+1:Nat):Int):=(w64_id (by omega) (by omega)).trans (by omega)
 exact ⟨by omega,fun _=>⟨fun _ _=>⟨hw,⟨by omega,fun h=>h.2.1 _ (by omega)⟩,by omega⟩,fun _ _=>⟨hw,⟨by omega,hi.2⟩,by omega⟩⟩⟩
noncomputable def paper_SumAt_k (f:File) (i:Int):Ctr (Int):=kk tok mixed Tryz.func209 [av f.cells,iv i] (fun x=>iv x) true (paper_SumAt_sk f i) (paper_SumAt f i) (fun (_:True)=>paper_SumAt_ok f i) (fun (x:Int)=>(f.SumOK)→(0≤x∧x≤1099511627776)) (paper_SumAt_post f i)
noncomputable def bind_view_text_sk (v:ViewX) (sign:Int):Sk (Int × Int) :=
 .r 1 ((paper_SumAt_k v.f sign).c) fun x1 =>
 .bind true (fun b2=>b2=true→v.f.alters.length≠0)
 (.loop (default:Sum (Int × Int) (Bool)) (fun i3=>i3.2≤v.f.alters.length∧(i3.1=true→v.f.alters.length≠0)) (fun i3=>v.f.alters.length - i3.2) ((false,0):Bool × Nat)
 (fun (i3:Bool × Nat)=>⟨[(7,bv i3.1),(23,iv (i3.2:Int))],[]⟩) fun i3 =>
 .bnd 21 0 v.f.alters.length <|
 .br (decide ((i3.2:Int) < ((v.f.alters.length:Nat):Int)))
 (.r 6 (.p (ixP (i3.2:Int) v.f.alters.length)) fun _ =>
 .r 8 .z fun _ =>
 .wi 23 (w64 ((i3.2:Int)+1)) ((i3.2+1:Nat):Int) <|
 .fin (.inr (i3.1||(decide (((v.f.alters.getD i3.2 default).at_) > sign)),i3.2+1)))
 (.fin (.inl (.inr i3.1))))
 (fun (b2:Bool)=>⟨[(7,bv b2)],[]⟩) fun b2 =>
 .br (!b2)
 (.fin (0,x1))
 (.r 11 (.p (ixP (w64 (((v.f.alters.length:Nat):Int) - 1)) v.f.alters.length)) fun _ =>
 .r 12 ((bind_view_says_k v 4 sign).c) fun x4 =>
 .br (x4 == 1)
 (.fin (x4,(v.f.alters.getD ((w64 (((v.f.alters.length:Nat):Int) - 1)).toNat) default).sum))
 (.br (x4 == 2)
 (.fin (x4,minI x1 ((v.f.alters.getD ((w64 (((v.f.alters.length:Nat):Int) - 1)).toNat) default).sum)))
 (.fin (x4,x1))))
noncomputable def bind_view_text (v:ViewX) (sign:Int):Int × Int:=(bind_view_text_sk v sign).val
theorem bind_view_text_pst (v:ViewX) (sign:Int) (hP:v.f.SumOK∧v.f.Small):(bind_view_text_sk v sign).pst (fun (x:Int × Int)=>0≤x.2∧x.2≤1099511627776):=by
 refine Sk.pst_of _ ?_
 unfold bind_view_text_sk
 simp only [Sk.pstq,Sk.isLoop,reduceCtorEq,ON,kk,bind_view_says_k,paper_SumAt_k,maxLen]
 intro x _ hx
 have hx:=hx hP.1
 refine ⟨⟨Nat.zero_le _,fun i hi=>⟨fun hc _ _=>?_,fun _=>hi.2⟩⟩,fun b hb=>⟨fun _=>hx,fun hb2 _ y _=>?_⟩⟩
 ·simp only [LN] at hc
  exact ⟨⟨by omega,fun _=>by omega⟩,by omega⟩
 ·have hn:=hb (by simpa using hb2)
  have hl:=hP.2.2.1
  rw [w64_id (by omega) (by omega)]
  obtain ⟨h1,h2⟩:=hP.1.2.1 ((v.f.alters.length:Int) - 1).toNat (by omega)
  refine ⟨fun _=>⟨h1,h2⟩,fun _=>⟨fun _=>?_,fun _=>hx⟩⟩
  unfold minI
  split <;> omega
theorem bind_view_text_post (v:ViewX) (sign:Int):(fun (x:Int × Int)=>(v.f.SumOK∧v.f.Small)→(0≤x.2∧x.2≤1099511627776)) (bind_view_text v sign):=fun hP=>Sk.pval _ (bind_view_text_pst v sign hP)
theorem bind_view_text_ok (v:ViewX) (sign:Int) (h_v_f_Small:v.f.Small) (h_v_r_ByOK:v.r.ByOK) (h_v_r_Small:v.r.Small):(bind_view_text_sk v sign).obs (fun _=>True):=by
 refine Sk.obs_of _ ?_
 unfold bind_view_text_sk
 simp only [Sk.obq,Sk.isLoop,reduceCtorEq,ON,kk,bind_view_says_k,paper_SumAt_k,maxLen]
 intro x _ _
 refine ⟨⟨Nat.zero_le _,fun i hi hm=>⟨fun hc=>?_,fun _=>hi.2⟩⟩,fun b hb hb2=>?_⟩
 ·simp only [LN] at hc
  exact ⟨by omega,fun _ _=>⟨(w64_id (by omega) (by omega)).trans (by omega),⟨by omega,fun _=>by omega⟩,by omega⟩⟩
 ·have hn:=hb (by simpa using hb2)
  have hl:=h_v_f_Small.2.1
  rw [w64_id (by omega) (by omega)]
  exact ⟨by omega,fun _=>⟨h_v_f_Small,h_v_r_ByOK,h_v_r_Small⟩⟩
noncomputable def bind_view_text_k (v:ViewX) (sign:Int):Ctr (Int × Int):=kk tok mixed Tryz.func153 [av v.cells,iv sign] (fun x=>.tup [iv x.1,iv x.2]) true (bind_view_text_sk v sign) (bind_view_text v sign) (fun (h:(v.f.Small)∧(v.r.ByOK)∧(v.r.Small))=>bind_view_text_ok v sign h.1 h.2.1 h.2.2) (fun (x:Int × Int)=>(v.f.SumOK∧v.f.Small)→(0≤x.2∧x.2≤1099511627776)) (bind_view_text_post v sign)
noncomputable def bind_view_effect_sk (v:ViewX) (sign:Int):Sk (Effect) :=
 .r 1 (.p (ixP sign v.f.signs.length)) fun _ =>
 .r 3 ((title_Struck_k v.f sign v.day).c) fun x1 =>
 .bind false (fun _=>True)
 (.br (!x1)
 (.r 4 (.dep ((bind_view_says_k v 1 sign).c) fun x3=>.dep ((bind_view_says_k v 2 sign).c) fun x4=>.andl (.o [.nrm (litC intE [v.form,x3,x4])]) ((bind_join_k [v.form,x3,x4]).c)) fun p6 =>
 .fin (.inr p6.2.2))
 (.fin (.inr 0)))
 (fun (b2:Int)=>⟨[],[(6,.box [iv sign,iv ((v.f.signs.getD sign.toNat default).kind),iv ((v.f.signs.getD sign.toNat default).who),iv b2,iv 0,iv 0,bv ((((v.f.signs.getD sign.toNat default).kind) != 1)&&((andK .i64 ((v.f.signs.getD sign.toNat default).flags) 1) == 0))])]⟩) fun b2 =>
 .r 5 ((bind_view_text_k v sign).c) fun x7 =>
 .br ((((v.f.signs.getD sign.toNat default).kind) == 1)||(((v.f.signs.getD sign.toNat default).kind) == 4))
 (.fin ({ sign:=sign,kind:=(v.f.signs.getD sign.toNat default).kind,firm:=(v.f.signs.getD sign.toNat default).who,binds:=b2,text:=x7.1,sum:=minI x7.2 ((v.f.signs.getD sign.toNat default).sum),recourse:=(((v.f.signs.getD sign.toNat default).kind) != 1)&&((andK .i64 ((v.f.signs.getD sign.toNat default).flags) 1) == 0) }:Effect))
 (.fin ({ sign:=sign,kind:=(v.f.signs.getD sign.toNat default).kind,firm:=(v.f.signs.getD sign.toNat default).who,binds:=b2,text:=x7.1,sum:=x7.2,recourse:=(((v.f.signs.getD sign.toNat default).kind) != 1)&&((andK .i64 ((v.f.signs.getD sign.toNat default).flags) 1) == 0) }:Effect))
noncomputable def bind_view_effect (v:ViewX) (sign:Int):Effect:=(bind_view_effect_sk v sign).val
theorem bind_view_effect_pst (v:ViewX) (sign:Int) (hP:v.f.SumOK∧v.f.Small∧0≤sign∧sign < (v.f.signs.length:Int)):(bind_view_effect_sk v sign).pst (fun (x:Effect)=>0≤x.sum∧x.sum≤1099511627776):=by
 refine Sk.pst_of _ ?_
 unfold bind_view_effect_sk
 simp only [Sk.pstq,Sk.isLoop,reduceCtorEq,ON,kk,bind_join_k,bind_view_says_k,bind_view_text_k,title_Struck_k,maxLen]
 intro _ x _ b _ y _ hy
 have hy:=hy ⟨hP.1,hP.2.1⟩
 obtain ⟨h1,h2⟩:=hP.1.2.2.1 sign.toNat (by omega)
 exact ⟨fun _=>by unfold minI; split <;> omega,fun _=>hy⟩
theorem bind_view_effect_post (v:ViewX) (sign:Int):(fun (x:Effect)=>(v.f.SumOK∧v.f.Small∧0≤sign∧sign < (v.f.signs.length:Int))→(0≤x.sum∧x.sum≤1099511627776)) (bind_view_effect v sign):=fun hP=>Sk.pval _ (bind_view_effect_pst v sign hP)
theorem bind_view_effect_ok (v:ViewX) (sign:Int) (hs:0≤sign∧sign < (v.f.signs.length:Int)) (h_v_f_Small:v.f.Small) (h_v_r_ByOK:v.r.ByOK) (h_v_r_Small:v.r.Small):(bind_view_effect_sk v sign).obs (fun _=>True):=by
 unfold bind_view_effect_sk
 try simp only [bind_join_k,bind_view_says_k,bind_view_text_k,title_Struck_k]
 exact okD
noncomputable def bind_view_effect_k (v:ViewX) (sign:Int):Ctr (Effect):=kk tok mixed Tryz.func83 [av v.cells,iv sign] (fun x=>av x.cells) true (bind_view_effect_sk v sign) (bind_view_effect v sign) (fun (h:(0≤sign∧sign < (v.f.signs.length:Int))∧(v.f.Small)∧(v.r.ByOK)∧(v.r.Small))=>bind_view_effect_ok v sign h.1 h.2.1 h.2.2.1 h.2.2.2) (fun (x:Effect)=>(v.f.SumOK∧v.f.Small∧0≤sign∧sign < (v.f.signs.length:Int))→(0≤x.sum∧x.sum≤1099511627776)) (bind_view_effect_post v sign)
noncomputable def bind_Effects_sk (r:Realm) (forum:Int) (f:File) (day:Int):Sk ((List Effect)) :=
 .r 1 ((bind_open_k r forum f day).c) fun x1 =>
 .bind true (fun b2=>b2.length=x1.f.signs.length)
 (.loop (default:Sum ((List Effect)) ((List Effect))) (fun i3=>i3.2≤x1.f.signs.length∧i3.1.length=i3.2) (fun i3=>x1.f.signs.length - i3.2) (([],0):(List Effect) × Nat)
 (fun (i3:(List Effect) × Nat)=>⟨[(10,ow 100002 i3.1),(21,iv (i3.2:Int))],[(100002,rowB 155 7 Effect.cells i3.1)]⟩) fun i3 =>
 .bnd 9 25 x1.f.signs.length <|
 .br (decide ((i3.2:Int) < ((x1.f.signs.length:Nat):Int)))
 (.r 6 (.depr ((bind_view_effect_k x1 (i3.2:Int)).c) fun x4=>.andl (.o [.nrm (litC Effect.E [x4])]) (.andl (.o [.nrm (catC Effect.E i3.1 [x4])]) (.andl (.t (Effect.E.ones [x4])) (.p (szP i3.1.length [x4].length 56))))) fun x4 =>
 .r 7 .z fun _ =>
 .wi 21 (w64 ((i3.2:Int)+1)) ((i3.2+1:Nat):Int) <|
 .fin (.inr (i3.1++[x4],i3.2+1)))
 (.fin (.inl (.inr i3.1))))
 (fun (b2:(List Effect))=>⟨[(10,ow 100001 b2)],[(100001,rowB 155 7 Effect.cells b2)]⟩) fun b2 =>
 .fin b2
noncomputable def bind_Effects (r:Realm) (forum:Int) (f:File) (day:Int):(List Effect):=(bind_Effects_sk r forum f day).val
theorem bind_Effects_pst (r:Realm) (forum:Int) (f:File) (day:Int):(bind_Effects_sk r forum f day).pst (fun (x:(List Effect))=>x.length=(record_At f day).signs.length):=by
 unfold bind_Effects_sk
 try simp only [bind_open_k,bind_view_effect_k]
 exact okP
theorem bind_Effects_post (r:Realm) (forum:Int) (f:File) (day:Int):(fun (x:(List Effect))=>x.length=(record_At f day).signs.length) (bind_Effects r forum f day):=have h:=Sk.pval _ (bind_Effects_pst r forum f day); h
theorem bind_Effects_ok (r:Realm) (forum:Int) (f:File) (day:Int) (h_f_Small:f.Small) (h_r_ByOK:r.ByOK) (h_r_Small:r.Small):(bind_Effects_sk r forum f day).obs (fun _=>True):=by
 refine Sk.obs_of _ ?_
 unfold bind_Effects_sk
 simp only [Sk.obq,Sk.isLoop,reduceCtorEq,ON,kk,bind_open_k,bind_view_effect_k,maxLen]
 refine ⟨⟨h_f_Small,h_r_ByOK,h_r_Small⟩,fun x _ hx=>?_⟩
 have hS:x.f.Small:=by rw [hx.1]; exact At_small h_f_Small day
 have hB:x.r.ByOK:=by rw [hx.2]; exact h_r_ByOK
 have hR:x.r.Small:=by rw [hx.2]; exact h_r_Small
 have hS1:=hS.1
 all_goals exact okT
noncomputable def bind_Effects_k (r:Realm) (forum:Int) (f:File) (day:Int):Ctr ((List Effect)):=kk tok mixed Tryz.func36 [av r.cells,iv forum,av f.cells,iv day] (fun x=>lv Effect.cells x) false (bind_Effects_sk r forum f day) (bind_Effects r forum f day) (fun (h:(f.Small)∧(r.ByOK)∧(r.Small))=>bind_Effects_ok r forum f day h.1 h.2.1 h.2.2) (fun (x:(List Effect))=>x.length=(record_At f day).signs.length) (bind_Effects_post r forum f day)
structure Chain where
 signs:List Int
 holder:Int
 broken:Int
 bearer:Bool
 agent:Int
 late:List Int
 deriving Inhabited
def Chain.cells (c:Chain):List D:=[slD intC c.signs,dI c.holder,dI c.broken,dB c.bearer,dI c.agent,slD intC c.late]
def Chain.E:Enc Chain:=⟨Chain.cells,6,fun _=>rfl,fun _=>rfl⟩
noncomputable def title_dishonoured_sk (f:File) (day:Int):Sk (Int × Bool) :=
 .bind true (fun _=>True)
 (.loop (default:Sum (Int × Bool) (Int × Bool)) (fun i2=>i2.2.2≤f.acts.length) (fun i2=>f.acts.length - i2.2.2) ((0,false,0):Int × Bool × Nat)
 (fun (i2:Int × Bool × Nat)=>⟨[(6,iv i2.1),(7,bv i2.2.1),(13,iv (i2.2.2:Int))],[]⟩) fun i2 =>
 .bnd 11 0 f.acts.length <|
 .br (decide ((i2.2.2:Int) < ((f.acts.length:Nat):Int)))
 (.r 4 (.p (ixP (i2.2.2:Int) f.acts.length)) fun _ =>
 .br ((((((f.acts.getD i2.2.2 default).kind) != 1)&&(((f.acts.getD i2.2.2 default).kind) != 3))&&(((f.acts.getD i2.2.2 default).kind) != 4))||(decide (((f.acts.getD i2.2.2 default).day) > day)))
 (.r 8 .z fun _ =>
 .wi 13 (w64 ((i2.2.2:Int)+1)) ((i2.2.2+1:Nat):Int) <|
 .fin (.inr (i2.1,i2.2.1,i2.2.2+1)))
 (.br ((!i2.2.1)||(decide (((f.acts.getD i2.2.2 default).day) < i2.1)))
 (.r 8 .z fun _ =>
 .wi 13 (w64 ((i2.2.2:Int)+1)) ((i2.2.2+1:Nat):Int) <|
 .fin (.inr ((f.acts.getD i2.2.2 default).day,true,i2.2.2+1)))
 (.r 8 .z fun _ =>
 .wi 13 (w64 ((i2.2.2:Int)+1)) ((i2.2.2+1:Nat):Int) <|
 .fin (.inr (i2.1,i2.2.1,i2.2.2+1)))))
 (.fin (.inl (.inr (i2.1,i2.2.1)))))
 (fun (b1:Int × Bool)=>⟨[(6,iv b1.1),(7,bv b1.2)],[]⟩) fun b1 =>
 .fin (b1.1,b1.2)
noncomputable def title_dishonoured (f:File) (day:Int):Int × Bool:=(title_dishonoured_sk f day).val
theorem title_dishonoured_ok (f:File) (day:Int):(title_dishonoured_sk f day).obs (fun _=>True):=by
 unfold title_dishonoured_sk
 exact okD
noncomputable def title_dishonoured_k (f:File) (day:Int):Ctr (Int × Bool):=kk tok mixed Tryz.func154 [av f.cells,iv day] (fun x=>.tup [iv x.1,bv x.2]) true (title_dishonoured_sk f day) (title_dishonoured f day) (fun (_:True)=>title_dishonoured_ok f day)
noncomputable def title_endorsements_sk (f:File) (part:Int) (day:Int):Sk (Unit) :=
 .fin ()
noncomputable def title_endorsements (f:File) (part:Int) (day:Int):Unit:=(title_endorsements_sk f part day).val
theorem title_endorsements_eq (f:File) (part:Int) (day:Int):title_endorsements f part day=():=rfl
theorem title_endorsements_ok (f:File) (part:Int) (day:Int):(title_endorsements_sk f part day).obs (fun _=>True):=by
 unfold title_endorsements_sk
 exact okE
noncomputable def title_endorsements_k (f:File) (part:Int) (day:Int):Ctr (Unit):=kk tok mixed Tryz.func155 [av f.cells,iv part,iv day] (fun x=>.fn 210 [.ref f.cells,.ref [dI day],.ref [dI part]]) false (title_endorsements_sk f part day) (title_endorsements f part day) (fun (_:True)=>title_endorsements_ok f part day)
end Go.Proofs.YtbcnlpcaajpclaaGreatDoor
