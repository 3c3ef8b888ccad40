/- Functions, as sketches. -/
import Derived.Test.YtbcnlpcaajpclaaGreatDoorRc1
namespace Go.Proofs.YtbcnlpcaajpclaaGreatDoor
open Go Go.Av
set_option linter.unusedSimpArgs false
set_option linter.unusedVariables false
set_option maxHeartbeats 1000000
set_option maxRecDepth 100000
noncomputable def money_Convert_sk (rates:List RateX) (sum:Int) (from_:Int) (to_:Int) (day:Int):Sk (Int × Int) :=
 .r 1 (.dep (.wh (decide (((rates.length:Nat):Int) > 100)) false ((money_within_k sum 1099511627776).c)) fun x1=>.wh ((decide (((rates.length:Nat):Int) > 100))||(!x1)) false ((money_within_k day 100000).c)) fun p12 =>
 .bind true (fun _=>True)
 (.loop (default:Sum (Int × Int) (Bool)) (fun i4=>i4.2≤rates.length) (fun i4=>rates.length - i4.2) ((((decide (((rates.length:Nat):Int) > 100))||(!p12.1))||(!p12.2),0):Bool × Nat)
 (fun (i4:Bool × Nat)=>⟨[(12,bv i4.1),(34,iv ((i4.2:Nat):Int))],[]⟩) fun i4 =>
 .bnd 0 0 rates.length <|
 .br (decide (((i4.2:Nat):Int) < ((rates.length:Nat):Int)))
 (.r 4 (.p (ixP ((i4.2:Nat):Int) rates.length)) fun _ =>
 .r 5 (.dep (.wh i4.1 false ((money_within_k (w64 (((rates.getD i4.2 default).num) - 1)) 1073741823).c)) fun x5=>.wh (i4.1||(!x5)) false ((money_within_k (w64 (((rates.getD i4.2 default).den) - 1)) 1073741823).c)) fun p7 =>
 .r 6 .z fun _ =>
 .wi 34 (w64 (((i4.2:Nat):Int)+1)) ((i4.2+1:Nat):Int) <|
 .fin (.inr ((i4.1||(!p7.1))||(!p7.2),i4.2+1)))
 (.fin (.inl (.inr i4.1))))
 (fun (b3:Bool)=>⟨[(12,bv b3)],[]⟩) fun b3 =>
 .br b3
 (.fin (0,1))
 (.br (from_ == to_)
 (.fin (sum,0))
 (.r 11 ((money_latest_k rates from_ to_ day).c) fun x8 =>
 .bind false (fun _=>True)
 (.br (!x8.2)
 (.r 13 ((money_latest_k rates to_ from_ day).c) fun x10 =>
 .fin (.inr (x10.2,{ x10.1 with num:=x10.1.den,den:=x10.1.num })))
 (.fin (.inr (x8.2,x8.1))))
 (fun (b9:Bool × RateX)=>⟨[(16,bv b9.1)],[(15,.box (b9.2.cells.map .d))]⟩) fun b9 =>
 .br (!b9.1)
 (.fin (0,4))
 (.r 17 ((money_part_k sum b9.2.num b9.2.den).c) fun x11 =>
 .br (!x11.2.2)
 (.fin (0,3))
 (.fin (x11.1,0)))))
noncomputable def money_Convert (rates:List RateX) (sum:Int) (from_:Int) (to_:Int) (day:Int):Int × Int:=(money_Convert_sk rates sum from_ to_ day).val
theorem money_Convert_ok (rates:List RateX) (sum:Int) (from_:Int) (to_:Int) (day:Int):(money_Convert_sk rates sum from_ to_ day).obs (fun _=>True):=by
  unfold money_Convert_sk
  try simp only [money_latest_k,money_part_k,money_within_k,money_within_eq]
  exact okG

noncomputable def money_Convert_k (rates:List RateX) (sum:Int) (from_:Int) (to_:Int) (day:Int):Ctr (Int × Int):=kk tok mixed Tryz.func56 [lv RateX.cells rates,iv sum,iv from_,iv to_,iv day] (fun x=>.tup [iv x.1,iv x.2]) true (money_Convert_sk rates sum from_ to_ day) (money_Convert rates sum from_ to_ day) (fun (_:True)=>money_Convert_ok rates sum from_ to_ day)
noncomputable def recognize_Received_sk (r:Realm) (f:File) (j:Judgment) (l:List Receipt) (day:Int):Sk (Int × Int) :=
 .r 1 (.dep ((recognize_Check_k r f j).c) fun x1=>.wh (x1 != 0) false ((recognize_within_k day 100001).c)) fun p7 =>
 .br ((p7.1 != 0)||(!p7.2))
 (.fin (0,1))
 (.br (decide (((l.length:Nat):Int) > 200))
 (.fin (0,6))
 (.r 5 ((slices_ContainsFunc_110_k l r).c) fun x3 =>
 .br x3
 (.fin (0,1))
 (.bind true (fun _=>True)
 (.loop (default:Sum (Int × Int) (Int)) (fun i5=>i5.2≤l.length) (fun i5=>l.length - i5.2) ((0,0):Int × Nat)
 (fun (i5:Int × Nat)=>⟨[(12,iv i5.1),(38,iv ((i5.2:Nat):Int))],[]⟩) fun i5 =>
 .bnd 36 0 l.length <|
 .br (decide (((i5.2:Nat):Int) < ((l.length:Nat):Int)))
 (.r 10 (.p (ixP ((i5.2:Nat):Int) l.length)) fun _ =>
 .br (((((l.getD i5.2 default).bill) != j.bill)||(((l.getD i5.2 default).to_) != j.creditor))||(decide (((l.getD i5.2 default).day) > day)))
 (.r 16 .z fun _ =>
 .wi 38 (w64 (((i5.2:Nat):Int)+1)) ((i5.2+1:Nat):Int) <|
 .fin (.inr (i5.1,i5.2+1)))
 (.r 12 ((money_Convert_k r.rates ((l.getD i5.2 default).sum) ((l.getD i5.2 default).currency) f.bill.currency ((l.getD i5.2 default).day)).c) fun x6 =>
 .br (x6.2 != 0)
 (.fin (.inl (.inl (0,x6.2))))
 (.r 16 .z fun _ =>
 .wi 38 (w64 (((i5.2:Nat):Int)+1)) ((i5.2+1:Nat):Int) <|
 .fin (.inr (w64 (i5.1+x6.1),i5.2+1)))))
 (.fin (.inl (.inr i5.1))))
 (fun (b4:Int)=>⟨[(12,iv b4)],[]⟩) fun b4 =>
 .fin (b4,0))))
noncomputable def recognize_Received (r:Realm) (f:File) (j:Judgment) (l:List Receipt) (day:Int):Int × Int:=(recognize_Received_sk r f j l day).val
theorem recognize_Received_ok (r:Realm) (f:File) (j:Judgment) (l:List Receipt) (day:Int) (h_f_Small:f.Small):(recognize_Received_sk r f j l day).obs (fun _=>True):=by
  simp only [File.Small,Realm.Small] at h_f_Small
  unfold recognize_Received_sk
  try simp only [money_Convert_k,recognize_Check_k,recognize_within_k,slices_ContainsFunc_110_k,recognize_within_eq,File.Small,Realm.Small]
  exact okG

noncomputable def recognize_Received_k (r:Realm) (f:File) (j:Judgment) (l:List Receipt) (day:Int):Ctr (Int × Int):=kk tok mixed Tryz.func55 [av r.cells,av f.cells,av j.cells,lv Receipt.cells l,iv day] (fun x=>.tup [iv x.1,iv x.2]) true (recognize_Received_sk r f j l day) (recognize_Received r f j l day) (fun (h:(f.Small))=>recognize_Received_ok r f j l day h)
structure CellX where
  known:Bool
  n:Int
  deriving Inhabited
def CellX.cells (c:CellX):List D:=[dB c.known,dI c.n]
def CellX.E:Enc CellX:=⟨CellX.cells,2,fun _=>rfl,fun _=>rfl⟩
structure Said where
  cell:CellX
  order:Int
  path:List Int
  err:Int
  deriving Inhabited
def Said.cells (c:Said):List D:=c.cell.cells++[dI c.order,slD intC c.path,dI c.err]
def Said.E:Enc Said:=⟨Said.cells,5,fun _=>rfl,fun _=>rfl⟩
structure CaseX where
  file:File
  sign:Int
  holder:Int
  defence:Int
  due:Int
  day:Int
  deriving Inhabited
def CaseX.cells (c:CaseX):List D:=c.file.cells++[dI c.sign,dI c.holder,dI c.defence,dI c.due,dI c.day]
def CaseX.E:Enc CaseX:=⟨CaseX.cells,24,fun _=>rfl,fun _=>rfl⟩
noncomputable def record_Vars_c1_sk (a:Alter) (v:CaseX):Sk (Bool) :=
 .fin (decide (a.at_≤v.sign))
noncomputable def record_Vars_c1 (a:Alter) (v:CaseX):Bool:=(record_Vars_c1_sk a v).val
theorem record_Vars_c1_eq (a:Alter) (v:CaseX):record_Vars_c1 a v=(decide (a.at_≤v.sign)):=rfl
theorem record_Vars_c1_ok (a:Alter) (v:CaseX):(record_Vars_c1_sk a v).obs (fun _=>True):=by
  unfold record_Vars_c1_sk
  exact okE

noncomputable def record_Vars_c1_k (a:Alter) (v:CaseX):Ctr (Bool):=kk tok mixed Tryz.func273 [av a.cells,.ref v.cells] (fun x=>bv x) true (record_Vars_c1_sk a v) (record_Vars_c1 a v) (fun (_:True)=>record_Vars_c1_ok a v)
noncomputable def slices_IndexFunc_273_sk (s:List Alter) (v:CaseX):Sk (Int) :=
 .bind true (fun b1=>∀ q,q < s.length→record_Vars_c1 (s.getD q default) v=false)
 (.loop (default:Sum (Int) (Unit)) (fun i2=>∀ q,q < i2→record_Vars_c1 (s.getD q default) v=false) (fun i2=>s.length - i2) (0:Nat)
 (fun (i2:Nat)=>⟨[(8,iv ((i2:Nat):Int))],[]⟩) fun i2 =>
 .bnd 0 0 s.length <|
 .br (decide (((i2:Nat):Int) < ((s.length:Nat):Int)))
 (.r 4 (.andl (.p (ixP ((i2:Nat):Int) s.length)) ((record_Vars_c1_k (s.getD i2 default) v).c)) fun x3 =>
 .br x3
 (.fin (.inl (.inl ((i2:Nat):Int))))
 (.r 6 .z fun _ =>
 .wi 8 (w64 (((i2:Nat):Int)+1)) ((i2+1:Nat):Int) <|
 .fin (.inr (i2+1))))
 (.fin (.inl (.inr ()))))
 (fun (_:Unit)=>⟨[],[]⟩) fun _ =>
 .fin (-1)
noncomputable def slices_IndexFunc_273 (s:List Alter) (v:CaseX):Int:=(slices_IndexFunc_273_sk s v).val
theorem slices_IndexFunc_273_pst (s:List Alter) (v:CaseX):(slices_IndexFunc_273_sk s v).pst (fun (x:Int)=>(x = -1∧∀ q,q < s.length→record_Vars_c1 (s.getD q default) v=false)∨(0≤x∧x < s.length∧record_Vars_c1 (s.getD x.toNat default) v=true∧∀ q,(q:Nat) < x.toNat→record_Vars_c1 (s.getD q default) v=false)):=by
  unfold slices_IndexFunc_273_sk
  try simp only [record_Vars_c1_k,record_Vars_c1_eq]
  exact okQ

theorem slices_IndexFunc_273_post (s:List Alter) (v:CaseX):(fun (x:Int)=>(x = -1∧∀ q,q < s.length→record_Vars_c1 (s.getD q default) v=false)∨(0≤x∧x < s.length∧record_Vars_c1 (s.getD x.toNat default) v=true∧∀ q,(q:Nat) < x.toNat→record_Vars_c1 (s.getD q default) v=false)) (slices_IndexFunc_273 s v):=have h:=Sk.pval _ (slices_IndexFunc_273_pst s v); h
theorem slices_IndexFunc_273_ok (s:List Alter) (v:CaseX):(slices_IndexFunc_273_sk s v).obs (fun _=>True):=by
  unfold slices_IndexFunc_273_sk
  try simp only [record_Vars_c1_k,record_Vars_c1_eq]
  exact okG

noncomputable def slices_IndexFunc_273_k (s:List Alter) (v:CaseX):Ctr (Int):=kk tok mixed Tryz.func288 [lv Alter.cells s,.fn 273 [.ref v.cells]] (fun x=>iv x) true (slices_IndexFunc_273_sk s v) (slices_IndexFunc_273 s v) (fun (_:True)=>slices_IndexFunc_273_ok s v) (fun (x:Int)=>(x = -1∧∀ q,q < s.length→record_Vars_c1 (s.getD q default) v=false)∨(0≤x∧x < s.length∧record_Vars_c1 (s.getD x.toNat default) v=true∧∀ q,(q:Nat) < x.toNat→record_Vars_c1 (s.getD q default) v=false)) (slices_IndexFunc_273_post s v)
noncomputable def slices_ContainsFunc_273_sk (s:List Alter) (v:CaseX):Sk (Bool) :=
 .r 1 ((slices_IndexFunc_273_k s v).c) fun x1 =>
 .fin (decide (x1≥0))
noncomputable def slices_ContainsFunc_273 (s:List Alter) (v:CaseX):Bool:=(slices_ContainsFunc_273_sk s v).val
theorem slices_ContainsFunc_273_pst (s:List Alter) (v:CaseX):(slices_ContainsFunc_273_sk s v).pst (fun (x:Bool)=>(x=true↔∃ q,q < s.length∧record_Vars_c1 (s.getD q default) v=true)):=by
  unfold slices_ContainsFunc_273_sk
  try simp only [slices_IndexFunc_273_k]
  exact okP

theorem slices_ContainsFunc_273_post (s:List Alter) (v:CaseX):(fun (x:Bool)=>(x=true↔∃ q,q < s.length∧record_Vars_c1 (s.getD q default) v=true)) (slices_ContainsFunc_273 s v):=have h:=Sk.pval _ (slices_ContainsFunc_273_pst s v); h
theorem slices_ContainsFunc_273_ok (s:List Alter) (v:CaseX):(slices_ContainsFunc_273_sk s v).obs (fun _=>True):=by
  unfold slices_ContainsFunc_273_sk
  try simp only [slices_IndexFunc_273_k]
  exact okE

noncomputable def slices_ContainsFunc_273_k (s:List Alter) (v:CaseX):Ctr (Bool):=kk tok mixed Tryz.func272 [lv Alter.cells s,.fn 273 [.ref v.cells]] (fun x=>bv x) true (slices_ContainsFunc_273_sk s v) (slices_ContainsFunc_273 s v) (fun (_:True)=>slices_ContainsFunc_273_ok s v) (fun (x:Bool)=>(x=true↔∃ q,q < s.length∧record_Vars_c1 (s.getD q default) v=true)) (slices_ContainsFunc_273_post s v)
noncomputable def realm_in_sk (i:Int) (n:Int):Sk (Bool) :=
 .fin ((decide (i≥0))&&(decide (i < n)))
noncomputable def realm_in (i:Int) (n:Int):Bool:=(realm_in_sk i n).val
theorem realm_in_eq (i:Int) (n:Int):realm_in i n=((decide (i≥0))&&(decide (i < n))):=rfl
theorem realm_in_ok (i:Int) (n:Int):(realm_in_sk i n).obs (fun _=>True):=by
  unfold realm_in_sk
  exact okE

noncomputable def realm_in_k (i:Int) (n:Int):Ctr (Bool):=kk tok mixed Tryz.func120 [iv i,iv n] (fun x=>bv x) true (realm_in_sk i n) (realm_in i n) (fun (_:True)=>realm_in_ok i n)
noncomputable def realm_OrderAt_sk (r:Realm) (city:Int):Sk (Int) :=
 .r 1 ((realm_in_k city ((r.cities.length:Nat):Int)).c) fun x1 =>
 .br (!x1)
 (.fin (-1))
 (.r 3 (.p (ixP city r.cities.length)) fun _ =>
 .fin ((r.cities.getD city.toNat default).order))
noncomputable def realm_OrderAt (r:Realm) (city:Int):Int:=(realm_OrderAt_sk r city).val
theorem realm_OrderAt_ok (r:Realm) (city:Int):(realm_OrderAt_sk r city).obs (fun _=>True):=by
  unfold realm_OrderAt_sk
  try simp only [realm_in_k,realm_in_eq]
  exact okG

noncomputable def realm_OrderAt_k (r:Realm) (city:Int):Ctr (Int):=kk tok mixed Tryz.func248 [av r.cells,iv city] (fun x=>iv x) true (realm_OrderAt_sk r city) (realm_OrderAt r city) (fun (_:True)=>realm_OrderAt_ok r city)
noncomputable def record_truth_sk (is_:Bool):Sk (CellX) :=
 .br is_
 (.fin ({ known:=true,n:=1 }:CellX))
 (.fin ({ known:=true,n:=0 }:CellX))
noncomputable def record_truth (is_:Bool):CellX:=(record_truth_sk is_).val
theorem record_truth_ok (is_:Bool):(record_truth_sk is_).obs (fun _=>True):=by
  unfold record_truth_sk
  exact okE

noncomputable def record_truth_k (is_:Bool):Ctr (CellX):=kk tok mixed Tryz.func46 [bv is_] (fun x=>av x.cells) true (record_truth_sk is_) (record_truth is_) (fun (_:True)=>record_truth_ok is_)
noncomputable def record_Fact_sk (f:File) (kind:Int) (at_:Int):Sk (CellX) :=
 .bind true (fun _=>True)
 (.loop (default:Sum (CellX) (Unit)) (fun i2=>i2≤f.facts.length) (fun i2=>f.facts.length - i2) (0:Nat)
 (fun (i2:Nat)=>⟨[(12,iv ((i2:Nat):Int))],[]⟩) fun i2 =>
 .bnd 10 0 f.facts.length <|
 .br (decide (((i2:Nat):Int) < ((f.facts.length:Nat):Int)))
 (.r 3 (.p (ixP ((i2:Nat):Int) f.facts.length)) fun _ =>
 .br ((((f.facts.getD i2 default).kind) == kind)&&(((f.facts.getD i2 default).at_) == at_))
 (.r 5 ((record_truth_k (((f.facts.getD i2 default).n) != 0)).c) fun x3 =>
 .fin (.inl (.inl x3)))
 (.r 6 .z fun _ =>
 .wi 12 (w64 (((i2:Nat):Int)+1)) ((i2+1:Nat):Int) <|
 .fin (.inr (i2+1))))
 (.fin (.inl (.inr ()))))
 (fun (_:Unit)=>⟨[],[]⟩) fun _ =>
 .fin ({ known:=false,n:=0 }:CellX)
noncomputable def record_Fact (f:File) (kind:Int) (at_:Int):CellX:=(record_Fact_sk f kind at_).val
theorem record_Fact_ok (f:File) (kind:Int) (at_:Int):(record_Fact_sk f kind at_).obs (fun _=>True):=by
  unfold record_Fact_sk
  try simp only [record_truth_k]
  exact okD

noncomputable def record_Fact_k (f:File) (kind:Int) (at_:Int):Ctr (CellX):=kk tok mixed Tryz.func16 [av f.cells,iv kind,iv at_] (fun x=>av x.cells) true (record_Fact_sk f kind at_) (record_Fact f kind at_) (fun (_:True)=>record_Fact_ok f kind at_)
noncomputable def record_Vars_sk (r:Realm) (c_:CaseX):Sk ((List CellX)) :=
 .r 3 (.dep ((record_within_k c_.sign ((c_.file.signs.length:Nat):Int)).c) fun x1=>.wh (((!x1)||(decide (c_.holder < (-1))))||(decide ((maxI c_.holder 0)≥((c_.file.signs.length:Nat):Int)))) false (.wh (c_.due != (-1)) true ((record_within_k c_.due 100001).c))) fun p25 =>
 .br ((((!p25.1)||(decide (c_.holder < (-1))))||(decide ((maxI c_.holder 0)≥((c_.file.signs.length:Nat):Int))))||((c_.due != (-1))&&(!p25.2)))
 (.fin [])
 (.r 5 (.p (ixP c_.sign c_.file.signs.length)) fun _ =>
 .r 6 ((record_within_k ((c_.file.signs.getD c_.sign.toNat default).day) 100001).c) fun x3 =>
 .br (!x3)
 (.fin [])
 (.bind false (fun _=>True)
 (.br (c_.due != (-1))
 (.fin (.inr (w64 (((c_.file.signs.getD c_.sign.toNat default).day) - c_.due))))
 (.fin (.inr 0)))
 (fun (b4:Int)=>⟨[(9,iv b4)],[]⟩) fun b4 =>
 .r 11 (.andl (.o [.nrm (mkC CellX.E 20 ({ known:=false,n:=0 }:CellX))]) (.p (mkP (20:Int) 16))) fun _ =>
 .r 12 (.andl (.o [.nrmm mkM0]) (.andl (.o [.nrmm (insN dI 0 c_.file.bill.sum)]) (.andl (.o [.nrmm (insC dI [0] [c_.file.bill.sum] rfl 1 c_.file.bill.parts)]) (.andl (.o [.nrmm (insC dI [0,1] [c_.file.bill.sum,c_.file.bill.parts] rfl 2 c_.file.bill.tenor.kind)]) (.andl (.o [.nrmm (insC dI [0,1,2] [c_.file.bill.sum,c_.file.bill.parts,c_.file.bill.tenor.kind] rfl 3 c_.file.bill.rate)]) (.andl (.o [.nrmm (insC dI [0,1,2,3] [c_.file.bill.sum,c_.file.bill.parts,c_.file.bill.tenor.kind,c_.file.bill.rate] rfl 4 ((c_.file.signs.getD c_.sign.toNat default).kind))]) (.andl (.o [.nrmm (insC dI [0,1,2,3,4] [c_.file.bill.sum,c_.file.bill.parts,c_.file.bill.tenor.kind,c_.file.bill.rate,(c_.file.signs.getD c_.sign.toNat default).kind] rfl 5 c_.defence)]) (.o [.nrmm (insC dI [0,1,2,3,4,5] [c_.file.bill.sum,c_.file.bill.parts,c_.file.bill.tenor.kind,c_.file.bill.rate,(c_.file.signs.getD c_.sign.toNat default).kind,c_.defence] rfl 6 b4)])))))))) fun _ =>
 .bind true (fun b5=>b5.length=20)
 (.mr 7 (fun g6=>g6.length=20) (List.replicate 20 ({ known:=false,n:=0 }:CellX):(List CellX))
 (fun g6 s8=>⟨[(10,ow 100002 g6)],[(100002,rowB 58 2 CellX.cells g6),(90,.it 74 7 s8)]⟩)
 (fun g9=>⟨[(10,ow 100002 g9)],[(100002,rowB 58 2 CellX.cells g9)]⟩)
 (fun g6 i7 =>
 .brt <|
 .r 14 (.p (i7 < 7)) fun _ =>
 .r 15 (.andl (.p (ixP (([0,1,2,3,4,5,6]:List Int).getD i7 0) g6.length)) (.andl (.o [.nrm (setC CellX.E g6 ((([0,1,2,3,4,5,6]:List Int).getD i7 0).toNat) ({ known:=true,n:=([c_.file.bill.sum,c_.file.bill.parts,c_.file.bill.tenor.kind,c_.file.bill.rate,(c_.file.signs.getD c_.sign.toNat default).kind,c_.defence,b4]:List Int).getD i7 default }:CellX))]) (.p ((([0,1,2,3,4,5,6]:List Int).getD i7 0).toNat < g6.length)))) fun _ =>
 .wn 100002 g6.length (g6.set ((([0,1,2,3,4,5,6]:List Int).getD i7 0).toNat) ({ known:=true,n:=([c_.file.bill.sum,c_.file.bill.parts,c_.file.bill.tenor.kind,c_.file.bill.rate,(c_.file.signs.getD c_.sign.toNat default).kind,c_.defence,b4]:List Int).getD i7 default }:CellX)).length <|
 .fin (g6.set ((([0,1,2,3,4,5,6]:List Int).getD i7 0).toNat) ({ known:=true,n:=([c_.file.bill.sum,c_.file.bill.parts,c_.file.bill.tenor.kind,c_.file.bill.rate,(c_.file.signs.getD c_.sign.toNat default).kind,c_.defence,b4]:List Int).getD i7 default }:CellX))) fun g9 =>
 .brf <|
 .fin (.inr g9))
 (fun (b5:(List CellX))=>⟨[(90,.any),(10,ow 100001 b5)],[(100001,rowB 58 2 CellX.cells b5)]⟩) fun b5 =>
 .r 16 ((slices_ContainsFunc_273_k c_.file.alters c_).c) fun x10 =>
 .r 17 (.dep ((realm_OrderAt_k r c_.file.bill.city).c) fun _=>(realm_OrderAt_k r c_.file.bill.pay).c) fun p24 =>
 .r 18 (.andl (.o [.nrmm mkM0]) (.andl (.o [.nrmm (insN dB 7 ((andK .i64 c_.file.bill.flags 1) != 0))]) (.andl (.o [.nrmm (insC dB [7] [(andK .i64 c_.file.bill.flags 1) != 0] rfl 8 (c_.file.bill.payee == (-1)))]) (.andl (.o [.nrmm (insC dB [7,8] [(andK .i64 c_.file.bill.flags 1) != 0,c_.file.bill.payee == (-1)] rfl 9 ((andK .i64 c_.file.bill.flags 4) != 0))]) (.andl (.o [.nrmm (insC dB [7,8,9] [(andK .i64 c_.file.bill.flags 1) != 0,c_.file.bill.payee == (-1),(andK .i64 c_.file.bill.flags 4) != 0] rfl 10 ((andK .i64 c_.file.bill.flags 2) != 0))]) (.andl (.o [.nrmm (insC dB [7,8,9,10] [(andK .i64 c_.file.bill.flags 1) != 0,c_.file.bill.payee == (-1),(andK .i64 c_.file.bill.flags 4) != 0,(andK .i64 c_.file.bill.flags 2) != 0] rfl 11 (p24.1 != p24.2))]) (.andl (.o [.nrmm (insC dB [7,8,9,10,11] [(andK .i64 c_.file.bill.flags 1) != 0,c_.file.bill.payee == (-1),(andK .i64 c_.file.bill.flags 4) != 0,(andK .i64 c_.file.bill.flags 2) != 0,p24.1 != p24.2] rfl 12 x10)]) (.andl (.o [.nrmm (insC dB [7,8,9,10,11,12] [(andK .i64 c_.file.bill.flags 1) != 0,c_.file.bill.payee == (-1),(andK .i64 c_.file.bill.flags 4) != 0,(andK .i64 c_.file.bill.flags 2) != 0,p24.1 != p24.2,x10] rfl 13 ((andK .i64 ((c_.file.signs.getD c_.sign.toNat default).flags) 1) != 0))]) (.o [.nrmm (insC dB [7,8,9,10,11,12,13] [(andK .i64 c_.file.bill.flags 1) != 0,c_.file.bill.payee == (-1),(andK .i64 c_.file.bill.flags 4) != 0,(andK .i64 c_.file.bill.flags 2) != 0,p24.1 != p24.2,x10,(andK .i64 ((c_.file.signs.getD c_.sign.toNat default).flags) 1) != 0] rfl 14 (decide (b4 > 0)))]))))))))) fun _ =>
 .bind true (fun b13=>b13.length=20)
 (.mr 8 (fun g14=>g14.length=20) (b5:(List CellX))
 (fun g14 s16=>⟨[(10,ow 100005 g14)],[(100005,rowB 58 2 CellX.cells g14),(139,.it 114 8 s16)]⟩)
 (fun g18=>⟨[(10,ow 100005 g18)],[(100005,rowB 58 2 CellX.cells g18)]⟩)
 (fun g14 i15 =>
 .brt <|
 .r 20 (.p (i15 < 8)) fun _ =>
 .r 21 (.depr ((record_truth_k (([(andK .i64 c_.file.bill.flags 1) != 0,c_.file.bill.payee == (-1),(andK .i64 c_.file.bill.flags 4) != 0,(andK .i64 c_.file.bill.flags 2) != 0,p24.1 != p24.2,x10,(andK .i64 ((c_.file.signs.getD c_.sign.toNat default).flags) 1) != 0,decide (b4 > 0)]:List Bool).getD i15 default)).c) fun x17=>.andl (.p (ixP (([7,8,9,10,11,12,13,14]:List Int).getD i15 0) g14.length)) (.andl (.o [.nrm (setC CellX.E g14 ((([7,8,9,10,11,12,13,14]:List Int).getD i15 0).toNat) x17)]) (.p ((([7,8,9,10,11,12,13,14]:List Int).getD i15 0).toNat < g14.length)))) fun x17 =>
 .wn 100005 g14.length (g14.set ((([7,8,9,10,11,12,13,14]:List Int).getD i15 0).toNat) x17).length <|
 .fin (g14.set ((([7,8,9,10,11,12,13,14]:List Int).getD i15 0).toNat) x17)) fun g18 =>
 .brf <|
 .fin (.inr g18))
 (fun (b13:(List CellX))=>⟨[(139,.any),(10,ow 100004 b13)],[(100004,rowB 58 2 CellX.cells b13)]⟩) fun b13 =>
 .r 22 (.depr ((record_Fact_k c_.file 0 c_.sign).c) fun x19=>.andl (.p (ixP (15:Int) b13.length)) (.andl (.o [.nrm (setC CellX.E b13 15 x19)]) (.p (15 < b13.length)))) fun x19 =>
 .wn 100004 b13.length (b13.set 15 x19).length <|
 .r 23 (.depr ((record_Fact_k c_.file 1 c_.sign).c) fun x20=>.andl (.p (ixP (16:Int) ((b13.set 15 x19).length))) (.andl (.o [.nrm (setC CellX.E (b13.set 15 x19) 16 x20)]) (.p (16 < (b13.set 15 x19).length)))) fun x20 =>
 .wn 100004 (b13.set 15 x19).length ((b13.set 15 x19).set 16 x20).length <|
 .r 24 (.depr ((record_Fact_k c_.file 2 c_.sign).c) fun x21=>.andl (.p (ixP (17:Int) (((b13.set 15 x19).set 16 x20).length))) (.andl (.o [.nrm (setC CellX.E ((b13.set 15 x19).set 16 x20) 17 x21)]) (.p (17 < ((b13.set 15 x19).set 16 x20).length)))) fun x21 =>
 .wn 100004 ((b13.set 15 x19).set 16 x20).length (((b13.set 15 x19).set 16 x20).set 17 x21).length <|
 .r 25 (.depr ((record_Fact_k c_.file 3 (maxI c_.holder 0)).c) fun x22=>.andl (.p (ixP (18:Int) ((((b13.set 15 x19).set 16 x20).set 17 x21).length))) (.andl (.o [.nrm (setC CellX.E (((b13.set 15 x19).set 16 x20).set 17 x21) 18 x22)]) (.p (18 < (((b13.set 15 x19).set 16 x20).set 17 x21).length)))) fun x22 =>
 .wn 100004 (((b13.set 15 x19).set 16 x20).set 17 x21).length ((((b13.set 15 x19).set 16 x20).set 17 x21).set 18 x22).length <|
 .r 26 (.depr ((record_Fact_k c_.file 4 (maxI c_.holder 0)).c) fun x23=>.andl (.p (ixP (19:Int) (((((b13.set 15 x19).set 16 x20).set 17 x21).set 18 x22).length))) (.andl (.o [.nrm (setC CellX.E ((((b13.set 15 x19).set 16 x20).set 17 x21).set 18 x22) 19 x23)]) (.p (19 < ((((b13.set 15 x19).set 16 x20).set 17 x21).set 18 x22).length)))) fun x23 =>
 .wn 100004 ((((b13.set 15 x19).set 16 x20).set 17 x21).set 18 x22).length (((((b13.set 15 x19).set 16 x20).set 17 x21).set 18 x22).set 19 x23).length <|
 .fin (((((b13.set 15 x19).set 16 x20).set 17 x21).set 18 x22).set 19 x23)))
noncomputable def record_Vars (r:Realm) (c_:CaseX):(List CellX):=(record_Vars_sk r c_).val
theorem keys7:(∀ i,i < 7→0≤([0,1,2,3,4,5,6]:List Int).getD i 0∧([0,1,2,3,4,5,6]:List Int).getD i 0 < 20)∧∀ i,i < 7→∀ j,j < 7→i≠j→(([0,1,2,3,4,5,6]:List Int).getD j 0).toNat≠(([0,1,2,3,4,5,6]:List Int).getD i 0).toNat:=by decide
theorem keys8:(∀ i,i < 8→0≤([7,8,9,10,11,12,13,14]:List Int).getD i 0∧([7,8,9,10,11,12,13,14]:List Int).getD i 0 < 20)∧∀ i,i < 8→∀ j,j < 8→i≠j→(([7,8,9,10,11,12,13,14]:List Int).getD j 0).toNat≠(([7,8,9,10,11,12,13,14]:List Int).getD i 0).toNat:=by decide
theorem record_Vars_pst (r:Realm) (c_:CaseX):(record_Vars_sk r c_).pst (fun (x:(List CellX))=>x=[]∨(x.length=20∧0≤c_.sign∧c_.sign < c_.file.signs.length)):=by
  refine Sk.pst_of _ ?_
  unfold record_Vars_sk
  simp only [Sk.pstq,Sk.isLoop,reduceCtorEq,ON,kk,realm_OrderAt_k,record_Fact_k,record_truth_k,record_within_k,slices_ContainsFunc_273_k,record_within_eq,forall_eq,maxLen]
  all_goals (repeat' first | assumption | (apply And.intro) | (intro h))
  all_goals first | trivial | assumption | omega | ((try simp only [LN] at *) <;> first | omega | (refine (w64_id ?_ ?_).trans ?_ <;> omega) | (simp (disch:=omega) only [w64_id] at *; omega) | (grind) | (simp_all; done) | (simp_all; omega))

theorem record_Vars_post (r:Realm) (c_:CaseX):(fun (x:(List CellX))=>x=[]∨(x.length=20∧0≤c_.sign∧c_.sign < c_.file.signs.length)) (record_Vars r c_):=have h:=Sk.pval _ (record_Vars_pst r c_); h
theorem record_Vars_ok (r:Realm) (c_:CaseX):(record_Vars_sk r c_).obs (fun _=>True):=by
  refine Sk.obs_of _ ?_
  unfold record_Vars_sk
  simp only [Sk.obq,Sk.isLoop,reduceCtorEq,ON,kk,Sk.pst,realm_OrderAt_k,record_Fact_k,record_truth_k,record_within_k,slices_ContainsFunc_273_k,record_within_eq,forall_eq,maxLen]
  all_goals (repeat' first | (apply And.intro) | (intro h))
  all_goals first | trivial | assumption | omega | (have:=keys7.1 _ ‹_ < 7›; (try simp only [LN] at *) <;> omega) | (have:=keys8.1 _ ‹_ < 8›; (try simp only [LN] at *) <;> omega) | exact List.set_comm _ _ (keys7.2 _ ‹_› _ ‹_› ‹_›) | exact List.set_comm _ _ (keys8.2 _ ‹_› _ ‹_› ‹_›) | ((try simp only [LN] at *) <;> omega)

noncomputable def record_Vars_k (r:Realm) (c_:CaseX):Ctr ((List CellX)):=kk tok mixed Tryz.func252 [av r.cells,av c_.cells] (fun x=>lv CellX.cells x) false (record_Vars_sk r c_) (record_Vars r c_) (fun (_:True)=>record_Vars_ok r c_) (fun (x:(List CellX))=>x=[]∨(x.length=20∧0≤c_.sign∧c_.sign < c_.file.signs.length)) (record_Vars_post r c_)
noncomputable def ask_of_sk (r:Realm) (c_:CaseX):Sk (CaseX × (List CellX)) :=
 .r 1 ((record_At_k c_.file c_.day).c) fun x1 =>
 .r 2 ((record_Vars_k r ({ file:=x1,sign:=c_.sign,holder:=c_.holder,defence:=c_.defence,due:=c_.due,day:=c_.day }:CaseX)).c) fun x2 =>
 .fin (({ file:=x1,sign:=c_.sign,holder:=c_.holder,defence:=c_.defence,due:=c_.due,day:=c_.day }:CaseX),x2)
noncomputable def ask_of (r:Realm) (c_:CaseX):CaseX × (List CellX):=(ask_of_sk r c_).val
theorem ask_of_pst (r:Realm) (c_:CaseX):(ask_of_sk r c_).pst (fun (x:CaseX × (List CellX))=>x.2=[]∨(x.2.length=20∧0≤x.1.sign∧x.1.sign < x.1.file.signs.length)):=by
  unfold ask_of_sk
  try simp only [record_At_k,record_Vars_k,File.Small,Realm.Small]
  exact okP

theorem ask_of_post (r:Realm) (c_:CaseX):(fun (x:CaseX × (List CellX))=>x.2=[]∨(x.2.length=20∧0≤x.1.sign∧x.1.sign < x.1.file.signs.length)) (ask_of r c_):=have h:=Sk.pval _ (ask_of_pst r c_); h
theorem ask_of_ok (r:Realm) (c_:CaseX) (hf:c_.file.Small):(ask_of_sk r c_).obs (fun _=>True):=by
  simp only [File.Small,Realm.Small] at hf
  unfold ask_of_sk
  try simp only [record_At_k,record_Vars_k,File.Small,Realm.Small]
  exact okD

noncomputable def ask_of_k (r:Realm) (c_:CaseX):Ctr (CaseX × (List CellX)):=kk tok mixed Tryz.func218 [av r.cells,av c_.cells] (fun x=>.tup [av x.1.cells,lv CellX.cells x.2]) false (ask_of_sk r c_) (ask_of r c_) (fun (h:(c_.file.Small))=>ask_of_ok r c_ h) (fun (x:CaseX × (List CellX))=>x.2=[]∨(x.2.length=20∧0≤x.1.sign∧x.1.sign < x.1.file.signs.length)) (ask_of_post r c_)
theorem mono_stepR {n:Nat} {g:Nat→Int} (h:∀ q,q < n→q≠0→g (q - 1)≤g q) (i:Nat):∀ k,i+k < n→g i≤g (i+k)
  | 0,_=>Int.le_refl _
  | k+1,hk=>Int.le_trans (mono_stepR h i k (by omega)) (h (i+(k+1)) hk (by omega))
theorem tw_lenR {α:Type} [Inhabited α] (p:α→Bool):∀ (l:List α) (i:Nat),i < l.length→(∀ q,q≤i→p (l.getD q default)=true)→i < (l.takeWhile p).length
  | [],i,h,_=>absurd h (by simp)
  | x :: r,i,h,hp=>by
    have h0:p x=true:=hp 0 (by omega)
    rw [List.takeWhile_cons,h0,if_pos rfl,List.length_cons]
    cases i with
    | zero=>omega
    | succ i=>have:=tw_lenR p r i (by simpa using h) (fun q hq=>by have:=hp (q+1) (by omega); simpa using this); omega
theorem RightF.mono {r:Realm} {f:File} (h:RightF r f) {i j:Nat} (hij:i≤j) (hj:j < f.signs.length):(f.signs.getD i default).day≤(f.signs.getD j default).day:=by
  have:=mono_stepR (n:=f.signs.length) (g:=fun q=>(f.signs.getD q default).day) (fun q hq h0=>(h.2.2.1 q hq).2.1 h0) i (j - i) (by omega)
  rwa [show i+(j - i)=j by omega] at this
theorem RightF.at_in {r:Realm} {f:File} (h:RightF r f) {d y:Int} (h0:0≤y) (h1:y < f.signs.length) (h2:(f.signs.getD y.toNat default).day≤d):y < (record_At f d).signs.length:=by
  have:y.toNat < (record_At f d).signs.length:=by
    rw [record_At_eq]
    refine tw_lenR _ _ _ (by omega) (fun q hq=>decide_eq_true ?_)
    have:=h.mono hq (by omega)
    omega
  omega
theorem bill_AtR (f:File) (d:Int):(record_At f d).bill=f.bill:=by rw [record_At_eq]
theorem sign_AtR (f:File) (d:Int) (i:Nat) (h:i < (record_At f d).signs.length):(record_At f d).signs.getD i default=f.signs.getD i default:=by
  rw [record_At_eq] at h ⊢
  exact (takeWhile_getD _ _ _ h).1
theorem signs_At_leR (f:File) (d:Int):(record_At f d).signs.length≤f.signs.length:=by
  rw [record_At_eq]
  exact (List.takeWhile_sublist _).length_le
theorem At_sums {f:File} (h:f.SumOK) (d:Int):(record_At f d).SumOK:=by
  obtain ⟨h1,h2,h3,h4⟩:=h
  have h2:=(all_getD (P:=fun x:Alter=>SumP x.sum)).1 h2
  have h3:=(all_getD (P:=fun x:Sign=>SumP x.sum)).1 h3
  have h4:=(all_getD (P:=fun x:ActX=>SumP x.sum)).1 h4
  unfold File.SumOK
  rw [record_At_eq]
  exact ⟨h1,(all_getD (P:=fun x:Alter=>SumP x.sum)).2 fun x hx=>h2 x (List.mem_filter.1 hx).1,(all_getD (P:=fun x:Sign=>SumP x.sum)).2 fun x hx=>h3 x ((List.takeWhile_sublist _).subset hx),(all_getD (P:=fun x:ActX=>SumP x.sum)).2 fun x hx=>h4 x ((List.takeWhile_sublist _).subset hx)⟩
theorem RightF.at_sums {r:Realm} {f:File} (h:RightF r f) (d:Int):(record_At f d).SumOK:=At_sums h.sums d
theorem At_small {f:File} (h:f.Small) (d:Int):(record_At f d).Small:=by
  have h1:=record_At_post f d
  unfold File.Small at h ⊢
  dsimp only at h1
  omega
theorem RightF.at_base {r:Realm} {f:File} (h:RightF r f) (d:Int):∀ i,i < (record_At f d).signs.length→(((record_At f d).signs.getD i default).kind=3∨((record_At f d).signs.getD i default).kind=4)→0≤((record_At f d).signs.getD i default).for_∧((record_At f d).signs.getD i default).for_ < (i:Int):=by
  intro i hi
  rw [sign_AtR f d i hi]
  have:=signs_At_leR f d
  exact (h.2.2.1 i (by omega)).2.2.2.2.2.2.2.2
theorem RightF.at_who {r:Realm} {f:File} (h:RightF r f) (d:Int) {y:Int} (h0:0≤y) (h1:y < (record_At f d).signs.length):0≤((record_At f d).signs.getD y.toNat default).who∧((record_At f d).signs.getD y.toNat default).who < (r.firms.length:Int):=by
  rw [sign_AtR f d y.toNat (by omega)]
  have:=signs_At_leR f d
  exact (h.2.2.1 y.toNat (by omega)).1
noncomputable def slices_Index_sk (s:List Int) (v:Int):Sk (Int) :=
 .bind true (fun b1=>∀ q,q < s.length→(s.getD q default == v)=false)
 (.loop (default:Sum (Int) (Unit)) (fun i2=>∀ q,q < i2→(s.getD q default == v)=false) (fun i2=>s.length - i2) (0:Nat)
 (fun (i2:Nat)=>⟨[(8,iv ((i2:Nat):Int))],[]⟩) fun i2 =>
 .bnd 0 0 s.length <|
 .br (decide (((i2:Nat):Int) < ((s.length:Nat):Int)))
 (.r 4 (.p (ixP ((i2:Nat):Int) s.length)) fun _ =>
 .br (v == (s.getD i2 default))
 (.fin (.inl (.inl ((i2:Nat):Int))))
 (.r 6 .z fun _ =>
 .wi 8 (w64 (((i2:Nat):Int)+1)) ((i2+1:Nat):Int) <|
 .fin (.inr (i2+1))))
 (.fin (.inl (.inr ()))))
 (fun (_:Unit)=>⟨[],[]⟩) fun _ =>
 .fin (-1)
noncomputable def slices_Index (s:List Int) (v:Int):Int:=(slices_Index_sk s v).val
theorem slices_Index_pst (s:List Int) (v:Int):(slices_Index_sk s v).pst (fun (x:Int)=>(x = -1∧∀ q,q < s.length→(s.getD q default == v)=false)∨(0≤x∧x < s.length∧(s.getD x.toNat default == v)=true∧∀ q,(q:Nat) < x.toNat→(s.getD q default == v)=false)):=by
  unfold slices_Index_sk
  exact okP

theorem slices_Index_post (s:List Int) (v:Int):(fun (x:Int)=>(x = -1∧∀ q,q < s.length→(s.getD q default == v)=false)∨(0≤x∧x < s.length∧(s.getD x.toNat default == v)=true∧∀ q,(q:Nat) < x.toNat→(s.getD q default == v)=false)) (slices_Index s v):=have h:=Sk.pval _ (slices_Index_pst s v); h
theorem slices_Index_ok (s:List Int) (v:Int):(slices_Index_sk s v).obs (fun _=>True):=by
  unfold slices_Index_sk
  exact okD

noncomputable def slices_Index_k (s:List Int) (v:Int):Ctr (Int):=kk tok mixed Tryz.func159 [lv intC s,iv v] (fun x=>iv x) true (slices_Index_sk s v) (slices_Index s v) (fun (_:True)=>slices_Index_ok s v) (fun (x:Int)=>(x = -1∧∀ q,q < s.length→(s.getD q default == v)=false)∨(0≤x∧x < s.length∧(s.getD x.toNat default == v)=true∧∀ q,(q:Nat) < x.toNat→(s.getD q default == v)=false)) (slices_Index_post s v)
noncomputable def slices_Contains_sk (s:List Int) (v:Int):Sk (Bool) :=
 .r 1 ((slices_Index_k s v).c) fun x1 =>
 .fin (decide (x1≥0))
noncomputable def slices_Contains (s:List Int) (v:Int):Bool:=(slices_Contains_sk s v).val
theorem slices_Contains_pst (s:List Int) (v:Int):(slices_Contains_sk s v).pst (fun (x:Bool)=>(x=true↔∃ q,q < s.length∧(s.getD q default == v)=true)):=by
  unfold slices_Contains_sk
  try simp only [slices_Index_k]
  exact okP

theorem slices_Contains_post (s:List Int) (v:Int):(fun (x:Bool)=>(x=true↔∃ q,q < s.length∧(s.getD q default == v)=true)) (slices_Contains s v):=have h:=Sk.pval _ (slices_Contains_pst s v); h
theorem slices_Contains_ok (s:List Int) (v:Int):(slices_Contains_sk s v).obs (fun _=>True):=by
  unfold slices_Contains_sk
  try simp only [slices_Index_k]
  exact okE

noncomputable def slices_Contains_k (s:List Int) (v:Int):Ctr (Bool):=kk tok mixed Tryz.func87 [lv intC s,iv v] (fun x=>bv x) true (slices_Contains_sk s v) (slices_Contains s v) (fun (_:True)=>slices_Contains_ok s v) (fun (x:Bool)=>(x=true↔∃ q,q < s.length∧(s.getD q default == v)=true)) (slices_Contains_post s v)
noncomputable def order_Type_sk (ask:Int):Sk (Int × Bool) :=
 .br ((decide (ask < 0))||(decide (ask≥22)))
 (.fin (0,false))
 (.r 3 (.andl (.o [.nrm (litC intE [6,7,10,12,13,14,15,16,20,21])]) ((slices_Contains_k [6,7,10,12,13,14,15,16,20,21] ask).c)) fun x1 =>
 .br x1
 (.fin (0,true))
 (.fin (1,true)))
noncomputable def order_Type (ask:Int):Int × Bool:=(order_Type_sk ask).val
theorem order_Type_ok (ask:Int):(order_Type_sk ask).obs (fun _=>True):=by
  unfold order_Type_sk
  try simp only [slices_Contains_k]
  exact okE

noncomputable def order_Type_k (ask:Int):Ctr (Int × Bool):=kk tok mixed Tryz.func219 [iv ask] (fun x=>.tup [iv x.1,bv x.2]) true (order_Type_sk ask) (order_Type ask) (fun (_:True)=>order_Type_ok ask)
noncomputable def ask_places_sk (r:Realm) (forum:Int) (c_:CaseX):Sk ((List Int)) :=
 .r 1 (.p (ixP c_.sign c_.file.signs.length)) fun _ =>
 .br ((((decide (((c_.file.signs.getD c_.sign.toNat default).who) < 0))||(decide (((c_.file.signs.getD c_.sign.toNat default).who)≥((r.firms.length:Nat):Int))))||(decide (forum < 0)))||(decide (forum≥((r.orders.length:Nat):Int))))
 (.fin [])
 (.r 4 (.andl (.o [.nrm (mkC intE 5 0)]) (.p (mkP (5:Int) 8))) fun _ =>
 .r 5 (.andl (.p (ixP (0:Int) ((List.replicate 5 (0:Int)).length))) (.andl (.o [.nrm (setC intE (List.replicate 5 (0:Int)) 0 forum)]) (.p (0 < (List.replicate 5 (0:Int)).length)))) fun _ =>
 .wn 42 (List.replicate 5 (0:Int)).length ((List.replicate 5 (0:Int)).set 0 forum).length <|
 .r 6 (.depr ((realm_OrderAt_k r ((c_.file.signs.getD c_.sign.toNat default).city)).c) fun x1=>.andl (.p (ixP (1:Int) (((List.replicate 5 (0:Int)).set 0 forum).length))) (.andl (.o [.nrm (setC intE ((List.replicate 5 (0:Int)).set 0 forum) 1 x1)]) (.p (1 < ((List.replicate 5 (0:Int)).set 0 forum).length)))) fun x1 =>
 .wn 42 ((List.replicate 5 (0:Int)).set 0 forum).length (((List.replicate 5 (0:Int)).set 0 forum).set 1 x1).length <|
 .r 7 (.depr ((realm_OrderAt_k r c_.file.bill.pay).c) fun x2=>.andl (.p (ixP (2:Int) ((((List.replicate 5 (0:Int)).set 0 forum).set 1 x1).length))) (.andl (.o [.nrm (setC intE (((List.replicate 5 (0:Int)).set 0 forum).set 1 x1) 2 x2)]) (.p (2 < (((List.replicate 5 (0:Int)).set 0 forum).set 1 x1).length)))) fun x2 =>
 .wn 42 (((List.replicate 5 (0:Int)).set 0 forum).set 1 x1).length ((((List.replicate 5 (0:Int)).set 0 forum).set 1 x1).set 2 x2).length <|
 .r 8 (.depr ((realm_OrderAt_k r c_.file.bill.city).c) fun x3=>.andl (.p (ixP (3:Int) (((((List.replicate 5 (0:Int)).set 0 forum).set 1 x1).set 2 x2).length))) (.andl (.o [.nrm (setC intE ((((List.replicate 5 (0:Int)).set 0 forum).set 1 x1).set 2 x2) 3 x3)]) (.p (3 < ((((List.replicate 5 (0:Int)).set 0 forum).set 1 x1).set 2 x2).length)))) fun x3 =>
 .wn 42 ((((List.replicate 5 (0:Int)).set 0 forum).set 1 x1).set 2 x2).length (((((List.replicate 5 (0:Int)).set 0 forum).set 1 x1).set 2 x2).set 3 x3).length <|
 .r 9 (.andl (.p (ixP ((c_.file.signs.getD c_.sign.toNat default).who) r.firms.length)) (.depr ((realm_OrderAt_k r ((r.firms.getD (((c_.file.signs.getD c_.sign.toNat default).who).toNat) default).city)).c) fun x4=>.andl (.p (ixP (4:Int) ((((((List.replicate 5 (0:Int)).set 0 forum).set 1 x1).set 2 x2).set 3 x3).length))) (.andl (.o [.nrm (setC intE (((((List.replicate 5 (0:Int)).set 0 forum).set 1 x1).set 2 x2).set 3 x3) 4 x4)]) (.p (4 < (((((List.replicate 5 (0:Int)).set 0 forum).set 1 x1).set 2 x2).set 3 x3).length))))) fun x4 =>
 .wn 42 (((((List.replicate 5 (0:Int)).set 0 forum).set 1 x1).set 2 x2).set 3 x3).length ((((((List.replicate 5 (0:Int)).set 0 forum).set 1 x1).set 2 x2).set 3 x3).set 4 x4).length <|
 .r 10 ((slices_Contains_k ((((((List.replicate 5 (0:Int)).set 0 forum).set 1 x1).set 2 x2).set 3 x3).set 4 x4) (-1)).c) fun x5 =>
 .br x5
 (.fin [])
 (.fin ((((((List.replicate 5 (0:Int)).set 0 forum).set 1 x1).set 2 x2).set 3 x3).set 4 x4)))
noncomputable def ask_places (r:Realm) (forum:Int) (c_:CaseX):(List Int):=(ask_places_sk r forum c_).val
theorem ask_places_ok (r:Realm) (forum:Int) (c_:CaseX) (hs:0≤c_.sign∧c_.sign < c_.file.signs.length):(ask_places_sk r forum c_).obs (fun _=>True):=by
  unfold ask_places_sk
  try simp only [realm_OrderAt_k,slices_Contains_k]
  exact okD

noncomputable def ask_places_k (r:Realm) (forum:Int) (c_:CaseX):Ctr ((List Int)):=kk tok mixed Tryz.func220 [av r.cells,iv forum,av c_.cells] (fun x=>.d (bif x.isEmpty then .v (.slice none 0 0) else slD intC x)) false (ask_places_sk r forum c_) (ask_places r forum c_) (fun (h:(0≤c_.sign∧c_.sign < c_.file.signs.length))=>ask_places_ok r forum c_ h)
noncomputable def conflict_fine_c1_sk (o:Int) (v:Int):Sk (Bool) :=
 .fin ((decide (o < 0))||(decide (o≥v)))
noncomputable def conflict_fine_c1 (o:Int) (v:Int):Bool:=(conflict_fine_c1_sk o v).val
theorem conflict_fine_c1_eq (o:Int) (v:Int):conflict_fine_c1 o v=((decide (o < 0))||(decide (o≥v))):=rfl
theorem conflict_fine_c1_ok (o:Int) (v:Int):(conflict_fine_c1_sk o v).obs (fun _=>True):=by
  unfold conflict_fine_c1_sk
  exact okE

noncomputable def conflict_fine_c1_k (o:Int) (v:Int):Ctr (Bool):=kk tok mixed Tryz.func275 [iv o,.ref [dI v]] (fun x=>bv x) true (conflict_fine_c1_sk o v) (conflict_fine_c1 o v) (fun (_:True)=>conflict_fine_c1_ok o v)
noncomputable def slices_IndexFunc_275_sk (s:List Int) (v:Int):Sk (Int) :=
 .bind true (fun b1=>∀ q,q < s.length→conflict_fine_c1 (s.getD q default) v=false)
 (.loop (default:Sum (Int) (Unit)) (fun i2=>∀ q,q < i2→conflict_fine_c1 (s.getD q default) v=false) (fun i2=>s.length - i2) (0:Nat)
 (fun (i2:Nat)=>⟨[(8,iv ((i2:Nat):Int))],[]⟩) fun i2 =>
 .bnd 0 0 s.length <|
 .br (decide (((i2:Nat):Int) < ((s.length:Nat):Int)))
 (.r 4 (.andl (.p (ixP ((i2:Nat):Int) s.length)) ((conflict_fine_c1_k (s.getD i2 default) v).c)) fun x3 =>
 .br x3
 (.fin (.inl (.inl ((i2:Nat):Int))))
 (.r 6 .z fun _ =>
 .wi 8 (w64 (((i2:Nat):Int)+1)) ((i2+1:Nat):Int) <|
 .fin (.inr (i2+1))))
 (.fin (.inl (.inr ()))))
 (fun (_:Unit)=>⟨[],[]⟩) fun _ =>
 .fin (-1)
noncomputable def slices_IndexFunc_275 (s:List Int) (v:Int):Int:=(slices_IndexFunc_275_sk s v).val
theorem slices_IndexFunc_275_pst (s:List Int) (v:Int):(slices_IndexFunc_275_sk s v).pst (fun (x:Int)=>(x = -1∧∀ q,q < s.length→conflict_fine_c1 (s.getD q default) v=false)∨(0≤x∧x < s.length∧conflict_fine_c1 (s.getD x.toNat default) v=true∧∀ q,(q:Nat) < x.toNat→conflict_fine_c1 (s.getD q default) v=false)):=by
  unfold slices_IndexFunc_275_sk
  try simp only [conflict_fine_c1_k,conflict_fine_c1_eq]
  exact okQ

theorem slices_IndexFunc_275_post (s:List Int) (v:Int):(fun (x:Int)=>(x = -1∧∀ q,q < s.length→conflict_fine_c1 (s.getD q default) v=false)∨(0≤x∧x < s.length∧conflict_fine_c1 (s.getD x.toNat default) v=true∧∀ q,(q:Nat) < x.toNat→conflict_fine_c1 (s.getD q default) v=false)) (slices_IndexFunc_275 s v):=have h:=Sk.pval _ (slices_IndexFunc_275_pst s v); h
theorem slices_IndexFunc_275_ok (s:List Int) (v:Int):(slices_IndexFunc_275_sk s v).obs (fun _=>True):=by
  unfold slices_IndexFunc_275_sk
  try simp only [conflict_fine_c1_k,conflict_fine_c1_eq]
  exact okG

noncomputable def slices_IndexFunc_275_k (s:List Int) (v:Int):Ctr (Int):=kk tok mixed Tryz.func289 [lv intC s,.fn 275 [.ref [dI v]]] (fun x=>iv x) true (slices_IndexFunc_275_sk s v) (slices_IndexFunc_275 s v) (fun (_:True)=>slices_IndexFunc_275_ok s v) (fun (x:Int)=>(x = -1∧∀ q,q < s.length→conflict_fine_c1 (s.getD q default) v=false)∨(0≤x∧x < s.length∧conflict_fine_c1 (s.getD x.toNat default) v=true∧∀ q,(q:Nat) < x.toNat→conflict_fine_c1 (s.getD q default) v=false)) (slices_IndexFunc_275_post s v)
noncomputable def slices_ContainsFunc_275_sk (s:List Int) (v:Int):Sk (Bool) :=
 .r 1 ((slices_IndexFunc_275_k s v).c) fun x1 =>
 .fin (decide (x1≥0))
noncomputable def slices_ContainsFunc_275 (s:List Int) (v:Int):Bool:=(slices_ContainsFunc_275_sk s v).val
theorem slices_ContainsFunc_275_pst (s:List Int) (v:Int):(slices_ContainsFunc_275_sk s v).pst (fun (x:Bool)=>(x=true↔∃ q,q < s.length∧conflict_fine_c1 (s.getD q default) v=true)):=by
  unfold slices_ContainsFunc_275_sk
  try simp only [slices_IndexFunc_275_k]
  exact okP

theorem slices_ContainsFunc_275_post (s:List Int) (v:Int):(fun (x:Bool)=>(x=true↔∃ q,q < s.length∧conflict_fine_c1 (s.getD q default) v=true)) (slices_ContainsFunc_275 s v):=have h:=Sk.pval _ (slices_ContainsFunc_275_pst s v); h
theorem slices_ContainsFunc_275_ok (s:List Int) (v:Int):(slices_ContainsFunc_275_sk s v).obs (fun _=>True):=by
  unfold slices_ContainsFunc_275_sk
  try simp only [slices_IndexFunc_275_k]
  exact okE

noncomputable def slices_ContainsFunc_275_k (s:List Int) (v:Int):Ctr (Bool):=kk tok mixed Tryz.func274 [lv intC s,.fn 275 [.ref [dI v]]] (fun x=>bv x) true (slices_ContainsFunc_275_sk s v) (slices_ContainsFunc_275 s v) (fun (_:True)=>slices_ContainsFunc_275_ok s v) (fun (x:Bool)=>(x=true↔∃ q,q < s.length∧conflict_fine_c1 (s.getD q default) v=true)) (slices_ContainsFunc_275_post s v)
noncomputable def conflict_fine_sk (r:Realm) (order:Int) (ask:Int) (places:List Int):Sk (Bool) :=
 .br (((((decide (order < 0))||(decide (order≥((r.orders.length:Nat):Int))))||(decide (ask < 0)))||(decide (ask≥22)))||(((places.length:Nat):Int) != 5))
 (.fin false)
 (.r 4 ((slices_ContainsFunc_275_k places ((r.orders.length:Nat):Int)).c) fun x1 =>
 .fin (!x1))
noncomputable def conflict_fine (r:Realm) (order:Int) (ask:Int) (places:List Int):Bool:=(conflict_fine_sk r order ask places).val
theorem conflict_fine_pst (r:Realm) (order:Int) (ask:Int) (places:List Int):(conflict_fine_sk r order ask places).pst (fun (x:Bool)=>x=true→0≤order∧order < r.orders.length∧places.length=5∧∀ i,i < 5→0≤places.getD i default∧places.getD i default < r.orders.length):=by
  refine Sk.pst_of _ ?_
  unfold conflict_fine_sk
  simp only [Sk.pstq,Sk.isLoop,reduceCtorEq,ON,kk,slices_ContainsFunc_275_k,maxLen]
  all_goals (repeat' first | (apply And.intro) | (intro h))
  all_goals first | trivial | (simp at *; done) | (simp only [LN] at *; omega) | (simp only [LN] at *; grind [conflict_fine_c1_eq])

theorem conflict_fine_post (r:Realm) (order:Int) (ask:Int) (places:List Int):(fun (x:Bool)=>x=true→0≤order∧order < r.orders.length∧places.length=5∧∀ i,i < 5→0≤places.getD i default∧places.getD i default < r.orders.length) (conflict_fine r order ask places):=have h:=Sk.pval _ (conflict_fine_pst r order ask places); h
theorem conflict_fine_ok (r:Realm) (order:Int) (ask:Int) (places:List Int):(conflict_fine_sk r order ask places).obs (fun _=>True):=by
  unfold conflict_fine_sk
  try simp only [slices_ContainsFunc_275_k]
  exact okE

noncomputable def conflict_fine_k (r:Realm) (order:Int) (ask:Int) (places:List Int):Ctr (Bool):=kk tok mixed Tryz.func253 [av r.cells,iv order,iv ask,lv intC places] (fun x=>bv x) true (conflict_fine_sk r order ask places) (conflict_fine r order ask places) (fun (_:True)=>conflict_fine_ok r order ask places) (fun (x:Bool)=>x=true→0≤order∧order < r.orders.length∧places.length=5∧∀ i,i < 5→0≤places.getD i default∧places.getD i default < r.orders.length) (conflict_fine_post r order ask places)
noncomputable def conflict_Leads_sk (r:Realm) (order:Int) (ask:Int) (places:List Int):Sk (Int × Bool) :=
 .r 1 ((conflict_fine_k r order ask places).c) fun x1 =>
 .br (!x1)
 (.fin ((-1),false))
 (.r 3 (.p (ixP order r.orders.length)) fun _ =>
 .bind true (fun _=>True)
 (.loop (default:Sum (Int × Bool) (Unit)) (fun i3=>i3≤((r.orders.getD order.toNat default).choices).length) (fun i3=>((r.orders.getD order.toNat default).choices).length - i3) (0:Nat)
 (fun (i3:Nat)=>⟨[(25,iv ((i3:Nat):Int))],[]⟩) fun i3 =>
 .bnd 23 0 (((r.orders.getD order.toNat default).choices).length) <|
 .br (decide (((i3:Nat):Int) < ((((r.orders.getD order.toNat default).choices).length:Nat):Int)))
 (.r 5 (.p (ixP ((i3:Nat):Int) (((r.orders.getD order.toNat default).choices).length))) fun _ =>
 .br ((((((r.orders.getD order.toNat default).choices).getD i3 default).ask) == ask)&&(((((r.orders.getD order.toNat default).choices).getD i3 default).by_) != 0))
 (.r 7 (.p (ixP ((((r.orders.getD order.toNat default).choices).getD i3 default).by_) places.length)) fun _ =>
 .fin (.inl (.inl (places.getD (((((r.orders.getD order.toNat default).choices).getD i3 default).by_).toNat) default,(((r.orders.getD order.toNat default).choices).getD i3 default).whole))))
 (.r 8 .z fun _ =>
 .wi 25 (w64 (((i3:Nat):Int)+1)) ((i3+1:Nat):Int) <|
 .fin (.inr (i3+1))))
 (.fin (.inl (.inr ()))))
 (fun (_:Unit)=>⟨[],[]⟩) fun _ =>
 .fin (order,false))
noncomputable def conflict_Leads (r:Realm) (order:Int) (ask:Int) (places:List Int):Int × Bool:=(conflict_Leads_sk r order ask places).val
theorem getD_fine {l:List Int} {n:Nat} (h0:0 < n) (h:∀ i,i < 5→0≤l.getD i default∧l.getD i default < n) (hl:l.length=5) (k:Nat):0≤l.getD k default∧l.getD k default < n:=by
  by_cases c:k < 5
  · exact h k c
  · have:l.getD k default=0:=by simp [List.getD,List.getElem?_eq_none (by omega:l.length≤k)]
    rw [this]; omega
theorem conflict_fine_other {r:Realm} {a b ask:Int} {places:List Int} (h:conflict_fine r a ask places=true) (hb:0≤b∧b < r.orders.length):conflict_fine r b ask places=true:=by
  simp only [conflict_fine,conflict_fine_sk,Sk.val,Ctr.c,kk,slices_ContainsFunc_275_k] at h ⊢
  revert h
  simp only [Bool.cond_eq_ite]
  split
  · intro h; cases h
  · rename_i h1
    intro h
    rw [if_neg]
    · exact h
    · simp only [Bool.or_eq_true,decide_eq_true_eq,not_or] at h1 ⊢
      exact ⟨⟨⟨⟨by omega,by omega⟩,h1.1.1.2⟩,h1.1.2⟩,h1.2⟩
theorem conflict_Leads_pst (r:Realm) (order:Int) (ask:Int) (places:List Int):(conflict_Leads_sk r order ask places).pst (fun (x:Int × Bool)=>conflict_fine r order ask places=true→0≤x.1∧x.1 < r.orders.length):=by
  refine Sk.pst_of _ ?_
  unfold conflict_Leads_sk
  simp only [Sk.pstq,Sk.isLoop,reduceCtorEq,ON,kk,conflict_fine_k,Realm.ByOK,maxLen]
  all_goals (repeat' first | (apply And.intro) | (intro h))
  all_goals first | trivial | omega | (simp only [LN] at *; first | omega | (exact (getD_fine (n:=r.orders.length) (by grind) (by grind) (by grind) _).1) | (exact (getD_fine (n:=r.orders.length) (by grind) (by grind) (by grind) _).2) | grind)

theorem conflict_Leads_post (r:Realm) (order:Int) (ask:Int) (places:List Int):(fun (x:Int × Bool)=>conflict_fine r order ask places=true→0≤x.1∧x.1 < r.orders.length) (conflict_Leads r order ask places):=have h:=Sk.pval _ (conflict_Leads_pst r order ask places); h
theorem conflict_Leads_ok (r:Realm) (order:Int) (ask:Int) (places:List Int) (hb:r.ByOK):(conflict_Leads_sk r order ask places).obs (fun _=>True):=by
  simp only [Realm.ByOK] at hb
  unfold conflict_Leads_sk
  try simp only [conflict_fine_k,Realm.ByOK]
  exact okD

noncomputable def conflict_Leads_k (r:Realm) (order:Int) (ask:Int) (places:List Int):Ctr (Int × Bool):=kk tok mixed Tryz.func254 [av r.cells,iv order,iv ask,lv intC places] (fun x=>.tup [iv x.1,bv x.2]) true (conflict_Leads_sk r order ask places) (conflict_Leads r order ask places) (fun (h:(r.ByOK))=>conflict_Leads_ok r order ask places h) (fun (x:Int × Bool)=>conflict_fine r order ask places=true→0≤x.1∧x.1 < r.orders.length) (conflict_Leads_post r order ask places)
def PathOK (n:Nat) (l:List Int):Prop:=l.length≠0∧l.Nodup∧∀ x,x∈l→0≤x∧x < n
theorem PathOK.le {n:Nat} {l:List Int} (h:PathOK n l):l.length≤n:=by
  have h1:=List.Nodup.length_le_of_subset (l₁:=l) (l₂:=(List.range n).map Int.ofNat) h.2.1 (fun x hx=>by
    have:=h.2.2 x hx
    exact List.mem_map.2 ⟨x.toNat,List.mem_range.2 (by omega),by simp; omega⟩)
  simpa using h1
theorem PathOK.get {n:Nat} {l:List Int} (h:PathOK n l) (k:Nat):0≤l.getD k default∧l.getD k default < n:=by
  by_cases hk:k < l.length
  · have e:l.getD k default=l[k]:=by simp [List.getD,hk]
    rw [e]
    exact h.2.2 _ (List.getElem_mem hk)
  · have e:l.getD k default=0:=by simp [List.getD,List.getElem?_eq_none (by omega:l.length≤k)]
    have:=h.le
    have:=h.1
    rw [e]
    omega
theorem PathOK.snoc' {n:Nat} {l:List Int} (h:PathOK n l) {x:Int} (hx:0≤x∧x < n):∀ y,y∈l++[x]→0≤y∧y < n:=fun y hy=>by
  rcases List.mem_append.1 hy with h1 | h1
  · exact h.2.2 y h1
  · simp only [List.mem_singleton] at h1; subst h1; exact hx
theorem PathOK.snoc {n:Nat} {l:List Int} (h:PathOK n l) {x:Int} (hx:0≤x∧x < n) (hn:¬ ∃ q,q < l.length∧(l.getD q default == x)=true):PathOK n (l++[x]):=by
  refine ⟨by simp,?_,h.snoc' hx⟩
  refine List.nodup_append.2 ⟨h.2.1,by simp,fun a ha b hb e=>?_⟩
  simp only [List.mem_singleton] at hb
  subst hb; subst e
  obtain ⟨q,hq,e⟩:=List.getElem_of_mem ha
  exact hn ⟨q,hq,by simp [List.getD,hq,e]⟩
theorem PathOK.one {n:Nat} {x:Int} (hx:0≤x∧x < n):PathOK n [x]:=⟨by simp,by simp,fun y hy=>by simp only [List.mem_singleton] at hy; subst hy; exact hx⟩
noncomputable def conflict_Law_sk (r:Realm) (forum:Int) (ask:Int) (places:List Int):Sk ((List Int) × Int) :=
 .r 1 (.depr ((conflict_fine_k r forum ask places).c) fun x1=>.wh (!x1) false (.p (ixP (0:Int) places.length))) fun x1 =>
 .br ((!x1)||((places.getD 0 default) != forum))
 (.fin ([],1))
 (.r 3 (.o [.nrm (litC intE [forum])]) fun _ =>
 .loop (default:(List Int) × Int) (fun i2=>PathOK r.orders.length i2) (fun i2=>r.orders.length+1 - i2.length) ([forum]:(List Int))
 (fun (i2:(List Int))=>⟨[(10,ow 100001 i2)],[(100001,rowB 3 1 intC i2)]⟩) fun i2 =>
 .r 4 (.andl (.p (ixP (w64 (((i2.length:Nat):Int) - 1)) i2.length)) (.p ((w64 (((i2.length:Nat):Int) - 1)).toNat < i2.length))) fun _ =>
 .r 5 ((conflict_Leads_k r (i2.getD ((w64 (((i2.length:Nat):Int) - 1)).toNat) default) ask places).c) fun x3 =>
 .br (x3.1 == (i2.getD ((w64 (((i2.length:Nat):Int) - 1)).toNat) default))
 (.fin (.inl (i2,0)))
 (.r 8 ((slices_Contains_k i2 x3.1).c) fun x4 =>
 .r 9 (.andl (.o [.nrm (litC intE [x3.1])]) (.andl (.o [.nrm (catC intE i2 [x3.1])]) (.andl (.t (intE.ones [x3.1])) (.p (szP i2.length [x3.1].length 8))))) fun _ =>
 .r 10 (.wh (!x3.2) false (.wh x4 true (.p (ixP x3.1 r.orders.length)))) fun _ =>
 .br ((!x3.2)||(x4&&((r.orders.getD x3.1.toNat default).accepts)))
 (.fin (.inl (i2++[x3.1],0)))
 (.br x4
 (.fin (.inl (i2++[x3.1],12)))
 (.fin (.inr (i2++[x3.1]))))))
noncomputable def conflict_Law (r:Realm) (forum:Int) (ask:Int) (places:List Int):(List Int) × Int:=(conflict_Law_sk r forum ask places).val
theorem conflict_Law_pst (r:Realm) (forum:Int) (ask:Int) (places:List Int):(conflict_Law_sk r forum ask places).pst (fun (x:(List Int) × Int)=>x.2=0→x.1.length≠0∧(∀ y,y∈x.1→0≤y∧y < r.orders.length)∧x.1.length≤r.orders.length+1):=by
  refine Sk.pst_of _ ?_
  unfold conflict_Law_sk
  simp only [Sk.pstq,Sk.isLoop,reduceCtorEq,ON,kk,conflict_Leads_k,conflict_fine_k,slices_Contains_k,File.Small,Realm.Small,Realm.ByOK,maxLen]
  intro x hx hp
  refine ⟨fun _ h=>by omega,fun hc _=>?_⟩
  have hx1:x=true:=by simp at hc; exact hc.1
  obtain ⟨h1,h2,h3,h4⟩:=hp hx1
  refine ⟨PathOK.one ⟨h1,h2⟩,fun i hi _ y hy hy2=>?_⟩
  have hy3:=hy2 (conflict_fine_other (hx ▸ hx1) (hi.get _))
  have hle:=hi.le
  refine ⟨fun _=>⟨hi.1,hi.2.2,by omega⟩,fun _ z hz hz2 _ _=>⟨fun _=>⟨by simp,hi.snoc' hy3,by simp; omega⟩,fun _=>⟨fun _ h=>by omega,fun hz3=>?_⟩⟩⟩
  have hs:=hi.snoc hy3 (by rw [← hz2,hz3]; simp)
  have:=hs.le
  simp only [List.length_append,List.length_cons,List.length_nil] at this ⊢
  exact ⟨hs,by omega⟩

theorem conflict_Law_post (r:Realm) (forum:Int) (ask:Int) (places:List Int):(fun (x:(List Int) × Int)=>x.2=0→x.1.length≠0∧(∀ y,y∈x.1→0≤y∧y < r.orders.length)∧x.1.length≤r.orders.length+1) (conflict_Law r forum ask places):=have h:=Sk.pval _ (conflict_Law_pst r forum ask places); h
theorem conflict_Law_ok (r:Realm) (forum:Int) (ask:Int) (places:List Int) (hb:r.ByOK) (hr:r.Small):(conflict_Law_sk r forum ask places).obs (fun _=>True):=by
  simp only [File.Small,Realm.Small,Realm.ByOK] at hb
  simp only [File.Small,Realm.Small,Realm.ByOK] at hr
  refine Sk.obs_of _ ?_
  unfold conflict_Law_sk
  simp only [Sk.obq,Sk.isLoop,reduceCtorEq,ON,kk,conflict_Leads_k,conflict_fine_k,slices_Contains_k,File.Small,Realm.Small,Realm.ByOK,maxLen]
  refine ⟨fun x hx hp hx1=>?_,fun x hx hp hc _=>?_⟩
  · have:=hp (by simpa using hx1); omega
  have hx1:x=true:=by simp at hc; exact hc.1
  obtain ⟨h1,h2,h3,h4⟩:=hp hx1
  refine ⟨PathOK.one ⟨h1,h2⟩,fun i hi=>?_⟩
  have hle:=hi.le
  have hne:=hi.1
  have hw:w64 ((i.length:Int) - 1)=(i.length:Int) - 1:=w64_id (by omega) (by omega)
  rw [hw]
  refine ⟨⟨⟨by omega,by omega⟩,by omega⟩,fun _=>⟨hb,fun y hy hy2 hne2 z hz hz2=>?_⟩⟩
  have hy3:=hy2 (conflict_fine_other (hx ▸ hx1) (hi.get _))
  refine ⟨⟨by simp only [List.length_cons,List.length_nil]; omega,by simp only [List.length_cons,List.length_nil]; omega⟩,fun _=>⟨fun _ _=>hy3,fun _ _ hz3=>?_⟩⟩
  have hs:=hi.snoc hy3 (by rw [← hz2,hz3]; simp)
  have:=hs.le
  simp only [List.length_append,List.length_cons,List.length_nil] at this ⊢
  exact ⟨hs,by omega⟩

noncomputable def conflict_Law_k (r:Realm) (forum:Int) (ask:Int) (places:List Int):Ctr ((List Int) × Int):=kk tok mixed Tryz.func221 [av r.cells,iv forum,iv ask,lv intC places] (fun x=>.tup [lv intC x.1,iv x.2]) false (conflict_Law_sk r forum ask places) (conflict_Law r forum ask places) (fun (h:(r.ByOK)∧(r.Small))=>conflict_Law_ok r forum ask places h.1 h.2) (fun (x:(List Int) × Int)=>x.2=0→x.1.length≠0∧(∀ y,y∈x.1→0≤y∧y < r.orders.length)∧x.1.length≤r.orders.length+1) (conflict_Law_post r forum ask places)
theorem all_get {n:Nat} {l:List Int} (h1:l.length≠0) (h2:∀ y,y∈l→0≤y∧y < (n:Int)) (k:Nat):0≤l.getD k default∧l.getD k default < n:=by
  by_cases hk:k < l.length
  · have e:l.getD k default=l[k]:=by simp [List.getD,hk]
    rw [e]
    exact h2 _ (List.getElem_mem hk)
  · have e:l.getD k default=0:=by simp [List.getD,List.getElem?_eq_none (by omega:l.length≤k)]
    have h3:=h2 l[0] (List.getElem_mem (by omega))
    rw [e]
    omega
noncomputable def ask_find_sk (r:Realm) (forum:Int) (question:Int) (c_:CaseX):Sk (Said × (List CellX)) :=
 .r 2 ((ask_of_k r c_).c) fun x1 =>
 .br (((x1.2.length:Nat):Int) == 0)
 (.fin (({ cell:=({ known:=false,n:=0 }:CellX),order:=(-1),path:=[],err:=1 }:Said),[]))
 (.r 5 ((order_Type_k question).c) fun x2 =>
 .br (!x2.2)
 (.fin (({ cell:=({ known:=false,n:=0 }:CellX),order:=(-1),path:=[],err:=1 }:Said),[]))
 (.r 8 ((ask_places_k r forum x1.1).c) fun x3 =>
 .cas 14 x3.isEmpty nv (lv intC x3)
 (.brt <|
 .fin (({ cell:=({ known:=false,n:=0 }:CellX),order:=(-1),path:=[],err:=1 }:Said),[]))
 (.r 9 (.p (x3.length≠0)) fun _ =>
 .brf <|
 .r 11 ((conflict_Law_k r forum question x3).c) fun x4 =>
 .br (x4.2 == 0)
 (.r 13 (.p (ixP (w64 (((x4.1.length:Nat):Int) - 1)) x4.1.length)) fun _ =>
 .fin (({ cell:=({ known:=false,n:=0 }:CellX),order:=x4.1.getD ((w64 (((x4.1.length:Nat):Int) - 1)).toNat) default,path:=x4.1,err:=x4.2 }:Said),x1.2))
 (.fin (({ cell:=({ known:=false,n:=0 }:CellX),order:=(-1),path:=x4.1,err:=x4.2 }:Said),x1.2)))))
noncomputable def ask_find (r:Realm) (forum:Int) (question:Int) (c_:CaseX):Said × (List CellX):=(ask_find_sk r forum question c_).val
theorem ask_find_pst (r:Realm) (forum:Int) (question:Int) (c_:CaseX):(ask_find_sk r forum question c_).pst (fun (x:Said × (List CellX))=>x.1.order = -1∨(0≤x.1.order∧x.1.order < r.orders.length∧x.2.length=20)):=by
  refine Sk.pst_of _ ?_
  unfold ask_find_sk
  simp only [Sk.pstq,Sk.isLoop,reduceCtorEq,ON,kk,ask_of_k,ask_places_k,conflict_Law_k,order_Type_k,File.Small,Realm.Small,Realm.ByOK,maxLen]
  intro x hx hp
  refine ⟨fun _=>.inl trivial,fun hc x1 _=>⟨fun _=>.inl trivial,fun _ x2 _=>⟨fun _=>.inl trivial,fun _ _ x4 _ hl=>⟨fun h0 _=>.inr ?_,fun _=>.inl trivial⟩⟩⟩⟩
  obtain ⟨h1,h2,h3⟩:=hl (by simpa using h0)
  have h20:x.2.length=20:=by
    rcases hp with h | h
    · rw [h] at hc; simp at hc
    · exact h.1
  exact ⟨(all_get h1 h2 _).1,(all_get h1 h2 _).2,h20⟩

theorem ask_find_post (r:Realm) (forum:Int) (question:Int) (c_:CaseX):(fun (x:Said × (List CellX))=>x.1.order = -1∨(0≤x.1.order∧x.1.order < r.orders.length∧x.2.length=20)) (ask_find r forum question c_):=have h:=Sk.pval _ (ask_find_pst r forum question c_); h
theorem ask_find_ok (r:Realm) (forum:Int) (question:Int) (c_:CaseX) (hf:c_.file.Small) (hb:r.ByOK) (hr:r.Small):(ask_find_sk r forum question c_).obs (fun _=>True):=by
  simp only [File.Small,Realm.Small,Realm.ByOK] at hf
  simp only [File.Small,Realm.Small,Realm.ByOK] at hb
  simp only [File.Small,Realm.Small,Realm.ByOK] at hr
  refine Sk.obs_of _ ?_
  unfold ask_find_sk
  simp only [Sk.obq,Sk.isLoop,reduceCtorEq,ON,kk,ask_of_k,ask_places_k,conflict_Law_k,order_Type_k,File.Small,Realm.Small,Realm.ByOK,maxLen]
  refine ⟨hf,fun x hx hp hc x1 _ _=>?_⟩
  have hp':x.2.length=20∧0≤x.1.sign∧x.1.sign < x.1.file.signs.length:=by
    rcases hp with h | h
    · rw [h] at hc; simp at hc
    · exact h
  refine ⟨hp'.2,fun x2 _ he=>⟨fun h=>by simp [List.length_eq_zero_iff.1 h] at he,fun _=>⟨⟨hb,hr⟩,fun x4 _ hl h0=>?_⟩⟩⟩
  obtain ⟨h1,h2,h3⟩:=hl (by simpa using h0)
  rw [w64_id (by omega) (by omega)]
  omega

noncomputable def ask_find_k (r:Realm) (forum:Int) (question:Int) (c_:CaseX):Ctr (Said × (List CellX)):=kk tok mixed Tryz.func168 [av r.cells,iv forum,iv question,av c_.cells] (fun x=>.tup [av x.1.cells,lv CellX.cells x.2]) false (ask_find_sk r forum question c_) (ask_find r forum question c_) (fun (h:(c_.file.Small)∧(r.ByOK)∧(r.Small))=>ask_find_ok r forum question c_ h.1 h.2.1 h.2.2) (fun (x:Said × (List CellX))=>x.1.order = -1∨(0≤x.1.order∧x.1.order < r.orders.length∧x.2.length=20)) (ask_find_post r forum question c_)
noncomputable def order_find_c1_sk (r:Rule) (v:Int):Sk (Bool) :=
 .fin (r.ask == v)
noncomputable def order_find_c1 (r:Rule) (v:Int):Bool:=(order_find_c1_sk r v).val
theorem order_find_c1_eq (r:Rule) (v:Int):order_find_c1 r v=(r.ask == v):=rfl
theorem order_find_c1_ok (r:Rule) (v:Int):(order_find_c1_sk r v).obs (fun _=>True):=by
  unfold order_find_c1_sk
  exact okE

noncomputable def order_find_c1_k (r:Rule) (v:Int):Ctr (Bool):=kk tok mixed Tryz.func256 [av r.cells,.ref [dI v]] (fun x=>bv x) true (order_find_c1_sk r v) (order_find_c1 r v) (fun (_:True)=>order_find_c1_ok r v)
noncomputable def slices_IndexFunc_256_sk (s:List Rule) (v:Int):Sk (Int) :=
 .bind true (fun b1=>∀ q,q < s.length→order_find_c1 (s.getD q default) v=false)
 (.loop (default:Sum (Int) (Unit)) (fun i2=>∀ q,q < i2→order_find_c1 (s.getD q default) v=false) (fun i2=>s.length - i2) (0:Nat)
 (fun (i2:Nat)=>⟨[(8,iv ((i2:Nat):Int))],[]⟩) fun i2 =>
 .bnd 0 0 s.length <|
 .br (decide (((i2:Nat):Int) < ((s.length:Nat):Int)))
 (.r 4 (.andl (.p (ixP ((i2:Nat):Int) s.length)) ((order_find_c1_k (s.getD i2 default) v).c)) fun x3 =>
 .br x3
 (.fin (.inl (.inl ((i2:Nat):Int))))
 (.r 6 .z fun _ =>
 .wi 8 (w64 (((i2:Nat):Int)+1)) ((i2+1:Nat):Int) <|
 .fin (.inr (i2+1))))
 (.fin (.inl (.inr ()))))
 (fun (_:Unit)=>⟨[],[]⟩) fun _ =>
 .fin (-1)
noncomputable def slices_IndexFunc_256 (s:List Rule) (v:Int):Int:=(slices_IndexFunc_256_sk s v).val
theorem slices_IndexFunc_256_pst (s:List Rule) (v:Int):(slices_IndexFunc_256_sk s v).pst (fun (x:Int)=>(x = -1∧∀ q,q < s.length→order_find_c1 (s.getD q default) v=false)∨(0≤x∧x < s.length∧order_find_c1 (s.getD x.toNat default) v=true∧∀ q,(q:Nat) < x.toNat→order_find_c1 (s.getD q default) v=false)):=by
  unfold slices_IndexFunc_256_sk
  try simp only [order_find_c1_k,order_find_c1_eq]
  exact okQ

theorem slices_IndexFunc_256_post (s:List Rule) (v:Int):(fun (x:Int)=>(x = -1∧∀ q,q < s.length→order_find_c1 (s.getD q default) v=false)∨(0≤x∧x < s.length∧order_find_c1 (s.getD x.toNat default) v=true∧∀ q,(q:Nat) < x.toNat→order_find_c1 (s.getD q default) v=false)) (slices_IndexFunc_256 s v):=have h:=Sk.pval _ (slices_IndexFunc_256_pst s v); h
theorem slices_IndexFunc_256_ok (s:List Rule) (v:Int):(slices_IndexFunc_256_sk s v).obs (fun _=>True):=by
  unfold slices_IndexFunc_256_sk
  try simp only [order_find_c1_k,order_find_c1_eq]
  exact okG

noncomputable def slices_IndexFunc_256_k (s:List Rule) (v:Int):Ctr (Int):=kk tok mixed Tryz.func255 [lv Rule.cells s,.fn 256 [.ref [dI v]]] (fun x=>iv x) true (slices_IndexFunc_256_sk s v) (slices_IndexFunc_256 s v) (fun (_:True)=>slices_IndexFunc_256_ok s v) (fun (x:Int)=>(x = -1∧∀ q,q < s.length→order_find_c1 (s.getD q default) v=false)∨(0≤x∧x < s.length∧order_find_c1 (s.getD x.toNat default) v=true∧∀ q,(q:Nat) < x.toNat→order_find_c1 (s.getD q default) v=false)) (slices_IndexFunc_256_post s v)
noncomputable def term_measure_kr (rv:Term→Int→Int) (rp:Term→Int→Prop) (rf:∀ (t:Term) (level:Int),rp t level→FnA Tryz.prog 276 [av t.cells,iv level] [] (iv (rv t level)) []) (t:Term) (level:Int):Ctr (Int):=⟨Tryz.prog,276,[av t.cells,iv level],fun x=>iv x,true,rv t level,rp t level,rf t level,fun _=>True,trivial⟩
noncomputable def term_measure_sk (rv:Term→Int→Int) (rp:Term→Int→Prop) (rf:∀ (t:Term) (level:Int),rp t level→FnA Tryz.prog 276 [av t.cells,iv level] [] (iv (rv t level)) []) (t:Term) (level:Int):Sk (Int) :=
 .br (decide (level > 8))
 (.fin 61)
 (.bind true (fun b1=>∀ B:Int,1≤B→B≤1000000→(∀ q,q < t.args.length→1≤rv (t.args.getD q default) (w64 (level+1))∧rv (t.args.getD q default) (w64 (level+1))≤B)→(1:Int)≤b1∧b1≤60+B∧(b1≤60→t.args.length≤60∧∀ q,q < t.args.length→rv (t.args.getD q default) (w64 (level+1))≤60))
 (.loop (default:Sum (Int) (Int)) (fun i2=>i2.2≤t.args.length∧(∀ B:Int,1≤B→B≤1000000→(∀ q,q < t.args.length→1≤rv (t.args.getD q default) (w64 (level+1))∧rv (t.args.getD q default) (w64 (level+1))≤B)→(1+(i2.2:Int))≤i2.1∧i2.1≤60∧∀ q,q < i2.2→rv (t.args.getD q default) (w64 (level+1))≤60)) (fun i2=>t.args.length - i2.2) ((1,0):Int × Nat)
 (fun (i2:Int × Nat)=>⟨[(5,iv i2.1),(13,iv ((i2.2:Nat):Int))],[]⟩) fun i2 =>
 .bnd 11 0 t.args.length <|
 .br (decide (((i2.2:Nat):Int) < ((t.args.length:Nat):Int)))
 (.r 6 (.andl (.p (ixP ((i2.2:Nat):Int) t.args.length)) (.o [.cast 15 (refC (Term.unroll (t.args.getD i2.2 default)))])) fun _ =>
 .r 7 ((term_measure_kr rv rp rf (t.args.getD i2.2 default) (w64 (level+1))).c) fun x3 =>
 .br (decide ((w64 (i2.1+x3)) > 60))
 (.fin (.inl (.inr (w64 (i2.1+x3)))))
 (.r 9 .z fun _ =>
 .wi 13 (w64 (((i2.2:Nat):Int)+1)) ((i2.2+1:Nat):Int) <|
 .fin (.inr (w64 (i2.1+x3),i2.2+1))))
 (.fin (.inl (.inr i2.1))))
 (fun (b1:Int)=>⟨[(5,iv b1)],[]⟩) fun b1 =>
 .fin b1)
noncomputable def term_measure_n:Nat→Term→Int→Int
  | 0,_,_=>default
  | fu+1,t,level=>(term_measure_sk (term_measure_n fu) (fun _ _=>False) (fun _ _=>fun h=>h.elim) t level).val
/-- no node has too many parts -/
inductive Thin:Term→Prop
  | mk {t:Term} (h:t.args.length≤60) (h2:∀ q,q < t.args.length→Thin (t.args.getD q default)):Thin t
theorem term_measure_ok (fu:Nat) (rf:∀ (t:Term) (level:Int),t.depth≤fu∧True→FnA Tryz.prog 276 [av t.cells,iv level] [] (iv (term_measure_n fu t level)) []) (t:Term) (level:Int) (hm:t.depth≤fu+1):(term_measure_sk (term_measure_n fu) (fun t level=>t.depth≤fu∧True) rf t level).obs (fun _=>True):=by
  refine Sk.obs_of _ ?_
  unfold term_measure_sk
  simp only [Sk.obq,Sk.isLoop,reduceCtorEq,ON,kk,term_measure_kr,maxLen]
  intro hlev
  have hlev:level≤8:=by simp only [LN] at hlev; exact hlev
  refine ⟨⟨Nat.zero_le _,fun B _ _ _=>⟨by omega,by omega,fun q hq=>absurd hq (by omega)⟩⟩,fun i hi hlen=>⟨fun hc=>⟨⟨by omega,of_decide_eq_true hc⟩,fun _=>⟨?_,fun x hx=>⟨fun hb B b1 b2 hq=>?_,fun hb _=>⟨?_,⟨?_,fun B b1 b2 hq=>?_⟩,?_⟩⟩⟩⟩,fun hc B b1 b2 hq=>?_⟩⟩
  all_goals (try simp only [LN] at hc)
  all_goals (try simp only [LN] at hb)
  · have:=t.depth_args i.2 (by omega); omega
  · subst hx
    have q1:=hi.2 B b1 b2 hq
    have q2:=hq i.2 (by omega)
    rw [w64_id (n:=i.1+_) (by omega) (by omega)] at hb ⊢
    exact ⟨by omega,by omega,fun h=>by omega⟩
  · exact w64_id (by omega) (by omega)
  · omega
  · subst hx
    have q1:=hi.2 B b1 b2 hq
    have q2:=hq i.2 (by omega)
    rw [w64_id (n:=i.1+_) (by omega) (by omega)] at hb ⊢
    refine ⟨by omega,by omega,fun q hqq=>?_⟩
    by_cases e:q=i.2
    · subst e; omega
    · exact q1.2.2 q (by omega)
  · omega
  · have q1:=hi.2 B b1 b2 hq
    exact ⟨by omega,by omega,fun _=>⟨by omega,fun q hqq=>q1.2.2 q (by omega)⟩⟩

theorem term_measure_val (fu:Nat) (rp:Term→Int→Prop) (rf:∀ (t:Term) (level:Int),rp t level→FnA Tryz.prog 276 [av t.cells,iv level] [] (iv (term_measure_n fu t level)) []) (t:Term) (level:Int):(term_measure_sk (term_measure_n fu) rp rf t level).val=term_measure_n (fu+1) t level:=by kernel_rfl
theorem term_measure_fnN (fu:Nat):∀ (t:Term) (level:Int),t.depth≤fu→FnA Tryz.prog 276 [av t.cells,iv level] [] (iv (term_measure_n fu t level)) []:=by
  induction fu with
  | zero=>intro t level hm; exact absurd hm (by have:=Term.depth_pos t; omega)
  | succ fu ih =>
    intro t level hm
    have h:FnA Tryz.prog 276 [av t.cells,iv level] [] (iv ((term_measure_sk (term_measure_n fu) (fun t level=>t.depth≤fu∧True) (fun t level h=>ih t level h.1) t level).val)) []:=FnA.sk tok mixed (fun x=>iv x) (fun _=>[]) Tryz.func276 rfl (by kernel_rfl) 3000 (term_measure_sk (term_measure_n fu) (fun t level=>t.depth≤fu∧True) (fun t level h=>ih t level h.1) t level) (by kernel_rfl) (term_measure_ok fu _ t level hm)
    rw [term_measure_val] at h
    exact h
noncomputable def term_measure (t:Term) (level:Int):Int:=term_measure_n (t.depth) t level
theorem term_measure_fn (t:Term) (level:Int):FnA Tryz.prog 276 [av t.cells,iv level] [] (iv (term_measure t level)) []:=term_measure_fnN _ t level (Nat.le_refl _)
noncomputable def term_measure_k (t:Term) (level:Int):Ctr (Int):=⟨Tryz.prog,276,[av t.cells,iv level],fun x=>iv x,true,term_measure t level,True,fun _=>term_measure_fn t level,fun _=>True,trivial⟩
theorem Term.depthL_le {B:Nat}:∀ (l:List Term),(∀ q,q < l.length→(l.getD q default).depth≤B)→Term.depthL l≤B
  | [],_=>by simp [Term.depthL]
  | x :: r,h=>by
    have h0:=h 0 (by simp)
    have:=Term.depthL_le r (fun q hq=>by simpa using h (q+1) (by simpa using hq))
    simp only [Term.depthL]
    simp at h0
    omega

theorem term_measure_le:∀ (fu:Nat) (t:Term) (level:Int),t.depth≤fu→1≤level→level≤9→1≤term_measure_n fu t level∧term_measure_n fu t level≤61+60 * (9 - level)∧(term_measure_n fu t level≤60→t.depth+level≤9)∧(term_measure_n fu t level≤60→Thin t)
  | 0,t,_,hd,_,_=>absurd hd (by have:=t.depth_pos; omega)
  | fu+1,t,level,hd,h1,h9=>by
    have ih:=term_measure_le fu
    have key:term_measure_n (fu+1) t level=(term_measure_sk (term_measure_n fu) (fun _ _=>False) (fun _ _ h=>h.elim) t level).val:=rfl
    rw [key]
    refine Sk.pval (term_measure_sk (term_measure_n fu) (fun _ _=>False) (fun _ _ h=>h.elim) t level) (L:=fun x=>1≤x∧x≤61+60 * (9 - level)∧(x≤60→t.depth+level≤9)∧(x≤60→Thin t)) (Sk.pst_of _ ?_)
    have hw:w64 (level+1)=level+1:=w64_id (by omega) (by omega)
    unfold term_measure_sk
    simp only [Sk.pstq,Sk.isLoop,reduceCtorEq,false_implies,leafB,leafJ,Cal.z,Cal.p,Cal.t,Cal.pt,Cal.o,Cal.and,Cal.andl,Cal.andr,Cal.wh,Cal.dep,Cal.depr,Ctr.c,kk,Ctr.nil,Ctr.nilc,CtrO.c,CtrO.nil,term_measure_kr,implies_true,true_and,and_true,and_self,true_implies,forall_eq,forall_const,hw]
    refine ⟨fun h=>⟨by omega,by omega,fun h=>by omega,fun h=>by omega⟩,fun hlev=>?_⟩
    have hlev:level≤8:=by simp only [LN] at hlev; exact hlev
    have hq:∀ q,q < t.args.length→1≤term_measure_n fu (t.args.getD q default) (level+1)∧term_measure_n fu (t.args.getD q default) (level+1)≤61+60 * (8 - level):=fun q hq=>by
      have:=ih (t.args.getD q default) (level+1) (by have:=t.depth_args q hq; omega) (by omega) (by omega)
      omega
    refine ⟨⟨⟨Nat.zero_le _,fun B _ _ _=>⟨by omega,by omega,fun q hq=>absurd hq (by omega)⟩⟩,fun i hi=>⟨fun hc=>⟨fun hb=>?_,fun hb=>⟨⟨?_,fun B b1 b2 hq=>?_⟩,?_⟩⟩,fun hc=>?_⟩⟩,fun b hb=>?_⟩
    all_goals (try simp only [LN] at hc)
    all_goals (try simp only [LN] at hb)
    · intro B b1 b2 hq
      have q1:=hi.2 B b1 b2 hq
      have q2:=hq i.2 (by omega)
      rw [w64_id (by omega) (by omega)] at hb ⊢
      exact ⟨by omega,by omega,fun h=>by omega⟩
    · omega
    · have q1:=hi.2 B b1 b2 hq
      have q2:=hq i.2 (by omega)
      rw [w64_id (by omega) (by omega)] at hb ⊢
      refine ⟨by omega,by omega,fun q hqq=>?_⟩
      by_cases e:q=i.2
      · subst e; omega
      · exact q1.2.2 q (by omega)
    · omega
    · intro B b1 b2 hq
      have q1:=hi.2 B b1 b2 hq
      exact ⟨by omega,by omega,fun _=>⟨by omega,fun q hqq=>q1.2.2 q (by omega)⟩⟩
    · have:=hb _ (by omega) (by omega) hq
      refine ⟨this.1,by omega,fun h60=>?_,fun h60=>.mk (this.2.2 h60).1 fun q hqq=>?_⟩
      · have q3:=(this.2.2 h60).2
        have:Term.depthL t.args≤(8 - level).toNat:=Term.depthL_le _ (fun q hqq=>by
          have:=(ih (t.args.getD q default) (level+1) (by have:=t.depth_args q hqq; omega) (by omega) (by omega)).2.2.1 (q3 q hqq)
          omega)
        have e:t.depth=Term.depthL t.args+1:=by obtain ⟨_,_,_⟩:=t; rfl
        omega
      · exact (ih (t.args.getD q default) (level+1) (by have:=t.depth_args q hqq; omega) (by omega) (by omega)).2.2.2 ((this.2.2 h60).2 q hqq)
noncomputable def term_cut_sk (n:Int):Sk (Int) :=
 .fin (minI (maxI n (-1099511627776)) 1099511627776)
noncomputable def term_cut (n:Int):Int:=(term_cut_sk n).val
theorem term_cut_eq (n:Int):term_cut n=(minI (maxI n (-1099511627776)) 1099511627776):=rfl
theorem term_cut_ok (n:Int):(term_cut_sk n).obs (fun _=>True):=by
  unfold term_cut_sk
  exact okE

noncomputable def term_cut_k (n:Int):Ctr (Int):=kk tok mixed Tryz.func294 [iv n] (fun x=>iv x) true (term_cut_sk n) (term_cut n) (fun (_:True)=>term_cut_ok n)
noncomputable def term_VarType_sk (v:Int):Sk (Int × Bool) :=
 .br ((decide (v < 0))||(decide (v > 19)))
 (.fin (0,false))
 (.br (decide (v < 7))
 (.fin (0,true))
 (.fin (1,true)))
noncomputable def term_VarType (v:Int):Int × Bool:=(term_VarType_sk v).val
theorem term_VarType_ok (v:Int):(term_VarType_sk v).obs (fun _=>True):=by
  unfold term_VarType_sk
  exact okE

noncomputable def term_VarType_k (v:Int):Ctr (Int × Bool):=kk tok mixed Tryz.func292 [iv v] (fun x=>.tup [iv x.1,bv x.2]) true (term_VarType_sk v) (term_VarType v) (fun (_:True)=>term_VarType_ok v)
noncomputable def term_leaf_sk (t:Term):Sk (Int × Int) :=
 .br (decide (((t.args.length:Nat):Int) > 0))
 (.fin (0,2))
 (.br (t.op == 0)
 (.r 5 ((term_cut_k t.n).c) fun x1 =>
 .br (x1 != t.n)
 (.fin (0,3))
 (.fin (0,0)))
 (.br (t.op == 1)
 (.br ((decide (t.n < 0))||(decide (t.n > 1)))
 (.fin (0,3))
 (.fin (1,0)))
 (.r 12 ((term_VarType_k t.n).c) fun x2 =>
 .br (!x2.2)
 (.fin (0,10))
 (.fin (x2.1,0)))))
noncomputable def term_leaf (t:Term):Int × Int:=(term_leaf_sk t).val
theorem term_leaf_ok (t:Term):(term_leaf_sk t).obs (fun _=>True):=by
  unfold term_leaf_sk
  try simp only [term_VarType_k,term_cut_k,term_cut_eq]
  exact okG

noncomputable def term_leaf_k (t:Term):Ctr (Int × Int):=kk tok mixed Tryz.func290 [av t.cells] (fun x=>.tup [iv x.1,iv x.2]) true (term_leaf_sk t) (term_leaf t) (fun (_:True)=>term_leaf_ok t)
structure Shape where
  args:List Int
  result:Int
  deriving Inhabited
def Shape.cells (c:Shape):List D:=[slD intC c.args,dI c.result]
def Shape.E:Enc Shape:=⟨Shape.cells,2,fun _=>rfl,fun _=>rfl⟩
noncomputable def term_shapeOf_sk (op:Int):Sk (Shape) :=
 .br (op == 3)
 (.r 3 (.o [.nrm (litC intE [1])]) fun _ =>
 .fin ({ args:=[1],result:=1 }:Shape))
 (.bind false (fun _=>True)
 (.br (op == 4)
 (.fin (.inr (op == 4)))
 (.fin (.inr (op == 5))))
 (fun (b1:Bool)=>⟨[(8,bv b1)],[]⟩) fun b1 =>
 .br b1
 (.r 6 (.o [.nrm (litC intE [1,1])]) fun _ =>
 .fin ({ args:=[1,1],result:=1 }:Shape))
 (.br (op == 6)
 (.r 8 (.o [.nrm (litC intE [1,(-1),(-1)])]) fun _ =>
 .fin ({ args:=[1,(-1),(-1)],result:=(-1) }:Shape))
 (.br (op == 7)
 (.r 10 (.o [.nrm (litC intE [0,0])]) fun _ =>
 .fin ({ args:=[0,0],result:=1 }:Shape))
 (.br (op == 8)
 (.r 12 (.o [.nrm (litC intE [(-1),(-1)])]) fun _ =>
 .fin ({ args:=[(-1),(-1)],result:=1 }:Shape))
 (.r 13 (.o [.nrm (litC intE [0,0])]) fun _ =>
 .fin ({ args:=[0,0],result:=0 }:Shape))))))
noncomputable def term_shapeOf (op:Int):Shape:=(term_shapeOf_sk op).val
theorem term_shapeOf_ok (op:Int):(term_shapeOf_sk op).obs (fun _=>True):=by
  unfold term_shapeOf_sk
  exact okE

noncomputable def term_shapeOf_k (op:Int):Ctr (Shape):=kk tok mixed Tryz.func291 [iv op] (fun x=>av x.cells) false (term_shapeOf_sk op) (term_shapeOf op) (fun (_:True)=>term_shapeOf_ok op)
end Go.Proofs.YtbcnlpcaajpclaaGreatDoor

