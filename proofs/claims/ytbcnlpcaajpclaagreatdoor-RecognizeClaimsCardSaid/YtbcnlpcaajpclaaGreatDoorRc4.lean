/- Functions, as sketches. -/
import Derived.Test.YtbcnlpcaajpclaaGreatDoorRc3
namespace Go.Proofs.YtbcnlpcaajpclaaGreatDoor
open Go Go.Av
set_option linter.unusedSimpArgs false
set_option linter.unusedVariables false
set_option maxHeartbeats 1000000
set_option maxRecDepth 100000
noncomputable def realm_fits_118_sk (names:List ByteArray) (most:Int) (v:Realm):Sk (Int) :=
 .br (decide (((names.length:Nat):Int) > most))
 (.fin 6)
 (.bind true (fun _=>True)
 (.loop (default:Sum (Int) (Unit)) (fun i2=>i2≤names.length) (fun i2=>names.length - i2) (0:Nat)
 (fun (i2:Nat)=>⟨[(15,iv (i2:Int))],[]⟩) fun i2 =>
 .bnd 0 0 names.length <|
 .br (decide ((i2:Int) < ((names.length:Nat):Int)))
 (.r 6 ((realm_named_k names (i2:Int)).c) fun x3 =>
 .br (x3 != 0)
 (.fin (.inl (.inl x3)))
 (.r 9 ((realm_Check_c2_k (i2:Int) v).c) fun x4 =>
 .br (!x4)
 (.fin (.inl (.inl 1)))
 (.r 11 .z fun _ =>
 .wi 15 (w64 ((i2:Int)+1)) ((i2+1:Nat):Int) <|
 .fin (.inr (i2+1)))))
 (.fin (.inl (.inr ()))))
 (fun (_:Unit)=>⟨[],[]⟩) fun _ =>
 .fin 0)
noncomputable def realm_fits_118 (names:List ByteArray) (most:Int) (v:Realm):Int:=(realm_fits_118_sk names most v).val
theorem realm_fits_118_ok (names:List ByteArray) (most:Int) (v:Realm) (hv:names.length≤v.cities.length):(realm_fits_118_sk names most v).obs (fun _=>True):=by
 unfold realm_fits_118_sk
 try simp only [realm_Check_c2_k,realm_named_k]
 exact okD
noncomputable def realm_fits_118_k (names:List ByteArray) (most:Int) (v:Realm):Ctr (Int):=kk tok mixed Tryz.func116 [lv strC names,iv most,.fn 118 [.ref v.cells]] (fun x=>iv x) true (realm_fits_118_sk names most v) (realm_fits_118 names most v) (fun (h:(names.length≤v.cities.length))=>realm_fits_118_ok names most v h)
noncomputable def realm_Check_c3_sk (i:Int) (v:Realm):Sk (Bool) :=
 .r 1 (.andl (.p (ixP i v.firms.length)) (.dep ((realm_in_k ((v.firms.getD i.toNat default).city) ((v.cities.length:Nat):Int)).c) fun x1=>.andl (.wh x1 true (.p (ixP i v.firms.length))) (.wh x1 true ((realm_in_k ((v.firms.getD i.toNat default).group) ((v.groups.length:Nat):Int)).c)))) fun p3 =>
 .fin (p3.1&&p3.2)
noncomputable def realm_Check_c3 (i:Int) (v:Realm):Bool:=(realm_Check_c3_sk i v).val
theorem realm_Check_c3_ok (i:Int) (v:Realm) (hi:0≤i∧i < (v.firms.length:Int)):(realm_Check_c3_sk i v).obs (fun _=>True):=by
 unfold realm_Check_c3_sk
 try simp only [realm_in_k,realm_in_eq]
 exact okG
noncomputable def realm_Check_c3_k (i:Int) (v:Realm):Ctr (Bool):=kk tok mixed Tryz.func121 [iv i,.ref v.cells] (fun x=>bv x) true (realm_Check_c3_sk i v) (realm_Check_c3 i v) (fun (h:(0≤i∧i < (v.firms.length:Int)))=>realm_Check_c3_ok i v h)
noncomputable def realm_fits_121_sk (names:List ByteArray) (most:Int) (v:Realm):Sk (Int) :=
 .br (decide (((names.length:Nat):Int) > most))
 (.fin 6)
 (.bind true (fun _=>True)
 (.loop (default:Sum (Int) (Unit)) (fun i2=>i2≤names.length) (fun i2=>names.length - i2) (0:Nat)
 (fun (i2:Nat)=>⟨[(15,iv (i2:Int))],[]⟩) fun i2 =>
 .bnd 0 0 names.length <|
 .br (decide ((i2:Int) < ((names.length:Nat):Int)))
 (.r 6 ((realm_named_k names (i2:Int)).c) fun x3 =>
 .br (x3 != 0)
 (.fin (.inl (.inl x3)))
 (.r 9 ((realm_Check_c3_k (i2:Int) v).c) fun x4 =>
 .br (!x4)
 (.fin (.inl (.inl 1)))
 (.r 11 .z fun _ =>
 .wi 15 (w64 ((i2:Int)+1)) ((i2+1:Nat):Int) <|
 .fin (.inr (i2+1)))))
 (.fin (.inl (.inr ()))))
 (fun (_:Unit)=>⟨[],[]⟩) fun _ =>
 .fin 0)
noncomputable def realm_fits_121 (names:List ByteArray) (most:Int) (v:Realm):Int:=(realm_fits_121_sk names most v).val
theorem realm_fits_121_ok (names:List ByteArray) (most:Int) (v:Realm) (hv:names.length≤v.firms.length):(realm_fits_121_sk names most v).obs (fun _=>True):=by
 unfold realm_fits_121_sk
 try simp only [realm_Check_c3_k,realm_named_k]
 exact okD
noncomputable def realm_fits_121_k (names:List ByteArray) (most:Int) (v:Realm):Ctr (Int):=kk tok mixed Tryz.func116 [lv strC names,iv most,.fn 121 [.ref v.cells]] (fun x=>iv x) true (realm_fits_121_sk names most v) (realm_fits_121 names most v) (fun (h:(names.length≤v.firms.length))=>realm_fits_121_ok names most v h)
noncomputable def realm_order_sk (o:Order):Sk (Bool) :=
 .bind true (fun b1=>b1.length≤0+o.choices.length)
 (.loop (default:Sum (Bool) ((List Int))) (fun i2=>i2.2≤o.choices.length∧i2.1.length≤0+i2.2) (fun i2=>o.choices.length - i2.2) (([],0):(List Int) × Nat)
 (fun (i2:(List Int) × Nat)=>⟨[(3,ow 100002 i2.1),(12,iv (i2.2:Int))],[(100002,rowB 3 1 intC i2.1)]⟩) fun i2 =>
 .bnd 10 0 o.choices.length <|
 .br (decide ((i2.2:Int) < ((o.choices.length:Nat):Int)))
 (.r 4 (.p (ixP (i2.2:Int) o.choices.length)) fun _ =>
 .r 5 (.andl (.o [.nrm (litC intE [(o.choices.getD i2.2 default).ask])]) (.andl (.o [.nrm (catC intE i2.1 [(o.choices.getD i2.2 default).ask])]) (.andl (.t (intE.ones [(o.choices.getD i2.2 default).ask])) (.p (szP i2.1.length [(o.choices.getD i2.2 default).ask].length 8))))) fun _ =>
 .r 6 ((realm_in_k ((o.choices.getD i2.2 default).by_) 5).c) fun x3 =>
 .br (!x3)
 (.fin (.inl (.inl false)))
 (.r 8 .z fun _ =>
 .wi 12 (w64 ((i2.2:Int)+1)) ((i2.2+1:Nat):Int) <|
 .fin (.inr (i2.1++[(o.choices.getD i2.2 default).ask],i2.2+1))))
 (.fin (.inl (.inr i2.1))))
 (fun (b1:(List Int))=>⟨[(3,ow 100001 b1)],[(100001,rowB 3 1 intC b1)]⟩) fun b1 =>
 .bind true (fun b4=>b4.length≤0+o.rules.length)
 (.loop (default:Sum (Bool) ((List Int))) (fun i5=>i5.2≤o.rules.length∧i5.1.length≤0+i5.2) (fun i5=>o.rules.length - i5.2) (([],0):(List Int) × Nat)
 (fun (i5:(List Int) × Nat)=>⟨[(4,ow 100005 i5.1),(29,iv (i5.2:Int))],[(100005,rowB 3 1 intC i5.1)]⟩) fun i5 =>
 .bnd 27 0 o.rules.length <|
 .br (decide ((i5.2:Int) < ((o.rules.length:Nat):Int)))
 (.r 11 (.p (ixP (i5.2:Int) o.rules.length)) fun _ =>
 .r 12 (.andl (.o [.nrm (litC intE [(o.rules.getD i5.2 default).ask])]) (.andl (.o [.nrm (catC intE i5.1 [(o.rules.getD i5.2 default).ask])]) (.andl (.t (intE.ones [(o.rules.getD i5.2 default).ask])) (.p (szP i5.1.length [(o.rules.getD i5.2 default).ask].length 8))))) fun _ =>
 .r 13 .z fun _ =>
 .wi 29 (w64 ((i5.2:Int)+1)) ((i5.2+1:Nat):Int) <|
 .fin (.inr (i5.1++[(o.rules.getD i5.2 default).ask],i5.2+1)))
 (.fin (.inl (.inr i5.1))))
 (fun (b4:(List Int))=>⟨[(4,ow 100004 b4)],[(100004,rowB 3 1 intC b4)]⟩) fun b4 =>
 .r 14 (.dep ((realm_rising_k b1 0 21).c) fun x6=>.wh x6 true ((realm_rising_k b4 0 21).c)) fun p8 =>
 .fin (p8.1&&p8.2)
noncomputable def realm_order (o:Order):Bool:=(realm_order_sk o).val
theorem realm_order_ok (o:Order) (ho:o.choices.length≤1000000∧o.rules.length≤1000000):(realm_order_sk o).obs (fun _=>True):=by
 unfold realm_order_sk
 try simp only [realm_in_k,realm_rising_k,realm_in_eq]
 exact okG
noncomputable def realm_order_k (o:Order):Ctr (Bool):=kk tok mixed Tryz.func123 [av o.cells] (fun x=>bv x) true (realm_order_sk o) (realm_order o) (fun (h:(o.choices.length≤1000000∧o.rules.length≤1000000))=>realm_order_ok o h)
noncomputable def realm_Check_c4_sk (i:Int) (v:Realm):Sk (Bool) :=
 .r 1 (.andl (.p (ixP i v.orders.length)) ((realm_order_k (v.orders.getD i.toNat default)).c)) fun x1 =>
 .fin x1
noncomputable def realm_Check_c4 (i:Int) (v:Realm):Bool:=(realm_Check_c4_sk i v).val
theorem realm_Check_c4_ok (i:Int) (v:Realm) (hi:0≤i∧i < (v.orders.length:Int)) (hv:v.Small):(realm_Check_c4_sk i v).obs (fun _=>True):=by
 simp only [File.Small,Realm.Small] at hv
 unfold realm_Check_c4_sk
 try simp only [realm_order_k,File.Small,Realm.Small]
 exact okD
noncomputable def realm_Check_c4_k (i:Int) (v:Realm):Ctr (Bool):=kk tok mixed Tryz.func122 [iv i,.ref v.cells] (fun x=>bv x) true (realm_Check_c4_sk i v) (realm_Check_c4 i v) (fun (h:(0≤i∧i < (v.orders.length:Int))∧(v.Small))=>realm_Check_c4_ok i v h.1 h.2)
noncomputable def realm_fits_122_sk (names:List ByteArray) (most:Int) (v:Realm):Sk (Int) :=
 .br (decide (((names.length:Nat):Int) > most))
 (.fin 6)
 (.bind true (fun _=>True)
 (.loop (default:Sum (Int) (Unit)) (fun i2=>i2≤names.length) (fun i2=>names.length - i2) (0:Nat)
 (fun (i2:Nat)=>⟨[(15,iv (i2:Int))],[]⟩) fun i2 =>
 .bnd 0 0 names.length <|
 .br (decide ((i2:Int) < ((names.length:Nat):Int)))
 (.r 6 ((realm_named_k names (i2:Int)).c) fun x3 =>
 .br (x3 != 0)
 (.fin (.inl (.inl x3)))
 (.r 9 ((realm_Check_c4_k (i2:Int) v).c) fun x4 =>
 .br (!x4)
 (.fin (.inl (.inl 1)))
 (.r 11 .z fun _ =>
 .wi 15 (w64 ((i2:Int)+1)) ((i2+1:Nat):Int) <|
 .fin (.inr (i2+1)))))
 (.fin (.inl (.inr ()))))
 (fun (_:Unit)=>⟨[],[]⟩) fun _ =>
 .fin 0)
noncomputable def realm_fits_122 (names:List ByteArray) (most:Int) (v:Realm):Int:=(realm_fits_122_sk names most v).val
theorem realm_fits_122_ok (names:List ByteArray) (most:Int) (v:Realm) (hv:names.length≤v.orders.length) (hs:v.Small):(realm_fits_122_sk names most v).obs (fun _=>True):=by
 simp only [File.Small,Realm.Small] at hs
 unfold realm_fits_122_sk
 try simp only [realm_Check_c4_k,realm_named_k,File.Small,Realm.Small]
 exact okD
noncomputable def realm_fits_122_k (names:List ByteArray) (most:Int) (v:Realm):Ctr (Int):=kk tok mixed Tryz.func116 [lv strC names,iv most,.fn 122 [.ref v.cells]] (fun x=>iv x) true (realm_fits_122_sk names most v) (realm_fits_122 names most v) (fun (h:(names.length≤v.orders.length)∧(v.Small))=>realm_fits_122_ok names most v h.1 h.2)
noncomputable def realm_usances_sk (r:Realm):Sk (Int) :=
 .br (decide (((r.usances.length:Nat):Int) > 100))
 (.fin 6)
 (.bind true (fun _=>True)
 (.loop (default:Sum (Int) (Unit)) (fun i2=>i2≤r.usances.length) (fun i2=>r.usances.length - i2) (0:Nat)
 (fun (i2:Nat)=>⟨[(14,iv (i2:Int))],[]⟩) fun i2 =>
 .bnd 12 0 r.usances.length <|
 .br (decide ((i2:Int) < ((r.usances.length:Nat):Int)))
 (.bind true (fun _=>True)
 (.r 5 (.p (ixP (i2:Int) r.usances.length)) fun _ =>
 .r 6 (.dep ((realm_in_k ((r.usances.getD i2 default).from_) ((r.cities.length:Nat):Int)).c) fun x4=>.wh (!x4) false ((realm_in_k ((r.usances.getD i2 default).to_) ((r.cities.length:Nat):Int)).c)) fun p8 =>
 .br ((((!p8.1)||(!p8.2))||(decide (((r.usances.getD i2 default).days) < 1)))||(decide (((r.usances.getD i2 default).days) > 20000)))
 (.fin (.inl (.inl (.inl 1))))
 (.r 8 (.andl (.o [.nrm (subC Usance.E r.usances 0 i2)]) (.pt (0≤(i2:Int)∧(i2:Int)≤((r.usances.length:Nat):Int)) (Usance.E.lens r.usances))) fun _ =>
 .bind true (fun _=>True)
 (.loop (default:Sum (Sum (Sum (Sum (Int) (Unit)) (Nat)) (Int × Int × Usance × Int × (List City) × Int × Bool × Bool × Bool × Bool × Bool × Bool × Bool × Bool × (List Usance) × Int × (List Usance) × Int × Int × Bool)) (Int × Bool)) (fun i7=>i7≤(subL r.usances 0 i2).length) (fun i7=>(subL r.usances 0 i2).length - i7) (0:Nat)
 (fun (i7:Nat)=>⟨[(50,iv (i7:Int))],[]⟩) fun i7 =>
 .bnd 48 0 ((subL r.usances 0 i2).length) <|
 .br (decide ((i7:Int) < (((subL r.usances 0 i2).length:Nat):Int)))
 (.r 10 (.p (ixP (i7:Int) ((subL r.usances 0 i2).length))) fun _ =>
 .br (((((subL r.usances 0 i2).getD i7 default).from_) == ((r.usances.getD i2 default).from_))&&((((subL r.usances 0 i2).getD i7 default).to_) == ((r.usances.getD i2 default).to_)))
 (.fin (.inl (.inl (.inl (.inl (.inl 5))))))
 (.r 13 .z fun _ =>
 .wi 50 (w64 ((i7:Int)+1)) ((i7+1:Nat):Int) <|
 .fin (.inr (i7+1))))
 (.fin (.inl (.inr ((i7:Int),decide ((i7:Int) < (((subL r.usances 0 i2).length:Nat):Int)))))))
 (fun (b6:Int × Bool)=>⟨[(50,iv b6.1),(51,bv b6.2)],[]⟩) fun b6 =>
 .fin (.inr ((i2:Int),(i2:Int),r.usances.getD i2 default,(r.usances.getD i2 default).from_,r.cities,((r.cities.length:Nat):Int),p8.1,!p8.1,!p8.1,(!p8.1)||(!p8.2),(!p8.1)||(!p8.2),((!p8.1)||(!p8.2))||(decide (((r.usances.getD i2 default).days) < 1)),((!p8.1)||(!p8.2))||(decide (((r.usances.getD i2 default).days) < 1)),(((!p8.1)||(!p8.2))||(decide (((r.usances.getD i2 default).days) < 1)))||(decide (((r.usances.getD i2 default).days) > 20000)),r.usances,(i2:Int),subL r.usances 0 i2,(((subL r.usances 0 i2).length:Nat):Int),b6.1,b6.2))))
 (fun (b3:Int × Int × Usance × Int × (List City) × Int × Bool × Bool × Bool × Bool × Bool × Bool × Bool × Bool × (List Usance) × Int × (List Usance) × Int × Int × Bool)=>⟨[(3,iv b3.1),(16,iv b3.2.1),(18,av b3.2.2.1.cells),(20,iv b3.2.2.2.1),(22,lv City.cells b3.2.2.2.2.1),(23,iv b3.2.2.2.2.2.1),(24,bv b3.2.2.2.2.2.2.1),(25,bv b3.2.2.2.2.2.2.2.1),(26,bv b3.2.2.2.2.2.2.2.2.1),(34,bv b3.2.2.2.2.2.2.2.2.2.1),(35,bv b3.2.2.2.2.2.2.2.2.2.2.1),(39,bv b3.2.2.2.2.2.2.2.2.2.2.2.1),(40,bv b3.2.2.2.2.2.2.2.2.2.2.2.2.1),(44,bv b3.2.2.2.2.2.2.2.2.2.2.2.2.2.1),(46,lv Usance.cells b3.2.2.2.2.2.2.2.2.2.2.2.2.2.2.1),(47,iv b3.2.2.2.2.2.2.2.2.2.2.2.2.2.2.2.1),(48,lv Usance.cells b3.2.2.2.2.2.2.2.2.2.2.2.2.2.2.2.2.1),(49,iv b3.2.2.2.2.2.2.2.2.2.2.2.2.2.2.2.2.2.1),(50,iv b3.2.2.2.2.2.2.2.2.2.2.2.2.2.2.2.2.2.2.1),(51,bv b3.2.2.2.2.2.2.2.2.2.2.2.2.2.2.2.2.2.2.2)],[]⟩) fun _ =>
 .r 14 .z fun _ =>
 .wi 14 (w64 ((i2:Int)+1)) ((i2+1:Nat):Int) <|
 .fin (.inr (i2+1)))
 (.fin (.inl (.inr ()))))
 (fun (_:Unit)=>⟨[],[]⟩) fun _ =>
 .fin 0)
noncomputable def realm_usances (r:Realm):Int:=(realm_usances_sk r).val
theorem realm_usances_ok (r:Realm):(realm_usances_sk r).obs (fun _=>True):=by
 unfold realm_usances_sk
 try simp only [realm_in_k,realm_in_eq]
 exact okG
noncomputable def realm_usances_k (r:Realm):Ctr (Int):=kk tok mixed Tryz.func124 [av r.cells] (fun x=>iv x) true (realm_usances_sk r) (realm_usances r) (fun (_:True)=>realm_usances_ok r)
noncomputable def realm_rest_sk (r:Realm):Sk (Int) :=
 .br (decide (((r.rates.length:Nat):Int) > 100))
 (.fin 6)
 (.bind true (fun _=>True)
 (.loop (default:Sum (Int) (Unit)) (fun i2=>i2≤r.rates.length) (fun i2=>r.rates.length - i2) (0:Nat)
 (fun (i2:Nat)=>⟨[(14,iv (i2:Int))],[]⟩) fun i2 =>
 .bnd 12 0 r.rates.length <|
 .br (decide ((i2:Int) < ((r.rates.length:Nat):Int)))
 (.r 5 (.p (ixP (i2:Int) r.rates.length)) fun _ =>
 .r 6 (.dep ((realm_in_k ((r.rates.getD i2 default).from_) ((r.currencies.length:Nat):Int)).c) fun x3=>.dep (.wh (!x3) false ((realm_in_k ((r.rates.getD i2 default).to_) ((r.currencies.length:Nat):Int)).c)) fun x4=>.dep (.wh (((!x3)||(!x4))||(((r.rates.getD i2 default).from_) == ((r.rates.getD i2 default).to_))) false ((realm_in_k (w64 (((r.rates.getD i2 default).num) - 1)) 1073741824).c)) fun x5=>.dep (.wh ((((!x3)||(!x4))||(((r.rates.getD i2 default).from_) == ((r.rates.getD i2 default).to_)))||(!x5)) false ((realm_in_k (w64 (((r.rates.getD i2 default).den) - 1)) 1073741824).c)) fun x6=>.wh (((((!x3)||(!x4))||(((r.rates.getD i2 default).from_) == ((r.rates.getD i2 default).to_)))||(!x5))||(!x6)) false ((realm_in_k ((r.rates.getD i2 default).since) 100001).c)) fun p8 =>
 .br ((((((!p8.1)||(!p8.2.1))||(((r.rates.getD i2 default).from_) == ((r.rates.getD i2 default).to_)))||(!p8.2.2.1))||(!p8.2.2.2.1))||(!p8.2.2.2.2))
 (.fin (.inl (.inl 1)))
 (.r 8 .z fun _ =>
 .wi 14 (w64 ((i2:Int)+1)) ((i2+1:Nat):Int) <|
 .fin (.inr (i2+1))))
 (.fin (.inl (.inr ()))))
 (fun (_:Unit)=>⟨[],[]⟩) fun _ =>
 .br (decide (((r.halts.length:Nat):Int) > 20))
 (.fin 6)
 (.bind true (fun b9=>r.HaltOK)
 (.loop (default:Sum (Int) (Unit)) (fun i10=>(∀ i,i < i10→(r.halts.getD i default).to_≤100000)∧i10≤r.halts.length) (fun i10=>r.halts.length - i10) (0:Nat)
 (fun (i10:Nat)=>⟨[(69,iv (i10:Int))],[]⟩) fun i10 =>
 .bnd 67 0 r.halts.length <|
 .br (decide ((i10:Int) < ((r.halts.length:Nat):Int)))
 (.r 13 (.p (ixP (i10:Int) r.halts.length)) fun _ =>
 .r 14 ((realm_in_k ((r.halts.getD i10 default).order) ((r.orders.length:Nat):Int)).c) fun x11 =>
 .br ((((!x11)||(decide (((r.halts.getD i10 default).from_) < 0)))||(decide (((r.halts.getD i10 default).from_) > ((r.halts.getD i10 default).to_))))||(decide (((r.halts.getD i10 default).to_) > 100000)))
 (.fin (.inl (.inl 1)))
 (.r 16 .z fun _ =>
 .wi 69 (w64 ((i10:Int)+1)) ((i10+1:Nat):Int) <|
 .fin (.inr (i10+1))))
 (.fin (.inl (.inr ()))))
 (fun (_:Unit)=>⟨[],[]⟩) fun _ =>
 .fin 0))
noncomputable def realm_rest (r:Realm):Int:=(realm_rest_sk r).val
theorem realm_rest_pst (r:Realm):(realm_rest_sk r).pst (fun (x:Int)=>x=0→r.HaltOK):=by
 unfold realm_rest_sk
 try simp only [realm_in_k,realm_in_eq,Realm.HaltOK]
 exact okQ
theorem realm_rest_post (r:Realm):(fun (x:Int)=>x=0→r.HaltOK) (realm_rest r):=have h:=Sk.pval _ (realm_rest_pst r); h
theorem realm_rest_ok (r:Realm):(realm_rest_sk r).obs (fun _=>True):=by
 unfold realm_rest_sk
 try simp only [realm_in_k,realm_in_eq,Realm.HaltOK]
 exact okG
noncomputable def realm_rest_k (r:Realm):Ctr (Int):=kk tok mixed Tryz.func125 [av r.cells] (fun x=>iv x) true (realm_rest_sk r) (realm_rest r) (fun (_:True)=>realm_rest_ok r) (fun (x:Int)=>x=0→r.HaltOK) (realm_rest_post r)
noncomputable def realm_Check_sk (r:Realm):Sk (Int) :=
 .r 1 ((realm_names_k r).c) fun x1 =>
 .r 2 ((realm_fits_117_k r.currencies 8).c) fun x2 =>
 .br (x2 != 0)
 (.fin x2)
 (.r 5 ((realm_fits_118_k x1.1 40 r).c) fun x3 =>
 .br (x3 != 0)
 (.fin x3)
 (.br (decide (((r.groups.length:Nat):Int) > 20))
 (.fin 6)
 (.bind true (fun _=>True)
 (.loop (default:Sum (Int) (Unit)) (fun i5=>i5≤r.groups.length) (fun i5=>r.groups.length - i5) (0:Nat)
 (fun (i5:Nat)=>⟨[(38,iv (i5:Int))],[]⟩) fun i5 =>
 .bnd 36 0 r.groups.length <|
 .br (decide ((i5:Int) < ((r.groups.length:Nat):Int)))
 (.r 12 (.p (ixP (i5:Int) r.groups.length)) fun _ =>
 .r 13 ((realm_in_k ((r.groups.getD i5 default).grade) 10).c) fun x6 =>
 .br (!x6)
 (.fin (.inl (.inl 1)))
 (.r 15 .z fun _ =>
 .wi 38 (w64 ((i5:Int)+1)) ((i5+1:Nat):Int) <|
 .fin (.inr (i5+1))))
 (.fin (.inl (.inr ()))))
 (fun (_:Unit)=>⟨[],[]⟩) fun _ =>
 .r 16 ((realm_fits_121_k x1.2.1 200 r).c) fun x7 =>
 .br (x7 != 0)
 (.fin x7)
 (.r 19 ((realm_fits_122_k x1.2.2 20 r).c) fun x8 =>
 .br (x8 != 0)
 (.fin x8)
 (.r 22 ((realm_usances_k r).c) fun x9 =>
 .br (x9 != 0)
 (.fin x9)
 (.r 25 ((realm_rest_k r).c) fun x10 =>
 .fin x10))))))
noncomputable def realm_Check (r:Realm):Int:=(realm_Check_sk r).val
theorem realm_Check_pst (r:Realm):(realm_Check_sk r).pst (fun (x:Int)=>x=0→r.HaltOK):=by
 unfold realm_Check_sk
 try simp only [realm_fits_117_k,realm_fits_118_k,realm_fits_121_k,realm_fits_122_k,realm_in_k,realm_names_k,realm_rest_k,realm_usances_k,realm_in_eq,File.Small,Realm.Small,Realm.HaltOK]
 exact okQ
theorem realm_Check_post (r:Realm):(fun (x:Int)=>x=0→r.HaltOK) (realm_Check r):=have h:=Sk.pval _ (realm_Check_pst r); h
theorem realm_Check_ok (r:Realm) (hr:r.Small):(realm_Check_sk r).obs (fun _=>True):=by
 simp only [File.Small,Realm.Small,Realm.HaltOK] at hr
 unfold realm_Check_sk
 try simp only [realm_fits_117_k,realm_fits_118_k,realm_fits_121_k,realm_fits_122_k,realm_in_k,realm_names_k,realm_rest_k,realm_usances_k,realm_in_eq,File.Small,Realm.Small,Realm.HaltOK]
 exact okG
noncomputable def realm_Check_k (r:Realm):Ctr (Int):=kk tok mixed Tryz.func58 [av r.cells] (fun x=>iv x) true (realm_Check_sk r) (realm_Check r) (fun (h:(r.Small))=>realm_Check_ok r h) (fun (x:Int)=>x=0→r.HaltOK) (realm_Check_post r)
noncomputable def tenor_isCity_sk (r:Realm) (city:Int):Sk (Bool) :=
 .fin ((decide (city≥0))&&(decide (city < ((r.cities.length:Nat):Int))))
noncomputable def tenor_isCity (r:Realm) (city:Int):Bool:=(tenor_isCity_sk r city).val
theorem tenor_isCity_eq (r:Realm) (city:Int):tenor_isCity r city=((decide (city≥0))&&(decide (city < ((r.cities.length:Nat):Int)))):=rfl
theorem tenor_isCity_ok (r:Realm) (city:Int):(tenor_isCity_sk r city).obs (fun _=>True):=by
 unfold tenor_isCity_sk
 exact okE
noncomputable def tenor_isCity_k (r:Realm) (city:Int):Ctr (Bool):=kk tok mixed Tryz.func202 [av r.cells,iv city] (fun x=>bv x) true (tenor_isCity_sk r city) (tenor_isCity r city) (fun (_:True)=>tenor_isCity_ok r city)
noncomputable def tenor_isDay_sk (n:Int):Sk (Bool) :=
 .fin ((decide (n≥0))&&(decide (n≤100000)))
noncomputable def tenor_isDay (n:Int):Bool:=(tenor_isDay_sk n).val
theorem tenor_isDay_eq (n:Int):tenor_isDay n=((decide (n≥0))&&(decide (n≤100000))):=rfl
theorem tenor_isDay_ok (n:Int):(tenor_isDay_sk n).obs (fun _=>True):=by
 unfold tenor_isDay_sk
 exact okE
noncomputable def tenor_isDay_k (n:Int):Ctr (Bool):=kk tok mixed Tryz.func203 [iv n] (fun x=>bv x) true (tenor_isDay_sk n) (tenor_isDay n) (fun (_:True)=>tenor_isDay_ok n)
noncomputable def tenor_Sights_sk (t:Tenor):Sk (Bool) :=
 .fin ((t.kind == 0)||(t.kind == 1))
noncomputable def tenor_Sights (t:Tenor):Bool:=(tenor_Sights_sk t).val
theorem tenor_Sights_eq (t:Tenor):tenor_Sights t=((t.kind == 0)||(t.kind == 1)):=rfl
theorem tenor_Sights_ok (t:Tenor):(tenor_Sights_sk t).obs (fun _=>True):=by
 unfold tenor_Sights_sk
 exact okE
noncomputable def tenor_Sights_k (t:Tenor):Ctr (Bool):=kk tok mixed Tryz.func204 [av t.cells] (fun x=>bv x) true (tenor_Sights_sk t) (tenor_Sights t) (fun (_:True)=>tenor_Sights_ok t)
noncomputable def calendar_valid_sk (day:Int):Sk (Bool) :=
 .fin ((decide ((0:Int)≤day))&&(decide (day≤100000)))
noncomputable def calendar_valid (day:Int):Bool:=(calendar_valid_sk day).val
theorem calendar_valid_eq (day:Int):calendar_valid day=((decide ((0:Int)≤day))&&(decide (day≤100000))):=rfl
theorem calendar_valid_ok (day:Int):(calendar_valid_sk day).obs (fun _=>True):=by
 unfold calendar_valid_sk
 exact okE
noncomputable def calendar_valid_k (day:Int):Ctr (Bool):=kk tok mixed Tryz.func270 [iv day] (fun x=>bv x) true (calendar_valid_sk day) (calendar_valid day) (fun (_:True)=>calendar_valid_ok day)
theorem calendar_valid_fn (day:Int):FnA Tryz.prog 270 [iv day] [] (bv (calendar_valid day)) []:=(calendar_valid_k day).pf trivial
noncomputable def calendar_civil_sk (day:Int):Sk (Int × Int × Int) :=
 .r 2 (.andl (.p ((146097:Int)≠0)) (.p ((146097:Int)≠0))) fun _ =>
 .r 3 (.andl (.p ((1460:Int)≠0)) (.andl (.p ((36524:Int)≠0)) (.andl (.p ((146096:Int)≠0)) (.p ((365:Int)≠0))))) fun _ =>
 .r 4 (.andl (.p ((4:Int)≠0)) (.p ((100:Int)≠0))) fun _ =>
 .r 5 (.p ((153:Int)≠0)) fun _ =>
 .r 6 (.p ((5:Int)≠0)) fun _ =>
 .bind false (fun _=>True)
 (.br (decide ((w64 ((w64 ((w64 ((w64 ((5:Int) * (w64 (((w64 (day+730425)).tmod 146097) - (w64 ((w64 ((w64 ((365:Int) * (w64 ((w64 ((w64 ((w64 (((w64 (day+730425)).tmod 146097) - (w64 (((w64 (day+730425)).tmod 146097).tdiv 1460))))+(w64 (((w64 (day+730425)).tmod 146097).tdiv 36524)))) - (w64 (((w64 (day+730425)).tmod 146097).tdiv 146096)))).tdiv 365))))+(w64 ((w64 ((w64 ((w64 ((w64 (((w64 (day+730425)).tmod 146097) - (w64 (((w64 (day+730425)).tmod 146097).tdiv 1460))))+(w64 (((w64 (day+730425)).tmod 146097).tdiv 36524)))) - (w64 (((w64 (day+730425)).tmod 146097).tdiv 146096)))).tdiv 365)).tdiv 4)))) - (w64 ((w64 ((w64 ((w64 ((w64 (((w64 (day+730425)).tmod 146097) - (w64 (((w64 (day+730425)).tmod 146097).tdiv 1460))))+(w64 (((w64 (day+730425)).tmod 146097).tdiv 36524)))) - (w64 (((w64 (day+730425)).tmod 146097).tdiv 146096)))).tdiv 365)).tdiv 100))))))))+2)).tdiv 153))+3)) > 12))
 (.fin (.inr (w64 ((w64 ((w64 ((w64 ((w64 ((5:Int) * (w64 (((w64 (day+730425)).tmod 146097) - (w64 ((w64 ((w64 ((365:Int) * (w64 ((w64 ((w64 ((w64 (((w64 (day+730425)).tmod 146097) - (w64 (((w64 (day+730425)).tmod 146097).tdiv 1460))))+(w64 (((w64 (day+730425)).tmod 146097).tdiv 36524)))) - (w64 (((w64 (day+730425)).tmod 146097).tdiv 146096)))).tdiv 365))))+(w64 ((w64 ((w64 ((w64 ((w64 (((w64 (day+730425)).tmod 146097) - (w64 (((w64 (day+730425)).tmod 146097).tdiv 1460))))+(w64 (((w64 (day+730425)).tmod 146097).tdiv 36524)))) - (w64 (((w64 (day+730425)).tmod 146097).tdiv 146096)))).tdiv 365)).tdiv 4)))) - (w64 ((w64 ((w64 ((w64 ((w64 (((w64 (day+730425)).tmod 146097) - (w64 (((w64 (day+730425)).tmod 146097).tdiv 1460))))+(w64 (((w64 (day+730425)).tmod 146097).tdiv 36524)))) - (w64 (((w64 (day+730425)).tmod 146097).tdiv 146096)))).tdiv 365)).tdiv 100))))))))+2)).tdiv 153))+3)) - 12))))
 (.fin (.inr (w64 ((w64 ((w64 ((w64 ((5:Int) * (w64 (((w64 (day+730425)).tmod 146097) - (w64 ((w64 ((w64 ((365:Int) * (w64 ((w64 ((w64 ((w64 (((w64 (day+730425)).tmod 146097) - (w64 (((w64 (day+730425)).tmod 146097).tdiv 1460))))+(w64 (((w64 (day+730425)).tmod 146097).tdiv 36524)))) - (w64 (((w64 (day+730425)).tmod 146097).tdiv 146096)))).tdiv 365))))+(w64 ((w64 ((w64 ((w64 ((w64 (((w64 (day+730425)).tmod 146097) - (w64 (((w64 (day+730425)).tmod 146097).tdiv 1460))))+(w64 (((w64 (day+730425)).tmod 146097).tdiv 36524)))) - (w64 (((w64 (day+730425)).tmod 146097).tdiv 146096)))).tdiv 365)).tdiv 4)))) - (w64 ((w64 ((w64 ((w64 ((w64 (((w64 (day+730425)).tmod 146097) - (w64 (((w64 (day+730425)).tmod 146097).tdiv 1460))))+(w64 (((w64 (day+730425)).tmod 146097).tdiv 36524)))) - (w64 (((w64 (day+730425)).tmod 146097).tdiv 146096)))).tdiv 365)).tdiv 100))))))))+2)).tdiv 153))+3)))))
 (fun (b1:Int)=>⟨[(3,iv b1)],[]⟩) fun b1 =>
 .br (decide (b1 < 3))
 (.fin (w64 ((w64 ((w64 ((w64 ((w64 ((w64 (((w64 (day+730425)).tmod 146097) - (w64 (((w64 (day+730425)).tmod 146097).tdiv 1460))))+(w64 (((w64 (day+730425)).tmod 146097).tdiv 36524)))) - (w64 (((w64 (day+730425)).tmod 146097).tdiv 146096)))).tdiv 365))+(w64 ((400:Int) * (w64 ((w64 (day+730425)).tdiv 146097))))))+1),b1,w64 ((w64 ((w64 (((w64 (day+730425)).tmod 146097) - (w64 ((w64 ((w64 ((365:Int) * (w64 ((w64 ((w64 ((w64 (((w64 (day+730425)).tmod 146097) - (w64 (((w64 (day+730425)).tmod 146097).tdiv 1460))))+(w64 (((w64 (day+730425)).tmod 146097).tdiv 36524)))) - (w64 (((w64 (day+730425)).tmod 146097).tdiv 146096)))).tdiv 365))))+(w64 ((w64 ((w64 ((w64 ((w64 (((w64 (day+730425)).tmod 146097) - (w64 (((w64 (day+730425)).tmod 146097).tdiv 1460))))+(w64 (((w64 (day+730425)).tmod 146097).tdiv 36524)))) - (w64 (((w64 (day+730425)).tmod 146097).tdiv 146096)))).tdiv 365)).tdiv 4)))) - (w64 ((w64 ((w64 ((w64 ((w64 (((w64 (day+730425)).tmod 146097) - (w64 (((w64 (day+730425)).tmod 146097).tdiv 1460))))+(w64 (((w64 (day+730425)).tmod 146097).tdiv 36524)))) - (w64 (((w64 (day+730425)).tmod 146097).tdiv 146096)))).tdiv 365)).tdiv 100)))))) - (w64 ((w64 ((w64 ((153:Int) * (w64 ((w64 ((w64 ((5:Int) * (w64 (((w64 (day+730425)).tmod 146097) - (w64 ((w64 ((w64 ((365:Int) * (w64 ((w64 ((w64 ((w64 (((w64 (day+730425)).tmod 146097) - (w64 (((w64 (day+730425)).tmod 146097).tdiv 1460))))+(w64 (((w64 (day+730425)).tmod 146097).tdiv 36524)))) - (w64 (((w64 (day+730425)).tmod 146097).tdiv 146096)))).tdiv 365))))+(w64 ((w64 ((w64 ((w64 ((w64 (((w64 (day+730425)).tmod 146097) - (w64 (((w64 (day+730425)).tmod 146097).tdiv 1460))))+(w64 (((w64 (day+730425)).tmod 146097).tdiv 36524)))) - (w64 (((w64 (day+730425)).tmod 146097).tdiv 146096)))).tdiv 365)).tdiv 4)))) - (w64 ((w64 ((w64 ((w64 ((w64 (((w64 (day+730425)).tmod 146097) - (w64 (((w64 (day+730425)).tmod 146097).tdiv 1460))))+(w64 (((w64 (day+730425)).tmod 146097).tdiv 36524)))) - (w64 (((w64 (day+730425)).tmod 146097).tdiv 146096)))).tdiv 365)).tdiv 100))))))))+2)).tdiv 153))))+2)).tdiv 5))))+1)))
 (.fin (w64 ((w64 ((w64 ((w64 ((w64 (((w64 (day+730425)).tmod 146097) - (w64 (((w64 (day+730425)).tmod 146097).tdiv 1460))))+(w64 (((w64 (day+730425)).tmod 146097).tdiv 36524)))) - (w64 (((w64 (day+730425)).tmod 146097).tdiv 146096)))).tdiv 365))+(w64 ((400:Int) * (w64 ((w64 (day+730425)).tdiv 146097))))),b1,w64 ((w64 ((w64 (((w64 (day+730425)).tmod 146097) - (w64 ((w64 ((w64 ((365:Int) * (w64 ((w64 ((w64 ((w64 (((w64 (day+730425)).tmod 146097) - (w64 (((w64 (day+730425)).tmod 146097).tdiv 1460))))+(w64 (((w64 (day+730425)).tmod 146097).tdiv 36524)))) - (w64 (((w64 (day+730425)).tmod 146097).tdiv 146096)))).tdiv 365))))+(w64 ((w64 ((w64 ((w64 ((w64 (((w64 (day+730425)).tmod 146097) - (w64 (((w64 (day+730425)).tmod 146097).tdiv 1460))))+(w64 (((w64 (day+730425)).tmod 146097).tdiv 36524)))) - (w64 (((w64 (day+730425)).tmod 146097).tdiv 146096)))).tdiv 365)).tdiv 4)))) - (w64 ((w64 ((w64 ((w64 ((w64 (((w64 (day+730425)).tmod 146097) - (w64 (((w64 (day+730425)).tmod 146097).tdiv 1460))))+(w64 (((w64 (day+730425)).tmod 146097).tdiv 36524)))) - (w64 (((w64 (day+730425)).tmod 146097).tdiv 146096)))).tdiv 365)).tdiv 100)))))) - (w64 ((w64 ((w64 ((153:Int) * (w64 ((w64 ((w64 ((5:Int) * (w64 (((w64 (day+730425)).tmod 146097) - (w64 ((w64 ((w64 ((365:Int) * (w64 ((w64 ((w64 ((w64 (((w64 (day+730425)).tmod 146097) - (w64 (((w64 (day+730425)).tmod 146097).tdiv 1460))))+(w64 (((w64 (day+730425)).tmod 146097).tdiv 36524)))) - (w64 (((w64 (day+730425)).tmod 146097).tdiv 146096)))).tdiv 365))))+(w64 ((w64 ((w64 ((w64 ((w64 (((w64 (day+730425)).tmod 146097) - (w64 (((w64 (day+730425)).tmod 146097).tdiv 1460))))+(w64 (((w64 (day+730425)).tmod 146097).tdiv 36524)))) - (w64 (((w64 (day+730425)).tmod 146097).tdiv 146096)))).tdiv 365)).tdiv 4)))) - (w64 ((w64 ((w64 ((w64 ((w64 (((w64 (day+730425)).tmod 146097) - (w64 (((w64 (day+730425)).tmod 146097).tdiv 1460))))+(w64 (((w64 (day+730425)).tmod 146097).tdiv 36524)))) - (w64 (((w64 (day+730425)).tmod 146097).tdiv 146096)))).tdiv 365)).tdiv 100))))))))+2)).tdiv 153))))+2)).tdiv 5))))+1)))
noncomputable def calendar_civil (day:Int):Int × Int × Int:=(calendar_civil_sk day).val
theorem calendar_civil_ok (day:Int):(calendar_civil_sk day).obs (fun _=>True):=by
 unfold calendar_civil_sk
 exact okD
noncomputable def calendar_civil_k (day:Int):Ctr (Int × Int × Int):=kk tok mixed Tryz.func283 [iv day] (fun x=>.tup [iv x.1,iv x.2.1,iv x.2.2]) true (calendar_civil_sk day) (calendar_civil day) (fun (_:True)=>calendar_civil_ok day)
noncomputable def calendar_number_sk (year:Int) (month:Int) (dom:Int):Sk (Int) :=
 .br (decide (month < 3))
 (.r 3 (.andl (.p ((4:Int)≠0)) (.andl (.p ((100:Int)≠0)) (.andl (.p ((400:Int)≠0)) (.p ((5:Int)≠0))))) fun _ =>
 .fin (w64 ((w64 ((w64 ((w64 ((w64 ((w64 ((w64 ((w64 ((365:Int) * (w64 (year - 1))))+(w64 ((w64 (year - 1)).tdiv 4)))) - (w64 ((w64 (year - 1)).tdiv 100))))+(w64 ((w64 (year - 1)).tdiv 400))))+(w64 ((w64 ((w64 ((153:Int) * (w64 ((w64 (month+12)) - 3))))+2)).tdiv 5))))+dom)) - 1)) - 730425)))
 (.r 3 (.andl (.p ((4:Int)≠0)) (.andl (.p ((100:Int)≠0)) (.andl (.p ((400:Int)≠0)) (.p ((5:Int)≠0))))) fun _ =>
 .fin (w64 ((w64 ((w64 ((w64 ((w64 ((w64 ((w64 ((w64 ((365:Int) * year))+(w64 (year.tdiv 4)))) - (w64 (year.tdiv 100))))+(w64 (year.tdiv 400))))+(w64 ((w64 ((w64 ((153:Int) * (w64 (month - 3))))+2)).tdiv 5))))+dom)) - 1)) - 730425)))
noncomputable def calendar_number (year:Int) (month:Int) (dom:Int):Int:=(calendar_number_sk year month dom).val
theorem calendar_number_ok (year:Int) (month:Int) (dom:Int):(calendar_number_sk year month dom).obs (fun _=>True):=by
 unfold calendar_number_sk
 exact okD
noncomputable def calendar_number_k (year:Int) (month:Int) (dom:Int):Ctr (Int):=kk tok mixed Tryz.func297 [iv year,iv month,iv dom] (fun x=>iv x) true (calendar_number_sk year month dom) (calendar_number year month dom) (fun (_:True)=>calendar_number_ok year month dom)
noncomputable def calendar_length_sk (year:Int) (month:Int):Sk (Int) :=
 .br (month == 12)
 (.fin 31)
 (.r 3 (.dep ((calendar_number_k year (w64 (month+1)) 1).c) fun _=>(calendar_number_k year month 1).c) fun p3 =>
 .fin (w64 (p3.1 - p3.2)))
noncomputable def calendar_length (year:Int) (month:Int):Int:=(calendar_length_sk year month).val
theorem calendar_length_ok (year:Int) (month:Int):(calendar_length_sk year month).obs (fun _=>True):=by
 unfold calendar_length_sk
 try simp only [calendar_number_k]
 exact okE
noncomputable def calendar_length_k (year:Int) (month:Int):Ctr (Int):=kk tok mixed Tryz.func285 [iv year,iv month] (fun x=>iv x) true (calendar_length_sk year month) (calendar_length year month) (fun (_:True)=>calendar_length_ok year month)
noncomputable def calendar_Day_sk (year:Int) (month:Int) (dom:Int):Sk (Int × Int) :=
 .r 1 (.wh (((((decide (year < 2000))||(decide (year > 2300)))||(decide (month < 1)))||(decide (month > 12)))||(decide (dom < 1))) false ((calendar_length_k year month).c)) fun x1 =>
 .br ((((((decide (year < 2000))||(decide (year > 2300)))||(decide (month < 1)))||(decide (month > 12)))||(decide (dom < 1)))||(decide (dom > x1)))
 (.fin (0,3))
 (.r 3 ((calendar_number_k year month dom).c) fun x2 =>
 .r 4 ((calendar_valid_k x2).c) fun x3 =>
 .br (!x3)
 (.fin (0,3))
 (.fin (x2,0)))
noncomputable def calendar_Day (year:Int) (month:Int) (dom:Int):Int × Int:=(calendar_Day_sk year month dom).val
theorem calendar_Day_ok (year:Int) (month:Int) (dom:Int):(calendar_Day_sk year month dom).obs (fun _=>True):=by
 unfold calendar_Day_sk
 try simp only [calendar_length_k,calendar_number_k,calendar_valid_k,calendar_valid_eq]
 exact okG
noncomputable def calendar_Day_k (year:Int) (month:Int) (dom:Int):Ctr (Int × Int):=kk tok mixed Tryz.func284 [iv year,iv month,iv dom] (fun x=>.tup [iv x.1,iv x.2]) true (calendar_Day_sk year month dom) (calendar_Day year month dom) (fun (_:True)=>calendar_Day_ok year month dom)
noncomputable def calendar_AddMonths_sk (day:Int) (n:Int):Sk (Int × Int) :=
 .r 1 ((calendar_valid_k day).c) fun x1 =>
 .br (((!x1)||(decide (n < (-5000))))||(decide (n > 5000)))
 (.fin (0,3))
 (.r 3 ((calendar_civil_k day).c) fun x2 =>
 .r 5 (.andl (.p ((12:Int)≠0)) (.p ((12:Int)≠0))) fun _ =>
 .r 6 (.dep ((calendar_length_k (w64 ((w64 ((w64 ((w64 ((w64 ((12:Int) * x2.1))+x2.2.1)) - 1))+n)).tdiv 12)) (w64 (((w64 ((w64 ((w64 ((w64 ((12:Int) * x2.1))+x2.2.1)) - 1))+n)).tmod 12)+1))).c) fun x3=>(calendar_Day_k (w64 ((w64 ((w64 ((w64 ((w64 ((12:Int) * x2.1))+x2.2.1)) - 1))+n)).tdiv 12)) (w64 (((w64 ((w64 ((w64 ((w64 ((12:Int) * x2.1))+x2.2.1)) - 1))+n)).tmod 12)+1)) (minI x2.2.2 x3)).c) fun p5 =>
 .fin (p5.2.1,p5.2.2))
noncomputable def calendar_AddMonths (day:Int) (n:Int):Int × Int:=(calendar_AddMonths_sk day n).val
theorem calendar_AddMonths_ok (day:Int) (n:Int):(calendar_AddMonths_sk day n).obs (fun _=>True):=by
 unfold calendar_AddMonths_sk
 try simp only [calendar_Day_k,calendar_civil_k,calendar_length_k,calendar_valid_k,calendar_valid_eq]
 exact okG
noncomputable def calendar_AddMonths_k (day:Int) (n:Int):Ctr (Int × Int):=kk tok mixed Tryz.func269 [iv day,iv n] (fun x=>.tup [iv x.1,iv x.2]) true (calendar_AddMonths_sk day n) (calendar_AddMonths day n) (fun (_:True)=>calendar_AddMonths_ok day n)
noncomputable def tenor_after_sk (day:Int) (t:Tenor):Sk (Int × Int) :=
 .br ((decide (t.n < 0))||(decide (t.n > 20000)))
 (.fin (0,3))
 (.br (t.unit == 1)
 (.r 4 ((calendar_AddMonths_k day t.n).c) fun x1 =>
 .fin (x1.1,x1.2))
 (.fin (w64 (day+t.n),0)))
noncomputable def tenor_after (day:Int) (t:Tenor):Int × Int:=(tenor_after_sk day t).val
theorem tenor_after_ok (day:Int) (t:Tenor):(tenor_after_sk day t).obs (fun _=>True):=by
 unfold tenor_after_sk
 try simp only [calendar_AddMonths_k]
 exact okE
noncomputable def tenor_after_k (day:Int) (t:Tenor):Ctr (Int × Int):=kk tok mixed Tryz.func247 [iv day,av t.cells] (fun x=>.tup [iv x.1,iv x.2]) true (tenor_after_sk day t) (tenor_after day t) (fun (_:True)=>tenor_after_ok day t)
noncomputable def realm_Usance_sk (r:Realm) (from_:Int) (to_:Int):Sk (Int × Int) :=
 .bind true (fun _=>True)
 (.loop (default:Sum (Int × Int) (Unit)) (fun i2=>i2≤r.usances.length) (fun i2=>r.usances.length - i2) (0:Nat)
 (fun (i2:Nat)=>⟨[(13,iv (i2:Int))],[]⟩) fun i2 =>
 .bnd 11 0 r.usances.length <|
 .br (decide ((i2:Int) < ((r.usances.length:Nat):Int)))
 (.r 3 (.p (ixP (i2:Int) r.usances.length)) fun _ =>
 .br ((((r.usances.getD i2 default).from_) == from_)&&(((r.usances.getD i2 default).to_) == to_))
 (.fin (.inl (.inl ((r.usances.getD i2 default).days,0))))
 (.r 6 .z fun _ =>
 .wi 13 (w64 ((i2:Int)+1)) ((i2+1:Nat):Int) <|
 .fin (.inr (i2+1))))
 (.fin (.inl (.inr ()))))
 (fun (_:Unit)=>⟨[],[]⟩) fun _ =>
 .fin (0,4)
noncomputable def realm_Usance (r:Realm) (from_:Int) (to_:Int):Int × Int:=(realm_Usance_sk r from_ to_).val
theorem realm_Usance_ok (r:Realm) (from_:Int) (to_:Int):(realm_Usance_sk r from_ to_).obs (fun _=>True):=by
 unfold realm_Usance_sk
 exact okD
noncomputable def realm_Usance_k (r:Realm) (from_:Int) (to_:Int):Ctr (Int × Int):=kk tok mixed Tryz.func176 [av r.cells,iv from_,iv to_] (fun x=>.tup [iv x.1,iv x.2]) true (realm_Usance_sk r from_ to_) (realm_Usance r from_ to_) (fun (_:True)=>realm_Usance_ok r from_ to_)
noncomputable def tenor_base_sk (r:Realm) (b:Bill) (seen:Int):Sk (Int × Int) :=
 .br (b.tenor.kind == 0)
 (.fin (seen,0))
 (.br (b.tenor.kind == 1)
 (.r 5 ((tenor_after_k seen b.tenor).c) fun x1 =>
 .fin (x1.1,x1.2))
 (.br (b.tenor.kind == 2)
 (.r 7 ((tenor_after_k b.day b.tenor).c) fun x2 =>
 .fin (x2.1,x2.2))
 (.br (b.tenor.kind == 4)
 (.r 9 ((realm_Usance_k r b.city b.pay).c) fun x3 =>
 .fin (w64 (b.day+x3.1),x3.2))
 (.fin (b.tenor.n,0)))))
noncomputable def tenor_base (r:Realm) (b:Bill) (seen:Int):Int × Int:=(tenor_base_sk r b seen).val
theorem tenor_base_ok (r:Realm) (b:Bill) (seen:Int):(tenor_base_sk r b seen).obs (fun _=>True):=by
 unfold tenor_base_sk
 try simp only [realm_Usance_k,tenor_after_k]
 exact okE
noncomputable def tenor_base_k (r:Realm) (b:Bill) (seen:Int):Ctr (Int × Int):=kk tok mixed Tryz.func205 [av r.cells,av b.cells,iv seen] (fun x=>.tup [iv x.1,iv x.2]) true (tenor_base_sk r b seen) (tenor_base r b seen) (fun (_:True)=>tenor_base_ok r b seen)
noncomputable def tenor_skip_sk (r:Realm) (order:Int) (day:Int):Sk (Int) :=
 .bind true (fun b1=>day≤b1∧b1≤100001)
 (.loop (default:Sum (Int) (Int)) (fun i2=>day≤i2.1∧i2.1≤100001) (fun i2=>2 * (100001 - i2.1).toNat+(if i2.2 then 1 else 0)) ((day,true):Int × Bool)
 (fun (i2:Int × Bool)=>⟨[(2,iv i2.1),(7,bv i2.2)],[]⟩) fun i2 =>
 .br i2.2
 (.bind true (fun b3=>i2.1≤b3.1∧b3.1≤100001∧(b3.2.1=true→i2.1 < b3.1)∧(b3.2.1=false→b3.1=i2.1))
 (.bind true (fun b4=>i2.1≤b4.1∧b4.1≤100001∧(b4.2.1=true→i2.1 < b4.1)∧(b4.2.1=false→b4.1=i2.1))
 (.loop (default:Sum (Sum (Sum (Sum (Int) (Int)) (Int × Bool)) (Int × Bool × (List Halt) × Int × Int × Bool)) (Int × Bool × Int × Bool)) (fun i5=>i5.2.2≤r.halts.length∧i2.1≤i5.1∧i5.1≤100001∧(i5.2.1=true→i2.1 < i5.1)∧(i5.2.1=false→i5.1=i2.1)) (fun i5=>r.halts.length - i5.2.2) ((i2.1,false,0):Int × Bool × Nat)
 (fun (i5:Int × Bool × Nat)=>⟨[(2,iv i5.1),(7,bv i5.2.1),(14,iv (i5.2.2:Int))],[]⟩) fun i5 =>
 .bnd 12 0 r.halts.length <|
 .br (decide ((i5.2.2:Int) < ((r.halts.length:Nat):Int)))
 (.r 6 (.p (ixP (i5.2.2:Int) r.halts.length)) fun _ =>
 .br (((((r.halts.getD i5.2.2 default).order) == order)&&(decide (((r.halts.getD i5.2.2 default).from_)≤i5.1)))&&(decide (i5.1≤((r.halts.getD i5.2.2 default).to_))))
 (.r 9 .z fun _ =>
 .wi 14 (w64 ((i5.2.2:Int)+1)) ((i5.2.2+1:Nat):Int) <|
 .fin (.inr (w64 (((r.halts.getD i5.2.2 default).to_)+1),true,i5.2.2+1)))
 (.r 9 .z fun _ =>
 .wi 14 (w64 ((i5.2.2:Int)+1)) ((i5.2.2+1:Nat):Int) <|
 .fin (.inr (i5.1,i5.2.1,i5.2.2+1))))
 (.fin (.inl (.inr (i5.1,i5.2.1,(i5.2.2:Int),decide ((i5.2.2:Int) < ((r.halts.length:Nat):Int)))))))
 (fun (b4:Int × Bool × Int × Bool)=>⟨[(2,iv b4.1),(7,bv b4.2.1),(14,iv b4.2.2.1),(15,bv b4.2.2.2)],[]⟩) fun b4 =>
 .fin (.inr (b4.1,b4.2.1,r.halts,((r.halts.length:Nat):Int),b4.2.2.1,b4.2.2.2)))
 (fun (b3:Int × Bool × (List Halt) × Int × Int × Bool)=>⟨[(2,iv b3.1),(7,bv b3.2.1),(12,lv Halt.cells b3.2.2.1),(13,iv b3.2.2.2.1),(14,iv b3.2.2.2.2.1),(15,bv b3.2.2.2.2.2)],[]⟩) fun b3 =>
 .fin (.inr (b3.1,b3.2.1)))
 (.fin (.inl (.inr i2.1))))
 (fun (b1:Int)=>⟨[(2,iv b1)],[]⟩) fun b1 =>
 .fin b1
noncomputable def tenor_skip (r:Realm) (order:Int) (day:Int):Int:=(tenor_skip_sk r order day).val
theorem tenor_skip_pst (r:Realm) (order:Int) (day:Int) (hP:r.HaltOK∧0≤day∧day≤100001):(tenor_skip_sk r order day).pst (fun (x:Int)=>day≤x∧x≤100001):=by
 refine Sk.pst_of _ ?_
 unfold tenor_skip_sk
 simp only [Sk.pstq,Sk.isLoop,reduceCtorEq,ON,kk,Realm.HaltOK,maxLen]
 obtain ⟨hh,hd⟩:=hP
 refine ⟨⟨by omega,fun i hi=>⟨fun hch=>⟨⟨⟨⟨by omega,⟨by omega,by omega⟩⟩,fun j hj=>⟨fun hc _=>⟨fun ht _=>⟨⟨?_,?_⟩,?_⟩,fun ht _=>⟨⟨?_,hj.2⟩,?_⟩⟩,fun hc=>hj.2⟩⟩,fun b hb=>hb⟩,fun b _ hb=>⟨?_,?_⟩⟩,fun hch=>hi⟩⟩,fun b hb=>hb⟩
 all_goals (try simp only [LN] at hc)
 all_goals (try simp only [LN] at ht)
 ·omega
 ·have h2:=hh j.2.2 (by omega)
  rw [w64_id (by omega) (by omega)]
  omega
 ·omega
 ·omega
 ·omega
 ·omega
 ·rw [if_pos hch]
  cases hb2:b.2.1 with
  | true=>have:=hb.2.2.1 hb2; simp only [if_true]; omega
  | false=>have:=hb.2.2.2 hb2; simp only [Bool.false_eq_true,if_false]; omega
theorem tenor_skip_post (r:Realm) (order:Int) (day:Int):(fun (x:Int)=>(r.HaltOK∧0≤day∧day≤100001)→(day≤x∧x≤100001)) (tenor_skip r order day):=fun hP=>Sk.pval _ (tenor_skip_pst r order day hP)
theorem tenor_skip_ok (r:Realm) (order:Int) (day:Int) (hh:r.HaltOK) (hd:0≤day∧day≤100001):(tenor_skip_sk r order day).obs (fun _=>True):=by
 simp only [Realm.HaltOK] at hh
 refine Sk.obs_of _ ?_
 unfold tenor_skip_sk
 simp only [Sk.obq,Sk.isLoop,reduceCtorEq,ON,kk,Realm.HaltOK,maxLen]
 refine ⟨⟨by omega,by omega⟩,fun i hi=>⟨fun hch=>⟨⟨⟨⟨by omega,by omega,by omega⟩,fun j hj hl=>⟨fun hc=>⟨⟨by omega,of_decide_eq_true hc⟩,fun _=>⟨fun ht _=>⟨?_,⟨?_,?_⟩,?_⟩,fun ht _=>⟨?_,⟨?_,hj.2⟩,?_⟩⟩⟩,fun hc=>hj.2⟩⟩,fun b hb=>hb⟩,fun b _ hb=>⟨?_,?_⟩⟩,fun hch=>hi⟩⟩
 all_goals (try simp only [LN] at hc)
 all_goals (try simp only [LN] at ht)
 ·exact w64_id (by omega) (by omega)
 ·omega
 ·have h2:=hh j.2.2 (by omega)
  rw [w64_id (by omega) (by omega)]
  omega
 ·omega
 ·exact w64_id (by omega) (by omega)
 ·omega
 ·omega
 ·omega
 ·rw [if_pos hch]
  cases hb2:b.2.1 with
  | true=>have:=hb.2.2.1 hb2; simp only [if_true]; omega
  | false=>have:=hb.2.2.2 hb2; simp only [Bool.false_eq_true,if_false]; omega
noncomputable def tenor_skip_k (r:Realm) (order:Int) (day:Int):Ctr (Int):=kk tok mixed Tryz.func249 [av r.cells,iv order,iv day] (fun x=>iv x) true (tenor_skip_sk r order day) (tenor_skip r order day) (fun (h:(r.HaltOK)∧(0≤day∧day≤100001))=>tenor_skip_ok r order day h.1 h.2) (fun (x:Int)=>(r.HaltOK∧0≤day∧day≤100001)→(day≤x∧x≤100001)) (tenor_skip_post r order day)
noncomputable def calendar_open_sk (c_:City) (day:Int):Sk (Bool) :=
 .r 1 ((calendar_civil_k day).c) fun x1 =>
 .r 2 (.andl (.p ((7:Int)≠0)) (.dep ((slices_Contains_k c_.rest ((w64 (day+5)).tmod 7)).c) fun x2=>.dep (.wh (!x2) true ((slices_Contains_k c_.feasts (w64 ((w64 ((100:Int) * x1.2.1))+x1.2.2))).c)) fun x3=>.wh ((!x2)&&(!x3)) true ((slices_Contains_k c_.shut day).c))) fun p5 =>
 .fin (((!p5.1)&&(!p5.2.1))&&(!p5.2.2))
noncomputable def calendar_open (c_:City) (day:Int):Bool:=(calendar_open_sk c_ day).val
theorem calendar_open_ok (c_:City) (day:Int):(calendar_open_sk c_ day).obs (fun _=>True):=by
 unfold calendar_open_sk
 try simp only [calendar_civil_k,slices_Contains_k]
 exact okD
noncomputable def calendar_open_k (c_:City) (day:Int):Ctr (Bool):=kk tok mixed Tryz.func287 [av c_.cells,iv day] (fun x=>bv x) true (calendar_open_sk c_ day) (calendar_open c_ day) (fun (_:True)=>calendar_open_ok c_ day)
theorem calendar_open_fn (c_:City) (day:Int):FnA Tryz.prog 287 [av c_.cells,iv day] [] (bv (calendar_open c_ day)) []:=(calendar_open_k c_ day).pf trivial
end Go.Proofs.YtbcnlpcaajpclaaGreatDoor
