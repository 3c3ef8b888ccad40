/- Functions, as sketches. -/
import Derived.Test.YtggilgghigileaaGreatDoorRk5
namespace Go.Proofs.YtggilgghigileaaGreatDoor
open Go Go.Av
set_option linter.unusedSimpArgs false
set_option linter.unusedVariables false
set_option maxHeartbeats 1000000
set_option maxRecDepth 100000
theorem take_flat {α : Type} [Inhabited α] (l : List (List α)) (n : Nat) (h : n < l.length) : (l.take (n + 1)).flatten = (l.take n).flatten ++ l.getD n default := by
  rw [List.take_succ_eq_append_getElem h, List.flatten_append]
  simp only [List.getD, h, List.getElem?_eq_getElem, Option.getD_some, List.flatten_cons, List.flatten_nil, List.append_nil]
theorem flat_le {α : Type} [Inhabited α] (l : List (List α)) (B : Nat) (h : ∀ i, i < l.length → (l.getD i default).length ≤ B) : ∀ n, n ≤ l.length → (l.take n).flatten.length ≤ B * n
  | 0, _ => by simp
  | n + 1, hn => by
    have := flat_le l B h n (by omega)
    rw [take_flat l n (by omega), List.length_append, Nat.mul_add]
    have := h n (by omega)
    omega
noncomputable def slices_Concat_sk (slices : List (List Int)) : Sk ((List Int)) :=
 .bind true (fun b1 => (slices.length ≤ 100 ∧ ∀ i, i < slices.length → (slices.getD i default).length ≤ 1000000) → (0 : Int) ≤ b1 ∧ b1 ≤ 100000000)
 (.loop (default : Sum ((List Int)) (Int)) (fun i2 => (slices.length ≤ 100 ∧ ∀ i, i < slices.length → (slices.getD i default).length ≤ 1000000) → (0 : Int) ≤ i2.1 ∧ i2.1 ≤ ((1000000 * i2.2 : Nat) : Int) ∧ i2.2 ≤ slices.length) (fun i2 => slices.length - i2.2) ((0, 0) : Int × Nat)
 (fun (i2 : Int × Nat) => ⟨[(3, iv i2.1), (11, iv ((i2.2 : Nat) : Int))], []⟩) fun i2 =>
 .bnd 0 0 slices.length <|
 .br (decide (((i2.2 : Nat) : Int) < ((slices.length : Nat) : Int)))
 (.r 4 (.p (ixP ((i2.2 : Nat) : Int) slices.length)) fun _ =>
 .br (decide ((w64 (i2.1 + (((slices.getD i2.2 default).length : Nat) : Int))) < 0))
 (.dead default)
 (.r 8 .z fun _ =>
 .wi 11 (w64 (((i2.2 : Nat) : Int) + 1)) ((i2.2 + 1 : Nat) : Int) <|
 .fin (.inr (w64 (i2.1 + (((slices.getD i2.2 default).length : Nat) : Int)), i2.2 + 1))))
 (.fin (.inl (.inr i2.1))))
 (fun (b1 : Int) => ⟨[(3, iv b1)], []⟩) fun b1 =>
 .r 9 ((slices_Grow_nil_ko 24 b1).c) fun x3 =>
 .bind true (fun b4 => (slices.length ≤ 100 ∧ ∀ i, i < slices.length → (slices.getD i default).length ≤ 1000000) → b4 = slices.flatten)
 (.loop (default : Sum ((List Int)) ((List Int))) (fun i5 => (slices.length ≤ 100 ∧ ∀ i, i < slices.length → (slices.getD i default).length ≤ 1000000) → i5.1 = (slices.take i5.2).flatten ∧ i5.2 ≤ slices.length) (fun i5 => slices.length - i5.2) ((x3, 0) : (List Int) × Nat)
 (fun (i5 : (List Int) × Nat) => ⟨[(6, ow 100002 i5.1), (27, iv ((i5.2 : Nat) : Int))], [(100002, rowB 3 1 intC i5.1)]⟩) fun i5 =>
 .bnd 25 0 slices.length <|
 .br (decide (((i5.2 : Nat) : Int) < ((slices.length : Nat) : Int)))
 (.r 12 (.p (ixP ((i5.2 : Nat) : Int) slices.length)) fun _ =>
 .r 13 (.andl (.o [.nrm (catC intE i5.1 (slices.getD i5.2 default))]) (.andl (.t (intE.src (slices.getD i5.2 default))) (.p (szP i5.1.length (slices.getD i5.2 default).length 8)))) fun _ =>
 .r 14 .z fun _ =>
 .wi 27 (w64 (((i5.2 : Nat) : Int) + 1)) ((i5.2 + 1 : Nat) : Int) <|
 .fin (.inr (i5.1 ++ (slices.getD i5.2 default), i5.2 + 1)))
 (.fin (.inl (.inr i5.1))))
 (fun (b4 : (List Int)) => ⟨[(6, ow 100001 b4)], [(100001, rowB 3 1 intC b4)]⟩) fun b4 =>
 .fin b4
noncomputable def slices_Concat (slices : List (List Int)) : (List Int) := (slices_Concat_sk slices).val
theorem slices_Concat_pst (slices : List (List Int)) : (slices_Concat_sk slices).pst (fun (x : (List Int)) => (slices.length ≤ 100 ∧ ∀ i, i < slices.length → (slices.getD i default).length ≤ 1000000) → x = slices.flatten) := by
  refine Sk.pst_of _ ?_
  unfold slices_Concat_sk
  simp only [Sk.pstq, Sk.isLoop, reduceCtorEq, leafB, leafJ, Cal.z, Cal.p, Cal.t, Cal.pt, Cal.o, Cal.and, Cal.andl, Cal.andr, Cal.wh, Cal.dep, Cal.depr, Ctr.c, Ctr.nil, Ctr.nilc, CtrO.c, CtrO.nil, slices_Grow_nil_ko, maxLen, implies_true, true_and, and_true, and_self, true_implies, false_implies, ixP, szP, mkP]
  refine ⟨⟨fun h => ⟨by omega, by omega, by omega⟩, fun i hi => ⟨fun hc _ => ⟨fun hd => ?_, fun hd _ => ⟨fun h => ?_, ?_⟩⟩, fun hc h => ?_⟩⟩, fun b hb x _ hx => ⟨⟨fun h => ⟨by simp [hx], by omega⟩, fun i hi => ⟨fun hc _ _ _ => ⟨fun h => ⟨?_, ?_⟩, ?_⟩, fun hc h => ?_⟩⟩, fun b hb => hb⟩⟩
  all_goals (try simp only [decide_eq_true_eq, decide_eq_false_iff_not, List.length_append, List.length_cons, List.length_nil, List.length_set, List.length_replicate, Bool.not_eq_true, Bool.not_eq_false, Int.not_lt, Int.not_le, Bool.and_eq_true, Bool.or_eq_true, Bool.and_eq_false_iff, Bool.or_eq_false_iff, Bool.not_eq_eq_eq_not, Bool.not_true, Bool.not_false, beq_iff_eq, bne_iff_ne, beq_eq_false_iff_ne, bne_eq_false_iff_eq, ne_eq, subL_length] at hc)
  all_goals (try simp only [decide_eq_true_eq, decide_eq_false_iff_not, List.length_append, List.length_cons, List.length_nil, List.length_set, List.length_replicate, Bool.not_eq_true, Bool.not_eq_false, Int.not_lt, Int.not_le, Bool.and_eq_true, Bool.or_eq_true, Bool.and_eq_false_iff, Bool.or_eq_false_iff, Bool.not_eq_eq_eq_not, Bool.not_true, Bool.not_false, beq_iff_eq, bne_iff_ne, beq_eq_false_iff_ne, bne_eq_false_iff_eq, ne_eq, subL_length] at hd)
  · show (slices.length ≤ 100 ∧ ∀ (i : Nat), i < slices.length → (slices.getD i default).length ≤ 1000000) → _
    intro h
    have h1 := hi h
    have h2 := h.2 i.2 (by omega)
    rw [w64_id (by omega) (by omega)] at hd
    omega
  · have h1 := hi h
    have h2 := h.2 i.2 (by omega)
    rw [w64_id (by omega) (by omega)]
    omega
  · omega
  · have := hi h
    omega
  · rw [take_flat slices i.2 (by omega), (hi h).1]
  · have := hi h; omega
  · omega
  · have := hi h
    rw [this.1, show i.2 = slices.length by omega, List.take_length]

theorem slices_Concat_post (slices : List (List Int)) : (fun (x : (List Int)) => (slices.length ≤ 100 ∧ ∀ i, i < slices.length → (slices.getD i default).length ≤ 1000000) → x = slices.flatten) (slices_Concat slices) := Sk.pval _ (slices_Concat_pst slices)
theorem slices_Concat_ok (slices : List (List Int)) (hn : (slices.length ≤ 100 ∧ ∀ i, i < slices.length → (slices.getD i default).length ≤ 1000000)) : (slices_Concat_sk slices).obs (fun _ => True) := by
  refine Sk.obs_of _ ?_
  unfold slices_Concat_sk
  simp only [Sk.obq, Sk.isLoop, reduceCtorEq, leafB, leafJ, Cal.z, Cal.p, Cal.t, Cal.pt, Cal.o, Cal.and, Cal.andl, Cal.andr, Cal.wh, Cal.dep, Cal.depr, Ctr.c, Ctr.nil, Ctr.nilc, CtrO.c, CtrO.nil, slices_Grow_nil_ko, maxLen, implies_true, true_and, and_true, and_self, true_implies, false_implies, ixP, szP, mkP]
  refine ⟨⟨fun h => ⟨by omega, by omega, by omega⟩, fun i hi hl => ⟨fun hc => ⟨⟨by omega, of_decide_eq_true hc⟩, fun _ => ⟨fun hd => ?_, fun hd _ => ⟨?_, ⟨fun h => ?_, ?_⟩⟩⟩⟩, fun hc h => ?_⟩⟩, fun b hb => ⟨?_, fun x _ hx => ⟨fun h => ⟨by simp [hx], by omega⟩, fun i hi hl => ⟨fun hc => ⟨⟨by omega, of_decide_eq_true hc⟩, fun _ => ⟨?_, fun _ _ => ⟨?_, ⟨fun h => ⟨?_, ?_⟩, ?_⟩⟩⟩⟩, fun hc h => ?_⟩⟩⟩⟩
  all_goals (try simp only [decide_eq_true_eq, decide_eq_false_iff_not, List.length_append, List.length_cons, List.length_nil, List.length_set, List.length_replicate, Bool.not_eq_true, Bool.not_eq_false, Int.not_lt, Int.not_le, Bool.and_eq_true, Bool.or_eq_true, Bool.and_eq_false_iff, Bool.or_eq_false_iff, Bool.not_eq_eq_eq_not, Bool.not_true, Bool.not_false, beq_iff_eq, bne_iff_ne, beq_eq_false_iff_ne, bne_eq_false_iff_eq, ne_eq, subL_length] at hc)
  all_goals (try simp only [decide_eq_true_eq, decide_eq_false_iff_not, List.length_append, List.length_cons, List.length_nil, List.length_set, List.length_replicate, Bool.not_eq_true, Bool.not_eq_false, Int.not_lt, Int.not_le, Bool.and_eq_true, Bool.or_eq_true, Bool.and_eq_false_iff, Bool.or_eq_false_iff, Bool.not_eq_eq_eq_not, Bool.not_true, Bool.not_false, beq_iff_eq, bne_iff_ne, beq_eq_false_iff_ne, bne_eq_false_iff_eq, ne_eq, subL_length] at hd)
  · have h1 := hi hn
    have h2 := hn.2 i.2 (by omega)
    rw [w64_id (by omega) (by omega)] at hd
    omega
  · exact w64_id (by omega) (by omega)
  · have h1 := hi h
    have h2 := h.2 i.2 (by omega)
    rw [w64_id (by omega) (by omega)]
    omega
  · omega
  · have := hi h
    omega
  · have := hb hn; omega
  · have h1 := hi hn
    have h2 := hn.2 i.2 (by omega)
    have h3 := flat_le slices 1000000 hn.2 i.2 (by omega)
    rw [← h1.1] at h3
    omega
  · exact w64_id (by omega) (by omega)
  · rw [take_flat slices i.2 (by omega), (hi h).1]
  · have := hi h; omega
  · omega
  · have := hi h
    rw [this.1, show i.2 = slices.length by omega, List.take_length]

theorem slices_Concat_fn (slices : List (List Int)) (hn : (slices.length ≤ 100 ∧ ∀ i, i < slices.length → (slices.getD i default).length ≤ 1000000)) : FnA Tryz.prog 191 [lv (slE intE).cells slices] [] (lv intC (slices_Concat slices)) [] :=
  FnA.sk tok mixed (fun x => lv intC x) (fun _ => []) Tryz.func191 rfl (by kernel_rfl) 3000 (slices_Concat_sk slices) (by kernel_rfl) (slices_Concat_ok slices hn)
noncomputable def slices_Concat_k (slices : List (List Int)) : Ctr ((List Int)) := ⟨Tryz.prog, 191, [lv (slE intE).cells slices], fun x => lv intC x, false, slices_Concat slices, ((slices.length ≤ 100 ∧ ∀ i, i < slices.length → (slices.getD i default).length ≤ 1000000)), fun h => slices_Concat_fn slices h, fun (x : (List Int)) => (slices.length ≤ 100 ∧ ∀ i, i < slices.length → (slices.getD i default).length ≤ 1000000) → x = slices.flatten, slices_Concat_post slices⟩
theorem slices_Concat_fnO (slices : List (List Int)) (hn : (slices.length ≤ 100 ∧ ∀ i, i < slices.length → (slices.getD i default).length ≤ 1000000)) : FnA Tryz.prog 191 [lv (slE intE).cells slices] [] (ow 777777 (slices_Concat slices)) [(777777, rowB 3 1 intC (slices_Concat slices))] :=
  FnA.sk tok mixed (fun x => ow 777777 x) (fun x => [(777777, rowB 3 1 intC x)]) Tryz.func191 rfl (by kernel_rfl) 3000 (slices_Concat_sk slices) (by kernel_rfl) (slices_Concat_ok slices hn)
noncomputable def slices_Concat_ko (κ : Nat) (slices : List (List Int)) : CtrO ((List Int)) := ⟨Tryz.prog, 191, [lv (slE intE).cells slices], fun x => ow κ x, fun x => [(κ, rowB 3 1 intC x)], slices_Concat slices, ((slices.length ≤ 100 ∧ ∀ i, i < slices.length → (slices.getD i default).length ≤ 1000000)), fun h => FnA.rekey κ (slices_Concat_fnO slices h), fun (x : (List Int)) => (slices.length ≤ 100 ∧ ∀ i, i < slices.length → (slices.getD i default).length ≤ 1000000) → x = slices.flatten, slices_Concat_post slices⟩
noncomputable def term_machine_run_kr (rv : Machine → Term → CellX × (List Int)) (rp : Machine → Term → Prop) (rf : ∀ (m : Machine) (t : Term), rp m t → FnA Tryz.prog 157 [av [slD CellX.cells m.cells_], av t.cells] [] (.tup [av ((rv m t).1).cells, lv intC ((rv m t).2)]) []) (m : Machine) (t : Term) : Ctr (CellX × (List Int)) := ⟨Tryz.prog, 157, [av [slD CellX.cells m.cells_], av t.cells], fun x => .tup [av x.1.cells, lv intC x.2], false, rv m t, rp m t, rf m t, fun _ => True, trivial⟩
noncomputable def term_machine_run_sk (rv : Machine → Term → CellX × (List Int)) (rp : Machine → Term → Prop) (rf : ∀ (m : Machine) (t : Term), rp m t → FnA Tryz.prog 157 [av [slD CellX.cells m.cells_], av t.cells] [] (.tup [av ((rv m t).1).cells, lv intC ((rv m t).2)]) []) (m : Machine) (t : Term) : Sk (CellX × (List Int)) :=
 .bind false (fun b1 => b1 = (t.op == 0 || t.op == 1))
 (.br (t.op == 0)
 (.fin (.inr (t.op == 0)))
 (.fin (.inr (t.op == 1))))
 (fun (b1 : Bool) => ⟨[(15, bv b1)], []⟩) fun b1 =>
 .br b1
 (.fin (({ known := true, n := t.n } : CellX), []))
 (.br (t.op == 2)
 (.r 6 ((term_machine_value_k m t.n).c) fun x2 =>
 .br x2.known
 (.fin (x2, []))
 (.r 9 (.o [.nrm (litC intE [t.n])]) fun _ =>
 .fin (({ known := false, n := 0 } : CellX), [t.n])))
 (.r 10 (.andl (.o [.nrm (mkC CellX.E t.args.length ({ known := false, n := 0 } : CellX))]) (.p (mkP ((t.args.length : Nat) : Int) 16))) fun _ =>
 .r 11 (.andl (.o [.nrm (mkN (slE intE) t.args.length ([] : List Int) [.v (.slice none 0 0)] (by kernel_rfl))]) (.p (mkP ((t.args.length : Nat) : Int) 24))) fun _ =>
 .bind true (fun b3 => b3.1.length = t.args.length ∧ b3.2.length = t.args.length ∧ ∀ q, q < t.args.length → b3.1.getD q default = (rv m (t.args.getD q default)).1 ∧ b3.2.getD q default = (rv m (t.args.getD q default)).2)
 (.loop (default : Sum (CellX × (List Int)) ((List CellX) × (List (List Int)))) (fun i4 => i4.1.length = t.args.length ∧ i4.2.1.length = t.args.length ∧ i4.2.2 ≤ t.args.length ∧ ∀ q, q < i4.2.2 → i4.1.getD q default = (rv m (t.args.getD q default)).1 ∧ i4.2.1.getD q default = (rv m (t.args.getD q default)).2) (fun i4 => t.args.length - i4.2.2) ((List.replicate t.args.length ({ known := false, n := 0 } : CellX), List.replicate t.args.length ([] : List Int), 0) : (List CellX) × (List (List Int)) × Nat)
 (fun (i4 : (List CellX) × (List (List Int)) × Nat) => ⟨[(7, ow 100004 i4.1), (8, ow 100005 i4.2.1), (45, iv ((i4.2.2 : Nat) : Int))], [(100004, rowB 94 2 CellX.cells i4.1), (100005, rowB 95 1 (slE intE).cells i4.2.1)]⟩) fun i4 =>
 .bnd 43 0 t.args.length <|
 .br (decide (((i4.2.2 : Nat) : Int) < ((t.args.length : Nat) : Int)))
 (.r 14 (.andl (.p (ixP ((i4.2.2 : Nat) : Int) t.args.length)) (.o [.cast 48 (refC (Term.unroll (t.args.getD i4.2.2 default)))])) fun _ =>
 .r 15 (.depr ((term_machine_run_kr rv rp rf m (t.args.getD i4.2.2 default)).c) fun x5 => .andl (.p (ixP ((i4.2.2 : Nat) : Int) i4.1.length)) (.andl (.andl (.o [.nrm (setC CellX.E i4.1 i4.2.2 x5.1)]) (.p (i4.2.2 < i4.1.length))) (.andl (.p (ixP ((i4.2.2 : Nat) : Int) i4.2.1.length)) (.andl (.o [.nrm (setC (slE intE) i4.2.1 i4.2.2 x5.2)]) (.p (i4.2.2 < i4.2.1.length)))))) fun x5 =>
 .wn 100004 i4.1.length (i4.1.set i4.2.2 x5.1).length <|
 .wn 100005 i4.2.1.length (i4.2.1.set i4.2.2 x5.2).length <|
 .r 16 .z fun _ =>
 .wi 45 (w64 (((i4.2.2 : Nat) : Int) + 1)) ((i4.2.2 + 1 : Nat) : Int) <|
 .fin (.inr (i4.1.set i4.2.2 x5.1, i4.2.1.set i4.2.2 x5.2, i4.2.2 + 1)))
 (.fin (.inl (.inr (i4.1, i4.2.1)))))
 (fun (b3 : (List CellX) × (List (List Int))) => ⟨[(7, ow 100002 b3.1), (8, ow 100003 b3.2)], [(100002, rowB 94 2 CellX.cells b3.1), (100003, rowB 95 1 (slE intE).cells b3.2)]⟩) fun b3 =>
 .r 17 (.andl (.wh (t.op == 6) true (.p (ixP (0 : Int) b3.1.length))) (.wh (t.op == 6) true (.p (0 < b3.1.length)))) fun _ =>
 .br ((t.op == 6) && ((b3.1.getD 0 default).known))
 (.r 18 (.andl (.p (ixP (0 : Int) b3.1.length)) (.p (0 < b3.1.length))) fun _ =>
 .r 19 (.andl (.p (ixP (w64 ((2 : Int) - ((b3.1.getD 0 default).n))) b3.1.length)) (.andl (.p ((w64 ((2 : Int) - ((b3.1.getD 0 default).n))).toNat < b3.1.length)) (.andl (.p (ixP (w64 ((2 : Int) - ((b3.1.getD 0 default).n))) b3.2.length)) (.p ((w64 ((2 : Int) - ((b3.1.getD 0 default).n))).toNat < b3.2.length))))) fun _ =>
 .fin (b3.1.getD ((w64 ((2 : Int) - ((b3.1.getD 0 default).n))).toNat) default, b3.2.getD ((w64 ((2 : Int) - ((b3.1.getD 0 default).n))).toNat) default))
 (.r 20 ((term_combine_k t.op b3.1).c) fun x6 =>
 .br x6.known
 (.fin (x6, []))
 (.fz 100003 <|
 .r 23 ((slices_Concat_k b3.2).c) fun x7 =>
 .fin (({ known := false, n := 0 } : CellX), x7)))))
noncomputable def term_machine_run_n : Nat → Machine → Term → CellX × (List Int)
  | 0, _, _ => default
  | fu + 1, m, t => (term_machine_run_sk (term_machine_run_n fu) (fun _ _ => False) (fun _ _ => fun h => h.elim) m t).val
theorem run_int (fu : Nat) (m : Machine) (n : Int) : term_machine_run_n (fu + 1) m ⟨0, n, []⟩ = (⟨true, n⟩, []) := by kernel_rfl
theorem run_bool (fu : Nat) (m : Machine) (n : Int) : term_machine_run_n (fu + 1) m ⟨1, n, []⟩ = (⟨true, n⟩, []) := by kernel_rfl
theorem run_var (fu : Nat) (m : Machine) (n : Int) : term_machine_run_n (fu + 1) m ⟨2, n, []⟩ = bif (term_machine_value m n).known then (term_machine_value m n, []) else (⟨false, 0⟩, [n]) := by kernel_rfl
/-- what comes of a node whose value is looked up in its parts' values -/
noncomputable def comb1 (op : Int) (cs : List CellX) (ns : List (List Int)) : CellX × List Int := bif (term_combine op cs).known then (term_combine op cs, []) else (⟨false, 0⟩, slices_Concat ns)
theorem run_not (fu : Nat) (m : Machine) (n : Int) (a : Term) : term_machine_run_n (fu + 1) m ⟨3, n, [a]⟩ = comb1 3 [(term_machine_run_n fu m a).1] [(term_machine_run_n fu m a).2] := by kernel_rfl
theorem run_ite (fu : Nat) (m : Machine) (n : Int) (a b c : Term) : term_machine_run_n (fu + 1) m ⟨6, n, [a, b, c]⟩ = 
  (let x := (term_machine_run_n fu m a); let y := (term_machine_run_n fu m b); let z := (term_machine_run_n fu m c);
   bif x.1.known then ([x.1, y.1, z.1].getD (w64 (2 - x.1.n)).toNat default, [x.2, y.2, z.2].getD (w64 (2 - x.1.n)).toNat default) else comb1 6 [x.1, y.1, z.1] [x.2, y.2, z.2]) := by kernel_rfl
theorem run_two4 (fu : Nat) (m : Machine) (n : Int) (a b : Term) : term_machine_run_n (fu + 1) m ⟨4, n, [a, b]⟩ = comb1 4 [(term_machine_run_n fu m a).1, (term_machine_run_n fu m b).1] [(term_machine_run_n fu m a).2, (term_machine_run_n fu m b).2] := by kernel_rfl
theorem run_two5 (fu : Nat) (m : Machine) (n : Int) (a b : Term) : term_machine_run_n (fu + 1) m ⟨5, n, [a, b]⟩ = comb1 5 [(term_machine_run_n fu m a).1, (term_machine_run_n fu m b).1] [(term_machine_run_n fu m a).2, (term_machine_run_n fu m b).2] := by kernel_rfl
theorem run_two7 (fu : Nat) (m : Machine) (n : Int) (a b : Term) : term_machine_run_n (fu + 1) m ⟨7, n, [a, b]⟩ = comb1 7 [(term_machine_run_n fu m a).1, (term_machine_run_n fu m b).1] [(term_machine_run_n fu m a).2, (term_machine_run_n fu m b).2] := by kernel_rfl
theorem run_two8 (fu : Nat) (m : Machine) (n : Int) (a b : Term) : term_machine_run_n (fu + 1) m ⟨8, n, [a, b]⟩ = comb1 8 [(term_machine_run_n fu m a).1, (term_machine_run_n fu m b).1] [(term_machine_run_n fu m a).2, (term_machine_run_n fu m b).2] := by kernel_rfl
theorem run_two9 (fu : Nat) (m : Machine) (n : Int) (a b : Term) : term_machine_run_n (fu + 1) m ⟨9, n, [a, b]⟩ = comb1 9 [(term_machine_run_n fu m a).1, (term_machine_run_n fu m b).1] [(term_machine_run_n fu m a).2, (term_machine_run_n fu m b).2] := by kernel_rfl
theorem run_two10 (fu : Nat) (m : Machine) (n : Int) (a b : Term) : term_machine_run_n (fu + 1) m ⟨10, n, [a, b]⟩ = comb1 10 [(term_machine_run_n fu m a).1, (term_machine_run_n fu m b).1] [(term_machine_run_n fu m a).2, (term_machine_run_n fu m b).2] := by kernel_rfl
theorem run_two11 (fu : Nat) (m : Machine) (n : Int) (a b : Term) : term_machine_run_n (fu + 1) m ⟨11, n, [a, b]⟩ = comb1 11 [(term_machine_run_n fu m a).1, (term_machine_run_n fu m b).1] [(term_machine_run_n fu m a).2, (term_machine_run_n fu m b).2] := by kernel_rfl
theorem run_two12 (fu : Nat) (m : Machine) (n : Int) (a b : Term) : term_machine_run_n (fu + 1) m ⟨12, n, [a, b]⟩ = comb1 12 [(term_machine_run_n fu m a).1, (term_machine_run_n fu m b).1] [(term_machine_run_n fu m a).2, (term_machine_run_n fu m b).2] := by kernel_rfl
theorem run_two13 (fu : Nat) (m : Machine) (n : Int) (a b : Term) : term_machine_run_n (fu + 1) m ⟨13, n, [a, b]⟩ = comb1 13 [(term_machine_run_n fu m a).1, (term_machine_run_n fu m b).1] [(term_machine_run_n fu m a).2, (term_machine_run_n fu m b).2] := by kernel_rfl
theorem run_two (fu : Nat) (m : Machine) (op n : Int) (h : op = 4 ∨ op = 5 ∨ op = 7 ∨ op = 8 ∨ (9 ≤ op ∧ op ≤ 13)) (a b : Term) : term_machine_run_n (fu + 1) m ⟨op, n, [a, b]⟩ = comb1 op [(term_machine_run_n fu m a).1, (term_machine_run_n fu m b).1] [(term_machine_run_n fu m a).2, (term_machine_run_n fu m b).2] := by
  have : op = 4 ∨ op = 5 ∨ op = 7 ∨ op = 8 ∨ op = 9 ∨ op = 10 ∨ op = 11 ∨ op = 12 ∨ op = 13 := by omega
  rcases this with rfl | rfl | rfl | rfl | rfl | rfl | rfl | rfl | rfl
  · exact run_two4 fu m n a b
  · exact run_two5 fu m n a b
  · exact run_two7 fu m n a b
  · exact run_two8 fu m n a b
  · exact run_two9 fu m n a b
  · exact run_two10 fu m n a b
  · exact run_two11 fu m n a b
  · exact run_two12 fu m n a b
  · exact run_two13 fu m n a b
/-- known values of bools -/
def b01 (c : CellX) : Prop := c.known = true → c.n = 0 ∨ c.n = 1
theorem yes_eq (b : Bool) : term_yes b = ⟨true, if b then 1 else 0⟩ := by cases b <;> kernel_rfl
theorem yes01 (b : Bool) : b01 (term_yes b) := by rw [yes_eq]; intro _; cases b <;> simp
theorem comb_not (a : CellX) : term_combine 3 [a] = bif a.known then term_yes (a.n == 0) else ⟨false, 0⟩ := by
  obtain ⟨k, n⟩ := a
  cases k <;> kernel_rfl
/-- a variable's value, out of its cell -/
noncomputable def valC (c : CellX) (n : Int) : CellX := bif c.known then (bif decide (n < 7) then ⟨true, term_cut c.n⟩ else ⟨true, bif c.n != 0 then 1 else 0⟩) else ⟨false, 0⟩
theorem value_eq (m : Machine) (n : Int) (h : 0 ≤ n ∧ n ≤ 19) : term_machine_value m n = valC (m.cells_.getD n.toNat default) n := by
  simp only [term_machine_value, term_machine_value_sk, Sk.val_r, Sk.val_br, Sk.val_fin, Ctr.c_v, Cal.andl_v, term_VarType_k, term_yes_k, term_VarType, term_VarType_sk, term_cut_k, valC, yes_eq]
  rw [show (decide (n < 0) || decide (n > 19)) = false from by simp; omega]
  by_cases hl : n ≥ m.cells_.length
  · have e : m.cells_.getD n.toNat default = ⟨false, 0⟩ := by
      rw [List.getD, List.getElem?_eq_none (by omega)]
      rfl
    rw [e, decide_eq_true hl]
    rfl
  · rw [decide_eq_false hl]
    cases hk : (m.cells_.getD n.toNat default).known with
    | false => rfl
    | true =>
      by_cases c : n < 7
      · rw [decide_eq_true c]; rfl
      · rw [decide_eq_false c]
        cases hn : ((m.cells_.getD n.toNat default).n != 0) <;> rfl
theorem valC01 (c : CellX) (n : Int) (h : 7 ≤ n) : b01 (valC c n) := by
  unfold valC
  rw [decide_eq_false (by omega)]
  intro hk
  cases hc : c.known with
  | false => rw [hc] at hk; exact absurd (show false = true from hk) (by decide)
  | true =>
    cases hn : (c.n != 0)
    · left; rfl
    · right; rfl
theorem comb_bool (op : Int) (h : op = 4 ∨ op = 5) (a b : CellX) : term_combine op [a, b] = (let z : Int := if op = 5 then 1 else 0; bif (a.known && a.n == z) || (b.known && b.n == z) then ⟨true, z⟩ else bif a.known && b.known then ⟨true, 1 - z⟩ else ⟨false, 0⟩) := by
  obtain ⟨k, n⟩ := a
  obtain ⟨k', n'⟩ := b
  rcases h with rfl | rfl
  · cases k <;> cases k' <;> cases h1 : (n == 0) <;> cases h2 : (n' == 0) <;> simp [term_combine, term_combine_sk, term_yes_k, yes_eq, h1, h2]
  · cases k <;> cases k' <;> cases h1 : (n == 1) <;> cases h2 : (n' == 1) <;> simp [term_combine, term_combine_sk, term_yes_k, yes_eq, h1, h2]
theorem comb_if (a b c : CellX) : term_combine 6 [a, b, c] = bif b.known && (c.known && b.n == c.n) then b else ⟨false, 0⟩ := by
  obtain ⟨k, n⟩ := b
  obtain ⟨k', n'⟩ := c
  cases k <;> cases k' <;> cases h1 : (n == n') <;> simp [term_combine, term_combine_sk, h1]
theorem comb_other (op : Int) (h : 7 ≤ op) (a b : CellX) : term_combine op [a, b] = bif a.known && b.known then (if op = 7 then term_yes (decide (a.n < b.n)) else if op = 8 then term_yes (a.n == b.n) else ⟨true, term_arithmetic op a.n b.n⟩) else ⟨false, 0⟩ := by
  obtain ⟨k, n⟩ := a
  obtain ⟨k', n'⟩ := b
  have e3 : (op == 3) = false := by simp; omega
  have e4 : (op == 4) = false := by simp; omega
  have e5 : (op == 5) = false := by simp; omega
  have e6 : (op == 6) = false := by simp; omega
  simp only [term_combine, term_combine_sk, Sk.val_bind, Sk.val_br, Sk.val_r, Sk.val_fin, e3, e4, e5, e6, cond_false, pickS_inl, pickS_inr, Ctr.c_v, term_yes_k, term_arithmetic_k]
  cases k <;> cases k' <;> (try rfl)
  by_cases c7 : op = 7
  · subst c7; rfl
  · have e7 : (op == 7) = false := by simpa using c7
    by_cases c8 : op = 8
    · subst c8; rfl
    · have e8 : (op == 8) = false := by simpa using c8
      simp [e7, e8, c7, c8]

theorem comb1_b01 (op : Int) (cs : List CellX) (ns : List (List Int)) (h : b01 (term_combine op cs)) : b01 (comb1 op cs ns).1 := by
  unfold comb1
  cases hk : (term_combine op cs).known with
  | true => exact h
  | false => intro h; exact absurd (show false = true from h) (by decide)
theorem comb1_len (op : Int) (cs : List CellX) (ns : List (List Int)) (B : Nat) (hB : B ≤ 1000000) (hl : ns.length ≤ 3) (h : ∀ q, q < ns.length → (ns.getD q default).length ≤ B) : (comb1 op cs ns).2.length ≤ 3 * B := by
  unfold comb1
  cases hk : (term_combine op cs).known with
  | true => simp
  | false =>
    simp only [cond_false]
    rw [slices_Concat_post ns ⟨by omega, fun q hq => Nat.le_trans (h q hq) hB⟩]
    have := flat_le ns B h ns.length (Nat.le_refl _)
    rw [List.take_length] at this
    have : B * ns.length ≤ B * 3 := Nat.mul_le_mul_left _ hl
    omega
theorem b01_yes {c : CellX} {b : Bool} (h : c = term_yes b) : b01 c := h ▸ yes01 b
theorem depth1 (op n : Int) (a : Term) : Term.depth ⟨op, n, [a]⟩ = a.depth + 1 := by simp [Term.depth, Term.depthL]
theorem depth2 (op n : Int) (a b : Term) : Term.depth ⟨op, n, [a, b]⟩ = max a.depth b.depth + 1 := by simp [Term.depth, Term.depthL]
theorem depth3 (op n : Int) (a b c : Term) : Term.depth ⟨op, n, [a, b, c]⟩ = max a.depth (max b.depth c.depth) + 1 := by simp [Term.depth, Term.depthL]
theorem pow3_le {a b : Nat} (h : a ≤ b) : 3 ^ a ≤ 3 ^ b := Nat.pow_le_pow_right (by omega) h
theorem run_typed {t : Term} {k : Int} (h : TyT t k) : ∀ (fu : Nat) (m : Machine), t.depth ≤ fu → t.depth ≤ 8 → (k = 1 → b01 (term_machine_run_n fu m t).1) ∧ (term_machine_run_n fu m t).2.length ≤ 3 ^ t.depth := by
  have h8 : ∀ d, d ≤ 8 → 3 ^ d ≤ 1000000 := fun d hd => Nat.le_trans (pow3_le hd) (by decide)
  induction h with
  | int hn =>
    intro fu m hd _
    cases fu with
    | zero => exact absurd hd (by simp [Term.depth, Term.depthL])
    | succ fu => rw [run_int]; exact ⟨fun h => absurd h (by decide), by simp⟩
  | @bool n hn =>
    intro fu m hd _
    cases fu with
    | zero => exact absurd hd (by simp [Term.depth, Term.depthL])
    | succ fu => rw [run_bool]; exact ⟨fun _ _ => by show n = 0 ∨ n = 1; omega, by simp⟩
  | @var n hn =>
    intro fu m hd _
    cases fu with
    | zero => exact absurd hd (by simp [Term.depth, Term.depthL])
    | succ fu =>
      rw [run_var, value_eq m n hn]
      refine ⟨fun h => ?_, ?_⟩
      · have := valC01 (m.cells_.getD n.toNat default) n (by split at h <;> omega)
        cases hk : (valC (m.cells_.getD n.toNat default) n).known with
        | true => exact this
        | false => intro h; exact absurd (show false = true from h) (by decide)
      · cases hk : (valC (m.cells_.getD n.toNat default) n).known <;> simp [Term.depth, Term.depthL]
  | @not a _ ih =>
    intro fu m hd h8d
    cases fu with
    | zero => exact absurd hd (by simp [Term.depth, Term.depthL])
    | succ fu =>
      rw [depth1] at hd h8d ⊢
      have ih := ih fu m (by omega) (by omega)
      rw [run_not]
      refine ⟨fun _ => comb1_b01 _ _ _ ?_, ?_⟩
      · rw [comb_not]
        cases hk : (term_machine_run_n fu m a).1.known with
        | true => exact yes01 _
        | false => intro h; exact absurd (show false = true from h) (by decide)
      · have := comb1_len 3 [(term_machine_run_n fu m a).1] [(term_machine_run_n fu m a).2] (3 ^ a.depth) (h8 _ (by omega)) (by simp) (fun q hq => by
          have : q = 0 := by simpa using hq
          subst this
          exact ih.2)
        rw [Nat.pow_succ]; omega
  | @conj op a b hop _ _ iha ihb =>
    intro fu m hd h8d
    cases fu with
    | zero => exact absurd hd (by simp [Term.depth, Term.depthL])
    | succ fu =>
      rw [depth2] at hd h8d ⊢
      have iha := iha fu m (by omega) (by omega)
      have ihb := ihb fu m (by omega) (by omega)
      rw [run_two _ _ _ _ (by omega)]
      refine ⟨fun _ => comb1_b01 _ _ _ ?_, ?_⟩
      · rw [comb_bool op hop]
        dsimp only
        split
        · cases (((term_machine_run_n fu m a).1.known && (term_machine_run_n fu m a).1.n == 1) || ((term_machine_run_n fu m b).1.known && (term_machine_run_n fu m b).1.n == 1)) <;> cases ((term_machine_run_n fu m a).1.known && (term_machine_run_n fu m b).1.known) <;> simp [b01]
        · cases (((term_machine_run_n fu m a).1.known && (term_machine_run_n fu m a).1.n == 0) || ((term_machine_run_n fu m b).1.known && (term_machine_run_n fu m b).1.n == 0)) <;> cases ((term_machine_run_n fu m a).1.known && (term_machine_run_n fu m b).1.known) <;> simp [b01]
      · have := comb1_len op [(term_machine_run_n fu m a).1, (term_machine_run_n fu m b).1] [(term_machine_run_n fu m a).2, (term_machine_run_n fu m b).2] (3 ^ (max a.depth b.depth)) (h8 _ (by omega)) (by simp) (fun q hq => by
          have : q = 0 ∨ q = 1 := by simp at hq; omega
          rcases this with rfl | rfl
          · exact Nat.le_trans iha.2 (pow3_le (by omega))
          · exact Nat.le_trans ihb.2 (pow3_le (by omega)))
        rw [Nat.pow_succ]; omega
  | @ite a b c k ha _ _ iha ihb ihc =>
    intro fu m hd h8d
    cases fu with
    | zero => exact absurd hd (by simp [Term.depth, Term.depthL])
    | succ fu =>
      rw [depth3] at hd h8d ⊢
      have iha := iha fu m (by omega) (by omega)
      have ihb := ihb fu m (by omega) (by omega)
      have ihc := ihc fu m (by omega) (by omega)
      rw [run_ite]
      dsimp only
      have lb := Nat.le_trans ihb.2 (pow3_le (b := max a.depth (max b.depth c.depth) + 1) (by omega))
      have lc := Nat.le_trans ihc.2 (pow3_le (b := max a.depth (max b.depth c.depth) + 1) (by omega))
      cases hk : (term_machine_run_n fu m a).1.known with
      | true =>
        simp only [cond_true]
        rcases iha.1 rfl hk with e | e
        · rw [e]
          exact ⟨ihc.1, lc⟩
        · rw [e]
          exact ⟨ihb.1, lb⟩
      | false =>
        simp only [cond_false]
        refine ⟨fun h => comb1_b01 _ _ _ ?_, ?_⟩
        · rw [comb_if]
          cases ((term_machine_run_n fu m b).1.known && ((term_machine_run_n fu m c).1.known && (term_machine_run_n fu m b).1.n == (term_machine_run_n fu m c).1.n)) with
          | true => exact ihb.1 h
          | false => intro h; exact absurd (show false = true from h) (by decide)
        · have := comb1_len 6 [(term_machine_run_n fu m a).1, (term_machine_run_n fu m b).1, (term_machine_run_n fu m c).1] [(term_machine_run_n fu m a).2, (term_machine_run_n fu m b).2, (term_machine_run_n fu m c).2] (3 ^ (max a.depth (max b.depth c.depth))) (h8 _ (by omega)) (by simp) (fun q hq => by
            have : q = 0 ∨ q = 1 ∨ q = 2 := by simp at hq; omega
            rcases this with rfl | rfl | rfl
            · exact Nat.le_trans iha.2 (pow3_le (by omega))
            · exact Nat.le_trans ihb.2 (pow3_le (by omega))
            · exact Nat.le_trans ihc.2 (pow3_le (by omega)))
          rw [Nat.pow_succ]; omega
  | @less a b _ _ iha ihb =>
    intro fu m hd h8d
    cases fu with
    | zero => exact absurd hd (by simp [Term.depth, Term.depthL])
    | succ fu =>
      rw [depth2] at hd h8d ⊢
      have iha := iha fu m (by omega) (by omega)
      have ihb := ihb fu m (by omega) (by omega)
      rw [run_two _ _ _ _ (by omega)]
      refine ⟨fun _ => comb1_b01 _ _ _ ?_, ?_⟩
      · rw [comb_other 7 (by omega)]
        cases ((term_machine_run_n fu m a).1.known && (term_machine_run_n fu m b).1.known) with
        | true => exact yes01 _
        | false => intro h; exact absurd (show false = true from h) (by decide)
      · have := comb1_len 7 [(term_machine_run_n fu m a).1, (term_machine_run_n fu m b).1] [(term_machine_run_n fu m a).2, (term_machine_run_n fu m b).2] (3 ^ (max a.depth b.depth)) (h8 _ (by omega)) (by simp) (fun q hq => by
          have : q = 0 ∨ q = 1 := by simp at hq; omega
          rcases this with rfl | rfl
          · exact Nat.le_trans iha.2 (pow3_le (by omega))
          · exact Nat.le_trans ihb.2 (pow3_le (by omega)))
        rw [Nat.pow_succ]; omega
  | @eq a b _ _ _ iha ihb =>
    intro fu m hd h8d
    cases fu with
    | zero => exact absurd hd (by simp [Term.depth, Term.depthL])
    | succ fu =>
      rw [depth2] at hd h8d ⊢
      have iha := iha fu m (by omega) (by omega)
      have ihb := ihb fu m (by omega) (by omega)
      rw [run_two _ _ _ _ (by omega)]
      refine ⟨fun _ => comb1_b01 _ _ _ ?_, ?_⟩
      · rw [comb_other 8 (by omega)]
        cases ((term_machine_run_n fu m a).1.known && (term_machine_run_n fu m b).1.known) with
        | true => exact yes01 _
        | false => intro h; exact absurd (show false = true from h) (by decide)
      · have := comb1_len 8 [(term_machine_run_n fu m a).1, (term_machine_run_n fu m b).1] [(term_machine_run_n fu m a).2, (term_machine_run_n fu m b).2] (3 ^ (max a.depth b.depth)) (h8 _ (by omega)) (by simp) (fun q hq => by
          have : q = 0 ∨ q = 1 := by simp at hq; omega
          rcases this with rfl | rfl
          · exact Nat.le_trans iha.2 (pow3_le (by omega))
          · exact Nat.le_trans ihb.2 (pow3_le (by omega)))
        rw [Nat.pow_succ]; omega
  | @arith op a b hop _ _ iha ihb =>
    intro fu m hd h8d
    cases fu with
    | zero => exact absurd hd (by simp [Term.depth, Term.depthL])
    | succ fu =>
      rw [depth2] at hd h8d ⊢
      have iha := iha fu m (by omega) (by omega)
      have ihb := ihb fu m (by omega) (by omega)
      rw [run_two _ _ _ _ (by omega)]
      refine ⟨fun h => absurd h (by decide), ?_⟩
      have := comb1_len op [(term_machine_run_n fu m a).1, (term_machine_run_n fu m b).1] [(term_machine_run_n fu m a).2, (term_machine_run_n fu m b).2] (3 ^ (max a.depth b.depth)) (h8 _ (by omega)) (by simp) (fun q hq => by
        have : q = 0 ∨ q = 1 := by simp at hq; omega
        rcases this with rfl | rfl
        · exact Nat.le_trans iha.2 (pow3_le (by omega))
        · exact Nat.le_trans ihb.2 (pow3_le (by omega)))
      rw [Nat.pow_succ]; omega

theorem TyT.parts {t : Term} {k : Int} (h : TyT t k) : (t.op = 0 ∨ t.op = 1 ∨ (t.op = 2 ∧ 0 ≤ t.n)) ∨ ((∀ q, q < t.args.length → ∃ j, TyT (t.args.getD q default) j) ∧ ((t.op = 3 ∧ t.args.length = 1) ∨ (t.op = 6 ∧ t.args.length = 3 ∧ TyT (t.args.getD 0 default) 1) ∨ (t.op ≠ 0 ∧ t.op ≠ 1 ∧ t.op ≠ 2 ∧ t.op ≠ 3 ∧ t.op ≠ 6 ∧ t.args.length = 2))) := by
  cases h with
  | int _ => left; left; rfl
  | bool _ => left; right; left; rfl
  | var h => left; right; right; exact ⟨rfl, h.1⟩
  | not h =>
    right
    refine ⟨fun q hq => ?_, .inl ⟨rfl, rfl⟩⟩
    obtain rfl : q = 0 := by simpa using hq
    exact ⟨_, h⟩
  | conj o h1 h2 =>
    right
    refine ⟨fun q hq => ?_, .inr (.inr ⟨by dsimp only; omega, by dsimp only; omega, by dsimp only; omega, by dsimp only; omega, by dsimp only; omega, rfl⟩)⟩
    have : q = 0 ∨ q = 1 := by simp at hq; omega
    rcases this with rfl | rfl
    · exact ⟨_, h1⟩
    · exact ⟨_, h2⟩
  | ite h1 h2 h3 =>
    right
    refine ⟨fun q hq => ?_, .inr (.inl ⟨rfl, rfl, h1⟩)⟩
    have : q = 0 ∨ q = 1 ∨ q = 2 := by simp at hq; omega
    rcases this with rfl | rfl | rfl
    · exact ⟨_, h1⟩
    · exact ⟨_, h2⟩
    · exact ⟨_, h3⟩
  | less h1 h2 =>
    right
    refine ⟨fun q hq => ?_, .inr (.inr ⟨by dsimp only; omega, by dsimp only; omega, by dsimp only; omega, by dsimp only; omega, by dsimp only; omega, rfl⟩)⟩
    have : q = 0 ∨ q = 1 := by simp at hq; omega
    rcases this with rfl | rfl
    · exact ⟨_, h1⟩
    · exact ⟨_, h2⟩
  | eq h1 h2 =>
    right
    refine ⟨fun q hq => ?_, .inr (.inr ⟨by dsimp only; omega, by dsimp only; omega, by dsimp only; omega, by dsimp only; omega, by dsimp only; omega, rfl⟩)⟩
    have : q = 0 ∨ q = 1 := by simp at hq; omega
    rcases this with rfl | rfl
    · exact ⟨_, h1⟩
    · exact ⟨_, h2⟩
  | arith o h1 h2 =>
    right
    refine ⟨fun q hq => ?_, .inr (.inr ⟨by dsimp only; omega, by dsimp only; omega, by dsimp only; omega, by dsimp only; omega, by dsimp only; omega, rfl⟩)⟩
    have : q = 0 ∨ q = 1 := by simp at hq; omega
    rcases this with rfl | rfl
    · exact ⟨_, h1⟩
    · exact ⟨_, h2⟩
theorem term_machine_run_ok (fu : Nat) (rf : ∀ (m : Machine) (t : Term), t.depth ≤ fu ∧ (t.Right) → FnA Tryz.prog 157 [av [slD CellX.cells m.cells_], av t.cells] [] (.tup [av ((term_machine_run_n fu m t).1).cells, lv intC ((term_machine_run_n fu m t).2)]) []) (m : Machine) (t : Term) (hm : t.depth ≤ fu + 1) (ht : t.Right) : (term_machine_run_sk (term_machine_run_n fu) (fun m t => t.depth ≤ fu ∧ (t.Right)) rf m t).obs (fun _ => True) := by
  refine Sk.obs_of _ ?_
  unfold term_machine_run_sk
  simp only [Sk.obq, Sk.isLoop, reduceCtorEq, leafB, leafJ, Cal.z, Cal.p, Cal.t, Cal.pt, Cal.o, Cal.and, Cal.andl, Cal.andr, Cal.wh, Cal.dep, Cal.depr, Ctr.c, Ctr.nil, Ctr.nilc, CtrO.c, CtrO.nil, slices_Concat_k, term_combine_k, term_machine_value_k, term_machine_run_kr, maxLen, implies_true, true_and, and_true, and_self, true_implies, false_implies, ixP, szP, mkP]
  obtain ⟨⟨k, hk⟩, h8⟩ := ht
  have hparts := hk.parts
  refine ⟨⟨fun _ => by simp_all, fun _ => by simp_all⟩, fun b _ hb hbf => ?_⟩
  rw [hb] at hbf
  simp only [decide_eq_true_eq, decide_eq_false_iff_not, List.length_append, List.length_cons, List.length_nil, List.length_set, List.length_replicate, Bool.not_eq_true, Bool.not_eq_false, Int.not_lt, Int.not_le, Bool.and_eq_true, Bool.or_eq_true, Bool.and_eq_false_iff, Bool.or_eq_false_iff, Bool.not_eq_eq_eq_not, Bool.not_true, Bool.not_false, beq_iff_eq, bne_iff_ne, beq_eq_false_iff_ne, bne_eq_false_iff_eq, ne_eq, subL_length] at hbf
  refine ⟨fun h2 => ?_, fun h2 => ?_⟩
  · simp only [decide_eq_true_eq, decide_eq_false_iff_not, List.length_append, List.length_cons, List.length_nil, List.length_set, List.length_replicate, Bool.not_eq_true, Bool.not_eq_false, Int.not_lt, Int.not_le, Bool.and_eq_true, Bool.or_eq_true, Bool.and_eq_false_iff, Bool.or_eq_false_iff, Bool.not_eq_eq_eq_not, Bool.not_true, Bool.not_false, beq_iff_eq, bne_iff_ne, beq_eq_false_iff_ne, bne_eq_false_iff_eq, ne_eq, subL_length] at h2
    rcases hparts with h | h
    · omega
    · omega
  · simp only [decide_eq_true_eq, decide_eq_false_iff_not, List.length_append, List.length_cons, List.length_nil, List.length_set, List.length_replicate, Bool.not_eq_true, Bool.not_eq_false, Int.not_lt, Int.not_le, Bool.and_eq_true, Bool.or_eq_true, Bool.and_eq_false_iff, Bool.or_eq_false_iff, Bool.not_eq_eq_eq_not, Bool.not_true, Bool.not_false, beq_iff_eq, bne_iff_ne, beq_eq_false_iff_ne, bne_eq_false_iff_eq, ne_eq, subL_length] at h2
    have hp : (∀ q, q < t.args.length → ∃ j, TyT (t.args.getD q default) j) ∧ ((t.op = 3 ∧ t.args.length = 1) ∨ (t.op = 6 ∧ t.args.length = 3 ∧ TyT (t.args.getD 0 default) 1) ∨ (t.op ≠ 0 ∧ t.op ≠ 1 ∧ t.op ≠ 2 ∧ t.op ≠ 3 ∧ t.op ≠ 6 ∧ t.args.length = 2)) := by
      rcases hparts with h | h
      · omega
      · exact h
    obtain ⟨hp1, hp2⟩ := hp
    have hlen : t.args.length ≤ 3 := by omega
    have hdep : ∀ q, q < t.args.length → (t.args.getD q default).depth ≤ fu ∧ (t.args.getD q default).depth ≤ 8 := fun q hq => by have := t.depth_args q hq; omega
    refine ⟨⟨by omega, by omega, by omega⟩, fun _ => ⟨⟨by omega, by omega, by omega⟩, fun _ => ⟨⟨⟨by simp, by simp, by omega, fun q hq => absurd hq (by omega)⟩, fun i hi hl => ⟨fun hc => ⟨⟨by omega, of_decide_eq_true hc⟩, fun _ => ⟨⟨⟨?_, ?_⟩, fun x hx => ⟨⟨by omega, ?_⟩, ?_, ⟨by omega, ?_⟩, ?_⟩⟩, fun x hx => ⟨by simp, by simp, fun _ => ⟨?_, ⟨⟨by simp [hi.1], by simp [hi.2.1], ?_, fun q hq => ?_⟩, ?_⟩⟩⟩⟩⟩, fun hc => ⟨hi.1, hi.2.1, fun q hq => hi.2.2.2 q (by simp only [decide_eq_true_eq, decide_eq_false_iff_not, List.length_append, List.length_cons, List.length_nil, List.length_set, List.length_replicate, Bool.not_eq_true, Bool.not_eq_false, Int.not_lt, Int.not_le, Bool.and_eq_true, Bool.or_eq_true, Bool.and_eq_false_iff, Bool.or_eq_false_iff, Bool.not_eq_eq_eq_not, Bool.not_true, Bool.not_false, beq_iff_eq, bne_iff_ne, beq_eq_false_iff_ne, bne_eq_false_iff_eq, ne_eq, subL_length] at hc; omega)⟩⟩⟩, fun b hb => ?_⟩⟩⟩
    all_goals (try simp only [decide_eq_true_eq, decide_eq_false_iff_not, List.length_append, List.length_cons, List.length_nil, List.length_set, List.length_replicate, Bool.not_eq_true, Bool.not_eq_false, Int.not_lt, Int.not_le, Bool.and_eq_true, Bool.or_eq_true, Bool.and_eq_false_iff, Bool.or_eq_false_iff, Bool.not_eq_eq_eq_not, Bool.not_true, Bool.not_false, beq_iff_eq, bne_iff_ne, beq_eq_false_iff_ne, bne_eq_false_iff_eq, ne_eq, subL_length] at hc)
    · exact (hdep _ (by omega)).1
    · exact ⟨hp1 _ (by omega), (hdep _ (by omega)).2⟩
    · omega
    · omega
    · omega
    · omega
    · exact w64_id (by omega) (by omega)
    · omega
    · by_cases e : q = i.2.2
      · subst e
        subst hx
        exact ⟨lget_set_eq _ (by omega) _ _, lget_set_eq _ (by omega) _ _⟩
      · have := hi.2.2.2 q (by omega)
        rw [← this.1, ← this.2]
        exact ⟨lget_set_ne _ e _ _, lget_set_ne _ e _ _⟩
    · omega
    · refine ⟨⟨fun _ => ⟨by omega, by omega⟩, fun _ => by omega⟩, fun _ => ⟨fun h6 => ?_, fun _ => ⟨?_, fun x _ _ => ⟨?_, ?_⟩⟩⟩⟩
      · simp only [decide_eq_true_eq, decide_eq_false_iff_not, List.length_append, List.length_cons, List.length_nil, List.length_set, List.length_replicate, Bool.not_eq_true, Bool.not_eq_false, Int.not_lt, Int.not_le, Bool.and_eq_true, Bool.or_eq_true, Bool.and_eq_false_iff, Bool.or_eq_false_iff, Bool.not_eq_eq_eq_not, Bool.not_true, Bool.not_false, beq_iff_eq, bne_iff_ne, beq_eq_false_iff_ne, bne_eq_false_iff_eq, ne_eq, subL_length] at h6
        have h01 : b01 (b.1.getD 0 default) := by
          rw [(hb.2.2 0 (by omega)).1]
          rcases hp2 with h | h | h
          · omega
          · exact (run_typed h.2.2 fu m (hdep 0 (by omega)).1 (hdep 0 (by omega)).2).1 rfl
          · omega
        have h01 := h01 h6.2
        have hw : w64 (2 - (b.1.getD 0 default).n) = 2 - (b.1.getD 0 default).n := w64_id (by omega) (by omega)
        rw [hw]
        refine ⟨⟨by omega, by omega⟩, fun _ => ⟨⟨by omega, by omega⟩, by omega, ⟨by omega, by omega⟩, by omega⟩⟩
      · omega
      · omega
      · intro q hq
        rw [hb.2.1] at hq
        rw [(hb.2.2 q hq).2]
        obtain ⟨j, hj⟩ := hp1 q hq
        have := (run_typed hj fu m (hdep q hq).1 (hdep q hq).2).2
        have h3 : (3 : Nat) ^ (t.args.getD q default).depth ≤ 3 ^ 8 := Nat.pow_le_pow_right (by omega) (hdep q hq).2
        have : (3 : Nat) ^ 8 = 6561 := by decide
        omega

theorem term_machine_run_val (fu : Nat) (rp : Machine → Term → Prop) (rf : ∀ (m : Machine) (t : Term), rp m t → FnA Tryz.prog 157 [av [slD CellX.cells m.cells_], av t.cells] [] (.tup [av ((term_machine_run_n fu m t).1).cells, lv intC ((term_machine_run_n fu m t).2)]) []) (m : Machine) (t : Term) : (term_machine_run_sk (term_machine_run_n fu) rp rf m t).val = term_machine_run_n (fu + 1) m t := by kernel_rfl
theorem term_machine_run_fnN (fu : Nat) : ∀ (m : Machine) (t : Term), t.depth ≤ fu → t.Right → FnA Tryz.prog 157 [av [slD CellX.cells m.cells_], av t.cells] [] (.tup [av ((term_machine_run_n fu m t).1).cells, lv intC ((term_machine_run_n fu m t).2)]) [] := by
  induction fu with
  | zero => intro m t hm h0; exact absurd hm (by have := Term.depth_pos t; omega)
  | succ fu ih =>
    intro m t hm h0
    have h : FnA Tryz.prog 157 [av [slD CellX.cells m.cells_], av t.cells] [] (.tup [av (((term_machine_run_sk (term_machine_run_n fu) (fun m t => t.depth ≤ fu ∧ (t.Right)) (fun m t h => ih m t h.1 h.2) m t).val).1).cells, lv intC (((term_machine_run_sk (term_machine_run_n fu) (fun m t => t.depth ≤ fu ∧ (t.Right)) (fun m t h => ih m t h.1 h.2) m t).val).2)]) [] := FnA.sk tok mixed (fun x => .tup [av x.1.cells, lv intC x.2]) (fun _ => []) Tryz.func157 rfl (by kernel_rfl) 3000 (term_machine_run_sk (term_machine_run_n fu) (fun m t => t.depth ≤ fu ∧ (t.Right)) (fun m t h => ih m t h.1 h.2) m t) (by kernel_rfl) (term_machine_run_ok fu _ m t hm h0)
    rw [term_machine_run_val] at h
    exact h
noncomputable def term_machine_run (m : Machine) (t : Term) : CellX × (List Int) := term_machine_run_n (t.depth) m t
theorem term_machine_run_fn (m : Machine) (t : Term) (ht : t.Right) : FnA Tryz.prog 157 [av [slD CellX.cells m.cells_], av t.cells] [] (.tup [av ((term_machine_run m t).1).cells, lv intC ((term_machine_run m t).2)]) [] := term_machine_run_fnN _ m t (Nat.le_refl _) ht
noncomputable def term_machine_run_k (m : Machine) (t : Term) : Ctr (CellX × (List Int)) := ⟨Tryz.prog, 157, [av [slD CellX.cells m.cells_], av t.cells], fun x => .tup [av x.1.cells, lv intC x.2], false, term_machine_run m t, (t.Right), fun h => term_machine_run_fn m t h, fun _ => True, trivial⟩
noncomputable def term_Eval_sk (t : Term) (cells : List CellX) : Sk (CellX) :=
 .r 1 ((term_Check_k t).c) fun x1 =>
 .br (x1.2 != 0)
 (.fin ({ known := false, n := 0 } : CellX))
 (.r 4 ((term_machine_run_k ({ cells_ := cells } : Machine) t).c) fun x2 =>
 .fin x2.1)
noncomputable def term_Eval (t : Term) (cells : List CellX) : CellX := (term_Eval_sk t cells).val
theorem term_Eval_ok (t : Term) (cells : List CellX) : (term_Eval_sk t cells).obs (fun _ => True) := by
  refine Sk.obs_of _ ?_
  unfold term_Eval_sk
  simp only [Sk.obq, Sk.isLoop, reduceCtorEq, leafB, leafJ, Cal.z, Cal.p, Cal.t, Cal.pt, Cal.o, Cal.and, Cal.andl, Cal.andr, Cal.wh, Cal.dep, Cal.depr, Ctr.c, Ctr.nil, Ctr.nilc, CtrO.c, CtrO.nil, term_Check_k, term_machine_run_k, maxLen, implies_true, true_and, and_true, and_self, true_implies, false_implies, ixP, szP, mkP]
  intro x _ h hc
  simp only [decide_eq_true_eq, decide_eq_false_iff_not, List.length_append, List.length_cons, List.length_nil, List.length_set, List.length_replicate, Bool.not_eq_true, Bool.not_eq_false, Int.not_lt, Int.not_le, Bool.and_eq_true, Bool.or_eq_true, Bool.and_eq_false_iff, Bool.or_eq_false_iff, Bool.not_eq_eq_eq_not, Bool.not_true, Bool.not_false, beq_iff_eq, bne_iff_ne, beq_eq_false_iff_ne, bne_eq_false_iff_eq, ne_eq, subL_length] at hc
  exact ⟨⟨_, (h hc).1⟩, (h hc).2⟩

theorem term_Eval_fn (t : Term) (cells : List CellX) : FnA Tryz.prog 116 [av t.cells, lv CellX.cells cells] [] (av (term_Eval t cells).cells) [] :=
  FnA.sk tok mixed (fun x => av x.cells) (fun _ => []) Tryz.func116 rfl (by kernel_rfl) 3000 (term_Eval_sk t cells) (by kernel_rfl) (term_Eval_ok t cells)
noncomputable def term_Eval_k (t : Term) (cells : List CellX) : Ctr (CellX) := ⟨Tryz.prog, 116, [av t.cells, lv CellX.cells cells], fun x => av x.cells, true, term_Eval t cells, True, fun _ => term_Eval_fn t cells, fun _ => True, trivial⟩
noncomputable def order_Answer_sk (o : Order) (ask : Int) (cells : List CellX) : Sk (CellX × Int) :=
 .r 1 ((order_find_k o ask).c) fun x1 =>
 .br (x1.2 != 0)
 (.fin (({ known := false, n := 0 } : CellX), x1.2))
 (.r 4 ((term_Eval_k x1.1 cells).c) fun x2 =>
 .r 5 ((order_Type_k ask).c) fun x3 =>
 .br ((x3.1 == 0) && x2.known)
 (.fin (({ known := x2.known, n := minI (maxI x2.n 0) 20000 } : CellX), 0))
 (.fin (x2, 0)))
noncomputable def order_Answer (o : Order) (ask : Int) (cells : List CellX) : CellX × Int := (order_Answer_sk o ask cells).val
theorem order_Answer_ok (o : Order) (ask : Int) (cells : List CellX) : (order_Answer_sk o ask cells).obs (fun _ => True) := by
  refine Sk.obs_of _ ?_
  unfold order_Answer_sk
  simp only [Sk.obq, Sk.isLoop, reduceCtorEq, leafB, leafJ, Cal.z, Cal.p, Cal.t, Cal.pt, Cal.o, Cal.and, Cal.andl, Cal.andr, Cal.wh, Cal.dep, Cal.depr, Ctr.c, Ctr.nil, Ctr.nilc, CtrO.c, CtrO.nil, order_Type_k, order_find_k, term_Eval_k, maxLen, implies_true, true_and, and_true, and_self, true_implies, false_implies, ixP, szP, mkP]

theorem order_Answer_fn (o : Order) (ask : Int) (cells : List CellX) : FnA Tryz.prog 80 [av o.cells, iv ask, lv CellX.cells cells] [] (.tup [av ((order_Answer o ask cells).1).cells, iv ((order_Answer o ask cells).2)]) [] :=
  FnA.sk tok mixed (fun x => .tup [av x.1.cells, iv x.2]) (fun _ => []) Tryz.func80 rfl (by kernel_rfl) 3000 (order_Answer_sk o ask cells) (by kernel_rfl) (order_Answer_ok o ask cells)
noncomputable def order_Answer_k (o : Order) (ask : Int) (cells : List CellX) : Ctr (CellX × Int) := ⟨Tryz.prog, 80, [av o.cells, iv ask, lv CellX.cells cells], fun x => .tup [av x.1.cells, iv x.2], true, order_Answer o ask cells, True, fun _ => order_Answer_fn o ask cells, fun _ => True, trivial⟩
noncomputable def ask_Ask_sk (r : Realm) (forum : Int) (question : Int) (c_ : CaseX) : Sk (Said) :=
 .r 1 ((ask_find_k r forum question c_).c) fun x1 =>
 .br (x1.1.order != (-1))
 (.r 3 (.andl (.p (ixP x1.1.order r.orders.length)) ((order_Answer_k (r.orders.getD x1.1.order.toNat default) question x1.2).c)) fun x2 =>
 .fin ({ cell := x2.1, order := x1.1.order, path := x1.1.path, err := x2.2 } : Said))
 (.fin x1.1)
noncomputable def ask_Ask (r : Realm) (forum : Int) (question : Int) (c_ : CaseX) : Said := (ask_Ask_sk r forum question c_).val
theorem ask_Ask_ok (r : Realm) (forum : Int) (question : Int) (c_ : CaseX) (hf : c_.file.Small) (hb : r.ByOK) (hr : r.Small) : (ask_Ask_sk r forum question c_).obs (fun _ => True) := by
  simp only [File.Small, Realm.Small, Realm.ByOK] at hf
  simp only [File.Small, Realm.Small, Realm.ByOK] at hb
  simp only [File.Small, Realm.Small, Realm.ByOK] at hr
  refine Sk.obs_of _ ?_
  unfold ask_Ask_sk
  simp only [Sk.obq, Sk.isLoop, reduceCtorEq, leafB, leafJ, Cal.z, Cal.p, Cal.t, Cal.pt, Cal.o, Cal.and, Cal.andl, Cal.andr, Cal.wh, Cal.dep, Cal.depr, Ctr.c, Ctr.nil, Ctr.nilc, CtrO.c, CtrO.nil, ask_find_k, order_Answer_k, File.Small, Realm.Small, Realm.ByOK, maxLen, implies_true, true_and, and_true, and_self, true_implies, false_implies, ixP, szP, mkP]
  all_goals (repeat' first | assumption | (apply And.intro) | (intro h))
  all_goals first | trivial | assumption | omega | ((try simp only [decide_eq_true_eq, decide_eq_false_iff_not, List.length_append, List.length_cons, List.length_nil, List.length_set, List.length_replicate, Bool.not_eq_true, Bool.not_eq_false, Int.not_lt, Int.not_le, Bool.and_eq_true, Bool.or_eq_true, Bool.and_eq_false_iff, Bool.or_eq_false_iff, Bool.not_eq_eq_eq_not, Bool.not_true, Bool.not_false, beq_iff_eq, bne_iff_ne, beq_eq_false_iff_ne, bne_eq_false_iff_eq, ne_eq, subL_length] at *) <;> first | omega | (refine (w64_id ?_ ?_).trans ?_ <;> omega) | (simp (disch := omega) only [w64_id] at *; omega) | (grind) | (simp_all; done) | (simp_all; omega))

theorem ask_Ask_fn (r : Realm) (forum : Int) (question : Int) (c_ : CaseX) (hf : c_.file.Small) (hb : r.ByOK) (hr : r.Small) : FnA Tryz.prog 40 [av r.cells, iv forum, iv question, av c_.cells] [] (av (ask_Ask r forum question c_).cells) [] :=
  FnA.sk tok mixed (fun x => av x.cells) (fun _ => []) Tryz.func40 rfl (by kernel_rfl) 3000 (ask_Ask_sk r forum question c_) (by kernel_rfl) (ask_Ask_ok r forum question c_ hf hb hr)
noncomputable def ask_Ask_k (r : Realm) (forum : Int) (question : Int) (c_ : CaseX) : Ctr (Said) := ⟨Tryz.prog, 40, [av r.cells, iv forum, iv question, av c_.cells], fun x => av x.cells, false, ask_Ask r forum question c_, (c_.file.Small) ∧ (r.ByOK) ∧ (r.Small), fun h => ask_Ask_fn r forum question c_ h.1 h.2.1 h.2.2, fun _ => True, trivial⟩
theorem Ask_eq (r : Realm) (fo q : Int) (c : CaseX) : ask_Ask r fo q c = bif (ask_find r fo q c).1.order != (-1) then (⟨(order_Answer (r.orders.getD (ask_find r fo q c).1.order.toNat default) q (ask_find r fo q c).2).1, (ask_find r fo q c).1.order, (ask_find r fo q c).1.path, (order_Answer (r.orders.getD (ask_find r fo q c).1.order.toNat default) q (ask_find r fo q c).2).2⟩ : Said) else (ask_find r fo q c).1 := by
  kernel_rfl
noncomputable def ask_Bill_sk (r : Realm) (forum : Int) (question : Int) (f : File) (day : Int) : Sk (Said) :=
 .r 2 (((ask_Ask_k r forum question ({ file := { f with facts := [] }, sign := 0, holder := (-1), defence := (-1), due := (-1), day := day } : CaseX)).nilc 3 18 _ rfl ⟨_, rfl⟩).c) fun x1 =>
 .fin x1
noncomputable def ask_Bill (r : Realm) (forum : Int) (question : Int) (f : File) (day : Int) : Said := (ask_Bill_sk r forum question f day).val
theorem ask_Bill_ok (r : Realm) (forum : Int) (question : Int) (f : File) (day : Int) (hf : f.Small) (h_r_ByOK : r.ByOK) (h_r_Small : r.Small) : (ask_Bill_sk r forum question f day).obs (fun _ => True) := by
  simp only [File.Small, Realm.Small, Realm.ByOK] at hf
  simp only [File.Small, Realm.Small, Realm.ByOK] at h_r_ByOK
  simp only [File.Small, Realm.Small, Realm.ByOK] at h_r_Small
  refine Sk.obs_of _ ?_
  unfold ask_Bill_sk
  simp only [Sk.obq, Sk.isLoop, reduceCtorEq, leafB, leafJ, Cal.z, Cal.p, Cal.t, Cal.pt, Cal.o, Cal.and, Cal.andl, Cal.andr, Cal.wh, Cal.dep, Cal.depr, Ctr.c, Ctr.nil, Ctr.nilc, CtrO.c, CtrO.nil, ask_Ask_k, File.Small, Realm.Small, Realm.ByOK, maxLen, implies_true, true_and, and_true, and_self, true_implies, false_implies, ixP, szP, mkP]
  all_goals (repeat' first | assumption | (apply And.intro) | (intro h))
  all_goals first | trivial | assumption | omega | ((try simp only [decide_eq_true_eq, decide_eq_false_iff_not, List.length_append, List.length_cons, List.length_nil, List.length_set, List.length_replicate, Bool.not_eq_true, Bool.not_eq_false, Int.not_lt, Int.not_le, Bool.and_eq_true, Bool.or_eq_true, Bool.and_eq_false_iff, Bool.or_eq_false_iff, Bool.not_eq_eq_eq_not, Bool.not_true, Bool.not_false, beq_iff_eq, bne_iff_ne, beq_eq_false_iff_ne, bne_eq_false_iff_eq, ne_eq, subL_length] at *) <;> first | omega | (refine (w64_id ?_ ?_).trans ?_ <;> omega) | (simp (disch := omega) only [w64_id] at *; omega) | (grind) | (simp_all; done) | (simp_all; omega))

theorem ask_Bill_fn (r : Realm) (forum : Int) (question : Int) (f : File) (day : Int) (hf : f.Small) (h_r_ByOK : r.ByOK) (h_r_Small : r.Small) : FnA Tryz.prog 43 [av r.cells, iv forum, iv question, av f.cells, iv day] [] (av (ask_Bill r forum question f day).cells) [] :=
  FnA.sk tok mixed (fun x => av x.cells) (fun _ => []) Tryz.func43 rfl (by kernel_rfl) 3000 (ask_Bill_sk r forum question f day) (by kernel_rfl) (ask_Bill_ok r forum question f day hf h_r_ByOK h_r_Small)
noncomputable def ask_Bill_k (r : Realm) (forum : Int) (question : Int) (f : File) (day : Int) : Ctr (Said) := ⟨Tryz.prog, 43, [av r.cells, iv forum, iv question, av f.cells, iv day], fun x => av x.cells, false, ask_Bill r forum question f day, (f.Small) ∧ (r.ByOK) ∧ (r.Small), fun h => ask_Bill_fn r forum question f day h.1 h.2.1 h.2.2, fun _ => True, trivial⟩
noncomputable def ask_Number_sk (s : Said) : Sk (Int) :=
 .br ((s.err != 0) || (!s.cell.known))
 (.fin (-1))
 (.fin s.cell.n)
noncomputable def ask_Number (s : Said) : Int := (ask_Number_sk s).val
theorem ask_Number_ok (s : Said) : (ask_Number_sk s).obs (fun _ => True) := by
  refine Sk.obs_of _ ?_
  unfold ask_Number_sk
  simp only [Sk.obq, Sk.isLoop, reduceCtorEq, leafB, leafJ, Cal.z, Cal.p, Cal.t, Cal.pt, Cal.o, Cal.and, Cal.andl, Cal.andr, Cal.wh, Cal.dep, Cal.depr, Ctr.c, Ctr.nil, Ctr.nilc, CtrO.c, CtrO.nil, maxLen, implies_true, true_and, and_true, and_self, true_implies, false_implies, ixP, szP, mkP]

theorem ask_Number_fn (s : Said) : FnA Tryz.prog 42 [av s.cells] [] (iv (ask_Number s)) [] :=
  FnA.sk tok mixed (fun x => iv x) (fun _ => []) Tryz.func42 rfl (by kernel_rfl) 3000 (ask_Number_sk s) (by kernel_rfl) (ask_Number_ok s)
noncomputable def ask_Number_k (s : Said) : Ctr (Int) := ⟨Tryz.prog, 42, [av s.cells], fun x => iv x, true, ask_Number s, True, fun _ => ask_Number_fn s, fun _ => True, trivial⟩
noncomputable def slices_Min_sk (x_ : List Int) : Sk (Int) :=
 .bind false (fun _ => True)
 (.br (decide (((x_.length : Nat) : Int) < 1))
 (.dead default)
 (.fin (.inr ())))
 (fun (_ : Unit) => ⟨[], []⟩) fun _ =>
 .r 3 (.p (ixP (0 : Int) x_.length)) fun _ =>
 .bind true (fun _ => True)
 (.loop (default : Sum (Int) (Int)) (fun i3 => (1 : Int) ≤ i3.2 ∧ i3.2 ≤ (x_.length : Int)) (fun i3 => ((x_.length : Int) - i3.2).toNat) ((x_.getD 0 default, 1) : Int × Int)
 (fun (i3 : Int × Int) => ⟨[(3, iv i3.1), (4, iv i3.2)], []⟩) fun i3 =>
 .br (decide (i3.2 < ((x_.length : Nat) : Int)))
 (.r 7 (.p (ixP i3.2 x_.length)) fun _ =>
 .fin (.inr (minI i3.1 (x_.getD i3.2.toNat default), w64 (i3.2 + 1))))
 (.fin (.inl (.inr i3.1))))
 (fun (b2 : Int) => ⟨[(3, iv b2)], []⟩) fun b2 =>
 .fin b2
noncomputable def slices_Min (x_ : List Int) : Int := (slices_Min_sk x_).val
theorem slices_Min_ok (x_ : List Int) (hx : x_.length ≠ 0) (hl : x_.length ≤ 1000000000) : (slices_Min_sk x_).obs (fun _ => True) := by
  refine Sk.obs_of _ ?_
  unfold slices_Min_sk
  simp only [Sk.obq, Sk.isLoop, reduceCtorEq, leafB, leafJ, Cal.z, Cal.p, Cal.t, Cal.pt, Cal.o, Cal.and, Cal.andl, Cal.andr, Cal.wh, Cal.dep, Cal.depr, Ctr.c, Ctr.nil, Ctr.nilc, CtrO.c, CtrO.nil, maxLen, implies_true, true_and, and_true, and_self, true_implies, false_implies, ixP, szP, mkP]
  all_goals (repeat' first | assumption | (apply And.intro) | (intro h))
  all_goals first | trivial | assumption | omega | ((try simp only [decide_eq_true_eq, decide_eq_false_iff_not, List.length_append, List.length_cons, List.length_nil, List.length_set, List.length_replicate, Bool.not_eq_true, Bool.not_eq_false, Int.not_lt, Int.not_le, Bool.and_eq_true, Bool.or_eq_true, Bool.and_eq_false_iff, Bool.or_eq_false_iff, Bool.not_eq_eq_eq_not, Bool.not_true, Bool.not_false, beq_iff_eq, bne_iff_ne, beq_eq_false_iff_ne, bne_eq_false_iff_eq, ne_eq, subL_length] at *) <;> first | omega | (refine (w64_id ?_ ?_).trans ?_ <;> omega) | (simp (disch := omega) only [w64_id] at *; omega) | (grind) | (simp_all; done) | (simp_all; omega))

theorem slices_Min_fn (x_ : List Int) (hx : x_.length ≠ 0) (hl : x_.length ≤ 1000000000) : FnA Tryz.prog 87 [lv intC x_] [] (iv (slices_Min x_)) [] :=
  FnA.sk tok mixed (fun x => iv x) (fun _ => []) Tryz.func87 rfl (by kernel_rfl) 3000 (slices_Min_sk x_) (by kernel_rfl) (slices_Min_ok x_ hx hl)
noncomputable def slices_Min_k (x_ : List Int) : Ctr (Int) := ⟨Tryz.prog, 87, [lv intC x_], fun x => iv x, true, slices_Min x_, (x_.length ≠ 0) ∧ (x_.length ≤ 1000000000), fun h => slices_Min_fn x_ h.1 h.2, fun _ => True, trivial⟩
end Go.Proofs.YtggilgghigileaaGreatDoor
