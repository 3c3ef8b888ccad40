/- Functions, as sketches. -/
import Derived.Test.YtggilgghigileaaGreatDoorRk4
namespace Go.Proofs.YtggilgghigileaaGreatDoor
open Go Go.Av
set_option linter.unusedSimpArgs false
set_option linter.unusedVariables false
set_option maxHeartbeats 1000000
set_option maxRecDepth 100000
/-- typed terms -/
inductive TyT : Term → Int → Prop
  | int {n : Int} (h : -1099511627776 ≤ n ∧ n ≤ 1099511627776) : TyT ⟨0, n, []⟩ 0
  | bool {n : Int} (h : 0 ≤ n ∧ n ≤ 1) : TyT ⟨1, n, []⟩ 1
  | var {n : Int} (h : 0 ≤ n ∧ n ≤ 19) : TyT ⟨2, n, []⟩ (if n < 7 then 0 else 1)
  | not {a : Term} : TyT a 1 → TyT ⟨3, 0, [a]⟩ 1
  | conj {op : Int} {a b : Term} (h : op = 4 ∨ op = 5) : TyT a 1 → TyT b 1 → TyT ⟨op, 0, [a, b]⟩ 1
  | ite {a b c : Term} {k : Int} : TyT a 1 → TyT b k → TyT c k → TyT ⟨6, 0, [a, b, c]⟩ k
  | less {a b : Term} : TyT a 0 → TyT b 0 → TyT ⟨7, 0, [a, b]⟩ 1
  | eq {a b : Term} {k : Int} : TyT a k → TyT b k → TyT ⟨8, 0, [a, b]⟩ 1
  | arith {op : Int} {a b : Term} (h : 9 ≤ op ∧ op ≤ 13) : TyT a 0 → TyT b 0 → TyT ⟨op, 0, [a, b]⟩ 0
theorem TyT.kind {t : Term} {k : Int} (h : TyT t k) : k = 0 ∨ k = 1 := by
  induction h with
  | var _ => split <;> simp
  | ite _ _ _ _ ih _ => exact ih
  | _ => simp
noncomputable def term_check_kr (rv : Term → Int × Int) (rp : Term → Prop) (rf : ∀ (t : Term), rp t → FnA Tryz.prog 188 [av t.cells] [] (.tup [iv ((rv t).1), iv ((rv t).2)]) []) (t : Term) : Ctr (Int × Int) := ⟨Tryz.prog, 188, [av t.cells], fun x => .tup [iv x.1, iv x.2], true, rv t, rp t, rf t, fun _ => True, trivial⟩
noncomputable def term_check_sk (rv : Term → Int × Int) (rp : Term → Prop) (rf : ∀ (t : Term), rp t → FnA Tryz.prog 188 [av t.cells] [] (.tup [iv ((rv t).1), iv ((rv t).2)]) []) (t : Term) : Sk (Int × Int) :=
 .r 1 (.andl (.o [.nrm (mkC intE t.args.length 0)]) (.p (mkP ((t.args.length : Nat) : Int) 8))) fun _ =>
 .bind true (fun b1 => b1.length = t.args.length ∧ ∀ q, q < t.args.length → (rv (t.args.getD q default)).2 = 0 ∧ b1.getD q default = (rv (t.args.getD q default)).1)
 (.loop (default : Sum (Int × Int) ((List Int))) (fun i2 => i2.1.length = t.args.length ∧ i2.2 ≤ t.args.length ∧ ∀ q, q < i2.2 → (rv (t.args.getD q default)).2 = 0 ∧ i2.1.getD q default = (rv (t.args.getD q default)).1) (fun i2 => t.args.length - i2.2) ((List.replicate t.args.length (0 : Int), 0) : (List Int) × Nat)
 (fun (i2 : (List Int) × Nat) => ⟨[(4, ow 100002 i2.1), (20, iv ((i2.2 : Nat) : Int))], [(100002, rowB 3 1 intC i2.1)]⟩) fun i2 =>
 .bnd 18 0 t.args.length <|
 .br (decide (((i2.2 : Nat) : Int) < ((t.args.length : Nat) : Int)))
 (.r 4 (.andl (.p (ixP ((i2.2 : Nat) : Int) t.args.length)) (.o [.cast 23 (refC (Term.unroll (t.args.getD i2.2 default)))])) fun _ =>
 .r 5 ((term_check_kr rv rp rf (t.args.getD i2.2 default)).c) fun x3 =>
 .br (x3.2 != 0)
 (.fin (.inl (.inl (0, x3.2))))
 (.r 8 (.andl (.p (ixP ((i2.2 : Nat) : Int) i2.1.length)) (.andl (.o [.nrm (setC intE i2.1 i2.2 x3.1)]) (.p (i2.2 < i2.1.length)))) fun _ =>
 .wn 100002 i2.1.length (i2.1.set i2.2 x3.1).length <|
 .r 9 .z fun _ =>
 .wi 20 (w64 (((i2.2 : Nat) : Int) + 1)) ((i2.2 + 1 : Nat) : Int) <|
 .fin (.inr (i2.1.set i2.2 x3.1, i2.2 + 1))))
 (.fin (.inl (.inr i2.1))))
 (fun (b1 : (List Int)) => ⟨[(4, ow 100001 b1)], [(100001, rowB 3 1 intC b1)]⟩) fun b1 =>
 .br ((decide (t.op < 0)) || (decide (t.op > 13)))
 (.fin (0, 1))
 (.br (((t.op == 0) || (t.op == 1)) || (t.op == 2))
 (.r 13 ((term_leaf_k t).c) fun x4 =>
 .fin (x4.1, x4.2))
 (.r 14 ((term_shapeOf_k t.op).c) fun x5 =>
 .br ((((b1.length : Nat) : Int) != ((x5.args.length : Nat) : Int)) || (t.n != 0))
 (.fin (0, 2))
 (.bind true (fun b6 => ∀ q, q < x5.args.length → (x5.args.getD q default = -1 → b1.getD q default = b6 ∨ b1.getD q default = -1) ∧ (x5.args.getD q default ≠ -1 → b1.getD q default = x5.args.getD q default))
 (.loop (default : Sum (Int × Int) (Int)) (fun i7 => i7.2 ≤ x5.args.length ∧ ∀ q, q < i7.2 → (x5.args.getD q default = -1 → b1.getD q default = i7.1 ∨ b1.getD q default = -1) ∧ (x5.args.getD q default ≠ -1 → b1.getD q default = x5.args.getD q default)) (fun i7 => x5.args.length - i7.2) (((-1), 0) : Int × Nat)
 (fun (i7 : Int × Nat) => ⟨[(10, iv i7.1), (82, iv ((i7.2 : Nat) : Int))], []⟩) fun i7 =>
 .bnd 80 0 x5.args.length <|
 .br (decide (((i7.2 : Nat) : Int) < ((x5.args.length : Nat) : Int)))
 (.r 20 (.p (ixP ((i7.2 : Nat) : Int) x5.args.length)) fun _ =>
 .bind false (fun b8 => b8 = if (x5.args.getD i7.2 default) = -1 ∧ i7.1 = -1 then b1.getD i7.2 default else i7.1)
 (.br (((x5.args.getD i7.2 default) == (-1)) && (i7.1 == (-1)))
 (.r 22 (.andl (.p (ixP ((i7.2 : Nat) : Int) b1.length)) (.p (i7.2 < b1.length))) fun _ =>
 .fin (.inr (b1.getD i7.2 default)))
 (.fin (.inr i7.1)))
 (fun (b8 : Int) => ⟨[(10, iv b8)], []⟩) fun b8 =>
 .bind false (fun b9 => b9 = if (x5.args.getD i7.2 default) = -1 then b8 else (x5.args.getD i7.2 default))
 (.br ((x5.args.getD i7.2 default) == (-1))
 (.fin (.inr b8))
 (.fin (.inr (x5.args.getD i7.2 default))))
 (fun (b9 : Int) => ⟨[(12, iv b9)], []⟩) fun b9 =>
 .r 25 (.andl (.p (ixP ((i7.2 : Nat) : Int) b1.length)) (.p (i7.2 < b1.length))) fun _ =>
 .br ((b1.getD i7.2 default) != b9)
 (.fin (.inl (.inl (0, 11))))
 (.r 27 .z fun _ =>
 .wi 82 (w64 (((i7.2 : Nat) : Int) + 1)) ((i7.2 + 1 : Nat) : Int) <|
 .fin (.inr (b8, i7.2 + 1))))
 (.fin (.inl (.inr i7.1))))
 (fun (b6 : Int) => ⟨[(10, iv b6)], []⟩) fun b6 =>
 .br (x5.result == (-1))
 (.fin (b6, 0))
 (.fin (x5.result, 0)))))
noncomputable def term_check_n : Nat → Term → Int × Int
  | 0, _ => default
  | fu + 1, t => (term_check_sk (term_check_n fu) (fun _ => False) (fun _ => fun h => h.elim) t).val
theorem term_check_ok (fu : Nat) (rf : ∀ (t : Term), t.depth ≤ fu ∧ (Thin t) → FnA Tryz.prog 188 [av t.cells] [] (.tup [iv ((term_check_n fu t).1), iv ((term_check_n fu t).2)]) []) (t : Term) (hm : t.depth ≤ fu + 1) (hth : Thin t) : (term_check_sk (term_check_n fu) (fun t => t.depth ≤ fu ∧ (Thin t)) rf t).obs (fun _ => True) := by
  refine Sk.obs_of _ ?_
  unfold term_check_sk
  simp only [Sk.obq, Sk.isLoop, reduceCtorEq, leafB, leafJ, Cal.z, Cal.p, Cal.t, Cal.pt, Cal.o, Cal.and, Cal.andl, Cal.andr, Cal.wh, Cal.dep, Cal.depr, Ctr.c, Ctr.nil, Ctr.nilc, CtrO.c, CtrO.nil, term_leaf_k, term_shapeOf_k, term_check_kr, maxLen, implies_true, true_and, and_true, and_self, true_implies, false_implies, ixP, szP, mkP]
  have hth' := hth
  obtain ⟨ht1, ht2⟩ := hth'
  refine ⟨⟨by omega, by omega, by omega⟩, fun _ => ⟨⟨⟨by simp, by omega, fun q hq => absurd hq (by omega)⟩, fun i hi hl => ⟨fun hc => ⟨⟨by omega, of_decide_eq_true hc⟩, fun _ => ⟨⟨?_, ?_⟩, fun x hx he => ⟨⟨⟨by omega, ?_⟩, ?_⟩, fun _ => ⟨by simp, fun _ => ⟨?_, ⟨⟨by simp [hi.1], ?_, fun q hq => ?_⟩, ?_⟩⟩⟩⟩⟩⟩, fun hc => ⟨hi.1, fun q hq => hi.2.2 q (by simp only [decide_eq_true_eq, decide_eq_false_iff_not, List.length_append, List.length_cons, List.length_nil, List.length_set, List.length_replicate, Bool.not_eq_true, Bool.not_eq_false, Int.not_lt, Int.not_le, Bool.and_eq_true, Bool.or_eq_true, Bool.and_eq_false_iff, Bool.or_eq_false_iff, Bool.not_eq_eq_eq_not, Bool.not_true, Bool.not_false, beq_iff_eq, bne_iff_ne, beq_eq_false_iff_ne, bne_eq_false_iff_eq, ne_eq, subL_length] at hc; omega)⟩⟩⟩, fun b hb hc hop x hx hl => ⟨⟨by omega, fun q hq => absurd hq (by omega)⟩, fun i hi hl2 => ⟨fun hc => ⟨⟨by omega, of_decide_eq_true hc⟩, fun _ => ⟨⟨fun h => ⟨⟨⟨by omega, ?_⟩, ?_⟩, fun _ => ?_⟩, fun h => ?_⟩, fun y _ hy => ⟨⟨fun h => ?_, fun h => ?_⟩, fun z _ hz => ⟨⟨⟨by omega, ?_⟩, ?_⟩, fun _ => fun he _ => ⟨?_, ⟨⟨?_, fun q hq => ?_⟩, ?_⟩⟩⟩⟩⟩⟩, fun hc q hq => hi.2 q (by simp only [decide_eq_true_eq, decide_eq_false_iff_not, List.length_append, List.length_cons, List.length_nil, List.length_set, List.length_replicate, Bool.not_eq_true, Bool.not_eq_false, Int.not_lt, Int.not_le, Bool.and_eq_true, Bool.or_eq_true, Bool.and_eq_false_iff, Bool.or_eq_false_iff, Bool.not_eq_eq_eq_not, Bool.not_true, Bool.not_false, beq_iff_eq, bne_iff_ne, beq_eq_false_iff_ne, bne_eq_false_iff_eq, ne_eq, subL_length] at hc; omega)⟩⟩⟩⟩
  all_goals (try simp only [decide_eq_true_eq, decide_eq_false_iff_not, List.length_append, List.length_cons, List.length_nil, List.length_set, List.length_replicate, Bool.not_eq_true, Bool.not_eq_false, Int.not_lt, Int.not_le, Bool.and_eq_true, Bool.or_eq_true, Bool.and_eq_false_iff, Bool.or_eq_false_iff, Bool.not_eq_eq_eq_not, Bool.not_true, Bool.not_false, beq_iff_eq, bne_iff_ne, beq_eq_false_iff_ne, bne_eq_false_iff_eq, ne_eq, subL_length] at hc)
  · have := t.depth_args i.2 (by omega); omega
  · exact ht2 i.2 (by omega)
  · omega
  · omega
  · exact w64_id (by omega) (by omega)
  · omega
  · simp only [decide_eq_true_eq, decide_eq_false_iff_not, List.length_append, List.length_cons, List.length_nil, List.length_set, List.length_replicate, Bool.not_eq_true, Bool.not_eq_false, Int.not_lt, Int.not_le, Bool.and_eq_true, Bool.or_eq_true, Bool.and_eq_false_iff, Bool.or_eq_false_iff, Bool.not_eq_eq_eq_not, Bool.not_true, Bool.not_false, beq_iff_eq, bne_iff_ne, beq_eq_false_iff_ne, bne_eq_false_iff_eq, ne_eq, subL_length] at he
    by_cases e : q = i.2
    · subst e
      subst hx
      exact ⟨he, lget_set_eq _ (by omega) _ _⟩
    · have := hi.2.2 q (by omega)
      refine ⟨this.1, ?_⟩
      rw [← this.2]
      exact lget_set_ne _ e _ _
  · omega
  all_goals (try simp only [decide_eq_true_eq, decide_eq_false_iff_not, List.length_append, List.length_cons, List.length_nil, List.length_set, List.length_replicate, Bool.not_eq_true, Bool.not_eq_false, Int.not_lt, Int.not_le, Bool.and_eq_true, Bool.or_eq_true, Bool.and_eq_false_iff, Bool.or_eq_false_iff, Bool.not_eq_eq_eq_not, Bool.not_true, Bool.not_false, beq_iff_eq, bne_iff_ne, beq_eq_false_iff_ne, bne_eq_false_iff_eq, ne_eq, subL_length] at hl)
  · omega
  · omega
  · simp only [decide_eq_true_eq, decide_eq_false_iff_not, List.length_append, List.length_cons, List.length_nil, List.length_set, List.length_replicate, Bool.not_eq_true, Bool.not_eq_false, Int.not_lt, Int.not_le, Bool.and_eq_true, Bool.or_eq_true, Bool.and_eq_false_iff, Bool.or_eq_false_iff, Bool.not_eq_eq_eq_not, Bool.not_true, Bool.not_false, beq_iff_eq, bne_iff_ne, beq_eq_false_iff_ne, bne_eq_false_iff_eq, ne_eq, subL_length] at h
    rw [if_pos h]
  · rw [if_neg]
    simp only [decide_eq_true_eq, decide_eq_false_iff_not, List.length_append, List.length_cons, List.length_nil, List.length_set, List.length_replicate, Bool.not_eq_true, Bool.not_eq_false, Int.not_lt, Int.not_le, Bool.and_eq_true, Bool.or_eq_true, Bool.and_eq_false_iff, Bool.or_eq_false_iff, Bool.not_eq_eq_eq_not, Bool.not_true, Bool.not_false, beq_iff_eq, bne_iff_ne, beq_eq_false_iff_ne, bne_eq_false_iff_eq, ne_eq, subL_length] at h
    intro ⟨h1, h2⟩
    rcases h with h | h
    · exact h h1
    · exact h h2
  · simp only [decide_eq_true_eq, decide_eq_false_iff_not, List.length_append, List.length_cons, List.length_nil, List.length_set, List.length_replicate, Bool.not_eq_true, Bool.not_eq_false, Int.not_lt, Int.not_le, Bool.and_eq_true, Bool.or_eq_true, Bool.and_eq_false_iff, Bool.or_eq_false_iff, Bool.not_eq_eq_eq_not, Bool.not_true, Bool.not_false, beq_iff_eq, bne_iff_ne, beq_eq_false_iff_ne, bne_eq_false_iff_eq, ne_eq, subL_length] at h; rw [if_pos h]
  · simp only [decide_eq_true_eq, decide_eq_false_iff_not, List.length_append, List.length_cons, List.length_nil, List.length_set, List.length_replicate, Bool.not_eq_true, Bool.not_eq_false, Int.not_lt, Int.not_le, Bool.and_eq_true, Bool.or_eq_true, Bool.and_eq_false_iff, Bool.or_eq_false_iff, Bool.not_eq_eq_eq_not, Bool.not_true, Bool.not_false, beq_iff_eq, bne_iff_ne, beq_eq_false_iff_ne, bne_eq_false_iff_eq, ne_eq, subL_length] at h; rw [if_neg h]
  · omega
  · omega
  · exact w64_id (by omega) (by omega)
  · omega
  · simp only [decide_eq_true_eq, decide_eq_false_iff_not, List.length_append, List.length_cons, List.length_nil, List.length_set, List.length_replicate, Bool.not_eq_true, Bool.not_eq_false, Int.not_lt, Int.not_le, Bool.and_eq_true, Bool.or_eq_true, Bool.and_eq_false_iff, Bool.or_eq_false_iff, Bool.not_eq_eq_eq_not, Bool.not_true, Bool.not_false, beq_iff_eq, bne_iff_ne, beq_eq_false_iff_ne, bne_eq_false_iff_eq, ne_eq, subL_length] at he
    by_cases e : q = i.2
    · subst e
      refine ⟨fun h => ?_, fun h => ?_⟩
      · rw [if_pos h] at hz; left; rw [he, hz]
      · rw [if_neg h] at hz; rw [he, hz]
    · have := hi.2 q (by omega)
      refine ⟨fun h => ?_, this.2⟩
      rcases this.1 h with h1 | h1
      · by_cases c : x.args.getD i.snd default = -1 ∧ i.fst = -1
        · right; rw [h1, c.2]
        · rw [if_neg c] at hy; left; rw [h1, hy]
      · exact .inr h1
  · omega

theorem term_check_val (fu : Nat) (rp : Term → Prop) (rf : ∀ (t : Term), rp t → FnA Tryz.prog 188 [av t.cells] [] (.tup [iv ((term_check_n fu t).1), iv ((term_check_n fu t).2)]) []) (t : Term) : (term_check_sk (term_check_n fu) rp rf t).val = term_check_n (fu + 1) t := by kernel_rfl
theorem term_check_fnN (fu : Nat) : ∀ (t : Term), t.depth ≤ fu → (Thin t) → FnA Tryz.prog 188 [av t.cells] [] (.tup [iv ((term_check_n fu t).1), iv ((term_check_n fu t).2)]) [] := by
  induction fu with
  | zero => intro t hm h0; exact absurd hm (by have := Term.depth_pos t; omega)
  | succ fu ih =>
    intro t hm h0
    have h : FnA Tryz.prog 188 [av t.cells] [] (.tup [iv (((term_check_sk (term_check_n fu) (fun t => t.depth ≤ fu ∧ (Thin t)) (fun t h => ih t h.1 h.2) t).val).1), iv (((term_check_sk (term_check_n fu) (fun t => t.depth ≤ fu ∧ (Thin t)) (fun t h => ih t h.1 h.2) t).val).2)]) [] := FnA.sk tok mixed (fun x => .tup [iv x.1, iv x.2]) (fun _ => []) Tryz.func188 rfl (by kernel_rfl) 3000 (term_check_sk (term_check_n fu) (fun t => t.depth ≤ fu ∧ (Thin t)) (fun t h => ih t h.1 h.2) t) (by kernel_rfl) (term_check_ok fu _ t hm h0)
    rw [term_check_val] at h
    exact h
noncomputable def term_check (t : Term) : Int × Int := term_check_n (t.depth) t
theorem term_check_fn (t : Term) (hth : Thin t) : FnA Tryz.prog 188 [av t.cells] [] (.tup [iv ((term_check t).1), iv ((term_check t).2)]) [] := term_check_fnN _ t (Nat.le_refl _) hth
noncomputable def term_check_k (t : Term) : Ctr (Int × Int) := ⟨Tryz.prog, 188, [av t.cells], fun x => .tup [iv x.1, iv x.2], true, term_check t, (Thin t), fun h => term_check_fn t h, fun _ => True, trivial⟩
theorem term_leaf_typed (t : Term) (hop : t.op = 0 ∨ t.op = 1 ∨ t.op = 2) (h : (term_leaf t).2 = 0) : TyT t (term_leaf t).1 := by
  obtain ⟨op, n, args⟩ := t
  simp only at hop
  revert h
  cases args with
  | cons a r =>
    intro h
    exfalso
    revert h
    simp only [term_leaf, term_leaf_sk, Sk.val_br, Sk.val_fin]
    rw [show decide ((((a :: r).length : Nat) : Int) > 0) = true from by simp]
    simp
  | nil =>
    rcases hop with rfl | rfl | rfl
    · simp only [term_leaf, term_leaf_sk, Sk.val_br, Sk.val_fin, Sk.val_r, Ctr.c_v, term_cut_k, term_cut_eq]
      intro h
      by_cases c : minI (maxI n (-1099511627776)) 1099511627776 = n
      · have : -1099511627776 ≤ n ∧ n ≤ 1099511627776 := by simp only [minI, maxI] at c; omega
        have e : (minI (maxI n (-1099511627776)) 1099511627776 != n) = false := by simpa using c
        rw [e]
        exact TyT.int this
      · have e : (minI (maxI n (-1099511627776)) 1099511627776 != n) = true := by simpa using c
        rw [e] at h
        exact absurd (show (3 : Int) = 0 from h) (by decide)
    · simp only [term_leaf, term_leaf_sk, Sk.val_br, Sk.val_fin, Sk.val_r, Ctr.c_v, term_cut_k, term_cut_eq]
      intro h
      by_cases c : n < 0 ∨ n > 1
      · have e : (decide (n < 0) || decide (n > 1)) = true := by simpa using c
        rw [e] at h
        exact absurd (show (3 : Int) = 0 from h) (by decide)
      · have : 0 ≤ n ∧ n ≤ 1 := by omega
        have e : (decide (n < 0) || decide (n > 1)) = false := by simp; omega
        rw [e]
        exact TyT.bool this
    · intro h
      have e : term_leaf ⟨2, n, []⟩ = (if n < 0 ∨ n > 19 then (0, 10) else if n < 7 then (0, 0) else (1, 0)) := by
        simp only [term_leaf, term_leaf_sk, Sk.val_br, Sk.val_fin, Sk.val_r, Ctr.c_v, term_VarType_k, term_VarType, term_VarType_sk]
        by_cases c : n < 0 ∨ n > 19
        · have : (decide (n < 0) || decide (n > 19)) = true := by simpa using c
          simp [this, c]
        · have : (decide (n < 0) || decide (n > 19)) = false := by simp; omega
          by_cases d : n < 7 <;> simp [this, c, d]
      rw [e] at h ⊢
      by_cases c : n < 0 ∨ n > 19
      · simp [c] at h
      · have : 0 ≤ n ∧ n ≤ 19 := by omega
        have := TyT.var this
        by_cases d : n < 7 <;> simpa [c, d] using this

theorem shape3 : term_shapeOf 3 = ⟨[1], 1⟩ := by kernel_rfl
theorem shape4 : term_shapeOf 4 = ⟨[1, 1], 1⟩ := by kernel_rfl
theorem shape5 : term_shapeOf 5 = ⟨[1, 1], 1⟩ := by kernel_rfl
theorem shape6 : term_shapeOf 6 = ⟨[1, -1, -1], -1⟩ := by kernel_rfl
theorem shape7 : term_shapeOf 7 = ⟨[0, 0], 1⟩ := by kernel_rfl
theorem shape8 : term_shapeOf 8 = ⟨[-1, -1], 1⟩ := by kernel_rfl
theorem shape9_9 : term_shapeOf 9 = ⟨[0, 0], 0⟩ := by kernel_rfl
theorem shape9_10 : term_shapeOf 10 = ⟨[0, 0], 0⟩ := by kernel_rfl
theorem shape9_11 : term_shapeOf 11 = ⟨[0, 0], 0⟩ := by kernel_rfl
theorem shape9_12 : term_shapeOf 12 = ⟨[0, 0], 0⟩ := by kernel_rfl
theorem shape9_13 : term_shapeOf 13 = ⟨[0, 0], 0⟩ := by kernel_rfl
theorem shape9 (op : Int) (h : 9 ≤ op ∧ op ≤ 13) : term_shapeOf op = ⟨[0, 0], 0⟩ := by
  have : op = 9 ∨ op = 10 ∨ op = 11 ∨ op = 12 ∨ op = 13 := by omega
  rcases this with e | e | e | e | e <;> rw [e]
  · exact shape9_9
  · exact shape9_10
  · exact shape9_11
  · exact shape9_12
  · exact shape9_13

theorem list1 {α : Type} {l : List α} (h : l.length = 1) : ∃ a, l = [a] := by
  match l, h with
  | [a], _ => exact ⟨a, rfl⟩
theorem list2 {α : Type} {l : List α} (h : l.length = 2) : ∃ a b, l = [a, b] := by
  match l, h with
  | [a, b], _ => exact ⟨a, b, rfl⟩
theorem list3 {α : Type} {l : List α} (h : l.length = 3) : ∃ a b c, l = [a, b, c] := by
  match l, h with
  | [a, b, c], _ => exact ⟨a, b, c, rfl⟩

/-- what the shapes say -/
theorem typed_node {t : Term} {b1 : List Int} {common : Int} (hop : 3 ≤ t.op ∧ t.op ≤ 13) (hn : t.n = 0) (hl : b1.length = (term_shapeOf t.op).args.length) (hb : b1.length = t.args.length) (hty : ∀ q, q < t.args.length → TyT (t.args.getD q default) (b1.getD q default))
    (hc : ∀ q, q < (term_shapeOf t.op).args.length → ((term_shapeOf t.op).args.getD q default = -1 → b1.getD q default = common ∨ b1.getD q default = -1) ∧ ((term_shapeOf t.op).args.getD q default ≠ -1 → b1.getD q default = (term_shapeOf t.op).args.getD q default)) :
    TyT t (if (term_shapeOf t.op).result = -1 then common else (term_shapeOf t.op).result) := by
  obtain ⟨op, n, args⟩ := t
  simp only at hop hn hl hb hty hc ⊢
  subst hn
  have cases9 : op = 3 ∨ op = 4 ∨ op = 5 ∨ op = 6 ∨ op = 7 ∨ op = 8 ∨ (9 ≤ op ∧ op ≤ 13) := by omega
  rcases cases9 with rfl | rfl | rfl | rfl | rfl | rfl | h9
  · rw [shape3] at hl hc ⊢
    obtain ⟨a, rfl⟩ := list1 (hb.symm.trans hl)
    have h0 := hty 0 (by simp)
    have c0 := hc 0 (by simp)
    simp at h0 c0 ⊢
    rw [c0] at h0
    exact .not h0
  · rw [shape4] at hl hc ⊢
    obtain ⟨a, b, rfl⟩ := list2 (hb.symm.trans hl)
    have h0 := hty 0 (by simp); have h1 := hty 1 (by simp)
    have c0 := hc 0 (by simp); have c1 := hc 1 (by simp)
    simp at h0 h1 c0 c1 ⊢
    rw [c0] at h0; rw [c1] at h1
    exact .conj (.inl rfl) h0 h1
  · rw [shape5] at hl hc ⊢
    obtain ⟨a, b, rfl⟩ := list2 (hb.symm.trans hl)
    have h0 := hty 0 (by simp); have h1 := hty 1 (by simp)
    have c0 := hc 0 (by simp); have c1 := hc 1 (by simp)
    simp at h0 h1 c0 c1 ⊢
    rw [c0] at h0; rw [c1] at h1
    exact .conj (.inr rfl) h0 h1
  · rw [shape6] at hl hc ⊢
    obtain ⟨a, b, c, rfl⟩ := list3 (hb.symm.trans hl)
    have h0 := hty 0 (by simp); have h1 := hty 1 (by simp); have h2 := hty 2 (by simp)
    have c0 := hc 0 (by simp); have c1 := hc 1 (by simp); have c2 := hc 2 (by simp)
    simp at h0 h1 h2 c0 c1 c2 ⊢
    have k1 := h1.kind; have k2 := h2.kind
    rw [c0] at h0
    have e1 : b1[1]?.getD 0 = common := by omega
    have e2 : b1[2]?.getD 0 = common := by omega
    rw [e1] at h1; rw [e2] at h2
    exact .ite h0 h1 h2
  · rw [shape7] at hl hc ⊢
    obtain ⟨a, b, rfl⟩ := list2 (hb.symm.trans hl)
    have h0 := hty 0 (by simp); have h1 := hty 1 (by simp)
    have c0 := hc 0 (by simp); have c1 := hc 1 (by simp)
    simp at h0 h1 c0 c1 ⊢
    rw [c0] at h0; rw [c1] at h1
    exact .less h0 h1
  · rw [shape8] at hl hc ⊢
    obtain ⟨a, b, rfl⟩ := list2 (hb.symm.trans hl)
    have h0 := hty 0 (by simp); have h1 := hty 1 (by simp)
    have c0 := hc 0 (by simp); have c1 := hc 1 (by simp)
    simp at h0 h1 c0 c1 ⊢
    have k1 := h0.kind; have k2 := h1.kind
    have e1 : b1[0]?.getD 0 = common := by omega
    have e2 : b1[1]?.getD 0 = common := by omega
    rw [e1] at h0; rw [e2] at h1
    exact .eq h0 h1
  · rw [shape9 op h9] at hl hc ⊢
    obtain ⟨a, b, rfl⟩ := list2 (hb.symm.trans hl)
    have h0 := hty 0 (by simp); have h1 := hty 1 (by simp)
    have c0 := hc 0 (by simp); have c1 := hc 1 (by simp)
    simp at h0 h1 c0 c1 ⊢
    rw [c0] at h0; rw [c1] at h1
    exact .arith h9 h0 h1

theorem term_check_typed : ∀ (fu : Nat) (t : Term), t.depth ≤ fu → (term_check_n fu t).2 = 0 → TyT t (term_check_n fu t).1
  | 0, t, hd, _ => absurd hd (by have := t.depth_pos; omega)
  | fu + 1, t, hd, h => by
    have ih := term_check_typed fu
    have key : term_check_n (fu+1) t = (term_check_sk (term_check_n fu) (fun _ => False) (fun _ h => h.elim) t).val := rfl
    rw [key] at h ⊢
    refine (Sk.pval (term_check_sk (term_check_n fu) (fun _ => False) (fun _ h => h.elim) t) (L := fun x => x.2 = 0 → TyT t x.1) (Sk.pst_of _ ?_)) h
    unfold term_check_sk
    simp only [Sk.pstq, Sk.isLoop, reduceCtorEq, false_implies, leafB, leafJ, Cal.z, Cal.p, Cal.t, Cal.pt, Cal.o, Cal.and, Cal.andl, Cal.andr, Cal.wh, Cal.dep, Cal.depr, Ctr.c, term_check_kr, term_leaf_k, term_shapeOf_k, implies_true, true_and, and_true, and_self, true_implies, forall_eq, forall_const]
    refine ⟨⟨⟨by simp, Nat.zero_le _, fun q hq => absurd hq (by omega)⟩, fun i hi => ⟨fun hc => ⟨fun he h => ?_, fun he => ⟨⟨by simp [hi.1], ?_, fun q hq => ?_⟩, ?_⟩⟩, fun hc => ⟨hi.1, fun q hq => hi.2.2 q (by simp at hc; omega)⟩⟩⟩, fun b hb => ⟨fun hc h => absurd h (by decide), fun hc => ⟨fun hop h => ?_, fun hop => ⟨fun _ h => absurd h (by decide), fun hl => ⟨⟨⟨Nat.zero_le _, fun q hq => absurd hq (by omega)⟩, fun i hi => ⟨fun hc => ⟨⟨?_, ?_⟩, fun y _ hy => ⟨⟨?_, ?_⟩, fun z _ hz => ⟨fun _ h => absurd h (by decide), fun he => ⟨⟨?_, fun q hq => ?_⟩, ?_⟩⟩⟩⟩, fun hc q hq => hi.2 q (by simp at hc; omega)⟩⟩, fun y hy => ⟨?_, ?_⟩⟩⟩⟩⟩⟩
    · rw [h] at he; exact absurd he (by decide)
    · simp only [decide_eq_true_eq, decide_eq_false_iff_not, List.length_append, List.length_cons, List.length_nil, List.length_set, List.length_replicate, Bool.not_eq_true, Bool.not_eq_false, Int.not_lt, Int.not_le, Bool.and_eq_true, Bool.or_eq_true, Bool.and_eq_false_iff, Bool.or_eq_false_iff, Bool.not_eq_eq_eq_not, Bool.not_true, Bool.not_false, beq_iff_eq, bne_iff_ne, beq_eq_false_iff_ne, bne_eq_false_iff_eq, ne_eq, subL_length] at hc; omega
    · simp only [decide_eq_true_eq, decide_eq_false_iff_not, List.length_append, List.length_cons, List.length_nil, List.length_set, List.length_replicate, Bool.not_eq_true, Bool.not_eq_false, Int.not_lt, Int.not_le, Bool.and_eq_true, Bool.or_eq_true, Bool.and_eq_false_iff, Bool.or_eq_false_iff, Bool.not_eq_eq_eq_not, Bool.not_true, Bool.not_false, beq_iff_eq, bne_iff_ne, beq_eq_false_iff_ne, bne_eq_false_iff_eq, ne_eq, subL_length] at hc he
      by_cases e : q = i.2
      · subst e
        exact ⟨he, lget_set_eq _ (by omega) _ _⟩
      · have := hi.2.2 q (by omega)
        refine ⟨this.1, ?_⟩
        rw [← this.2]
        exact lget_set_ne _ e _ _
    · simp only [decide_eq_true_eq, decide_eq_false_iff_not, List.length_append, List.length_cons, List.length_nil, List.length_set, List.length_replicate, Bool.not_eq_true, Bool.not_eq_false, Int.not_lt, Int.not_le, Bool.and_eq_true, Bool.or_eq_true, Bool.and_eq_false_iff, Bool.or_eq_false_iff, Bool.not_eq_eq_eq_not, Bool.not_true, Bool.not_false, beq_iff_eq, bne_iff_ne, beq_eq_false_iff_ne, bne_eq_false_iff_eq, ne_eq, subL_length] at hc; omega
    · exact term_leaf_typed t (by simp only [decide_eq_true_eq, decide_eq_false_iff_not, List.length_append, List.length_cons, List.length_nil, List.length_set, List.length_replicate, Bool.not_eq_true, Bool.not_eq_false, Int.not_lt, Int.not_le, Bool.and_eq_true, Bool.or_eq_true, Bool.and_eq_false_iff, Bool.or_eq_false_iff, Bool.not_eq_eq_eq_not, Bool.not_true, Bool.not_false, beq_iff_eq, bne_iff_ne, beq_eq_false_iff_ne, bne_eq_false_iff_eq, ne_eq, subL_length] at hop; omega) h
    · intro h; simp only [decide_eq_true_eq, decide_eq_false_iff_not, List.length_append, List.length_cons, List.length_nil, List.length_set, List.length_replicate, Bool.not_eq_true, Bool.not_eq_false, Int.not_lt, Int.not_le, Bool.and_eq_true, Bool.or_eq_true, Bool.and_eq_false_iff, Bool.or_eq_false_iff, Bool.not_eq_eq_eq_not, Bool.not_true, Bool.not_false, beq_iff_eq, bne_iff_ne, beq_eq_false_iff_ne, bne_eq_false_iff_eq, ne_eq, subL_length] at h; rw [if_pos h]
    · intro h
      rw [if_neg]
      simp only [decide_eq_true_eq, decide_eq_false_iff_not, List.length_append, List.length_cons, List.length_nil, List.length_set, List.length_replicate, Bool.not_eq_true, Bool.not_eq_false, Int.not_lt, Int.not_le, Bool.and_eq_true, Bool.or_eq_true, Bool.and_eq_false_iff, Bool.or_eq_false_iff, Bool.not_eq_eq_eq_not, Bool.not_true, Bool.not_false, beq_iff_eq, bne_iff_ne, beq_eq_false_iff_ne, bne_eq_false_iff_eq, ne_eq, subL_length] at h
      intro ⟨h1, h2⟩
      rcases h with h | h
      · exact h h1
      · exact h h2
    · intro h; simp only [decide_eq_true_eq, decide_eq_false_iff_not, List.length_append, List.length_cons, List.length_nil, List.length_set, List.length_replicate, Bool.not_eq_true, Bool.not_eq_false, Int.not_lt, Int.not_le, Bool.and_eq_true, Bool.or_eq_true, Bool.and_eq_false_iff, Bool.or_eq_false_iff, Bool.not_eq_eq_eq_not, Bool.not_true, Bool.not_false, beq_iff_eq, bne_iff_ne, beq_eq_false_iff_ne, bne_eq_false_iff_eq, ne_eq, subL_length] at h; rw [if_pos h]
    · intro h; simp only [decide_eq_true_eq, decide_eq_false_iff_not, List.length_append, List.length_cons, List.length_nil, List.length_set, List.length_replicate, Bool.not_eq_true, Bool.not_eq_false, Int.not_lt, Int.not_le, Bool.and_eq_true, Bool.or_eq_true, Bool.and_eq_false_iff, Bool.or_eq_false_iff, Bool.not_eq_eq_eq_not, Bool.not_true, Bool.not_false, beq_iff_eq, bne_iff_ne, beq_eq_false_iff_ne, bne_eq_false_iff_eq, ne_eq, subL_length] at h; rw [if_neg h]
    · simp only [decide_eq_true_eq, decide_eq_false_iff_not, List.length_append, List.length_cons, List.length_nil, List.length_set, List.length_replicate, Bool.not_eq_true, Bool.not_eq_false, Int.not_lt, Int.not_le, Bool.and_eq_true, Bool.or_eq_true, Bool.and_eq_false_iff, Bool.or_eq_false_iff, Bool.not_eq_eq_eq_not, Bool.not_true, Bool.not_false, beq_iff_eq, bne_iff_ne, beq_eq_false_iff_ne, bne_eq_false_iff_eq, ne_eq, subL_length] at hc; omega
    · simp only [decide_eq_true_eq, decide_eq_false_iff_not, List.length_append, List.length_cons, List.length_nil, List.length_set, List.length_replicate, Bool.not_eq_true, Bool.not_eq_false, Int.not_lt, Int.not_le, Bool.and_eq_true, Bool.or_eq_true, Bool.and_eq_false_iff, Bool.or_eq_false_iff, Bool.not_eq_eq_eq_not, Bool.not_true, Bool.not_false, beq_iff_eq, bne_iff_ne, beq_eq_false_iff_ne, bne_eq_false_iff_eq, ne_eq, subL_length] at hc he
      by_cases e : q = i.2
      · subst e
        refine ⟨fun h => ?_, fun h => ?_⟩
        · rw [if_pos h] at hz; left; rw [he, hz]
        · rw [if_neg h] at hz; rw [he, hz]
      · have := hi.2 q (by omega)
        refine ⟨fun h => ?_, this.2⟩
        rcases this.1 h with h1 | h1
        · by_cases c : (term_shapeOf t.op).args.getD i.snd default = -1 ∧ i.fst = -1
          · right; rw [h1, c.2]
          · rw [if_neg c] at hy; left; rw [h1, hy]
        · exact .inr h1
    · simp only [decide_eq_true_eq, decide_eq_false_iff_not, List.length_append, List.length_cons, List.length_nil, List.length_set, List.length_replicate, Bool.not_eq_true, Bool.not_eq_false, Int.not_lt, Int.not_le, Bool.and_eq_true, Bool.or_eq_true, Bool.and_eq_false_iff, Bool.or_eq_false_iff, Bool.not_eq_eq_eq_not, Bool.not_true, Bool.not_false, beq_iff_eq, bne_iff_ne, beq_eq_false_iff_ne, bne_eq_false_iff_eq, ne_eq, subL_length] at hc; omega
    · intro h
      simp only [decide_eq_true_eq, decide_eq_false_iff_not, List.length_append, List.length_cons, List.length_nil, List.length_set, List.length_replicate, Bool.not_eq_true, Bool.not_eq_false, Int.not_lt, Int.not_le, Bool.and_eq_true, Bool.or_eq_true, Bool.and_eq_false_iff, Bool.or_eq_false_iff, Bool.not_eq_eq_eq_not, Bool.not_true, Bool.not_false, beq_iff_eq, bne_iff_ne, beq_eq_false_iff_ne, bne_eq_false_iff_eq, ne_eq, subL_length] at hc hop hl h
      have := typed_node (t := t) (b1 := b) (common := y) (by omega) hl.2 (by omega) hb.1 (fun q hq => by
        have h1 := hb.2 q hq
        rw [h1.2]
        exact ih _ (by have := t.depth_args q hq; omega) h1.1) hy
      rw [if_pos h] at this
      exact this
    · intro h
      simp only [decide_eq_true_eq, decide_eq_false_iff_not, List.length_append, List.length_cons, List.length_nil, List.length_set, List.length_replicate, Bool.not_eq_true, Bool.not_eq_false, Int.not_lt, Int.not_le, Bool.and_eq_true, Bool.or_eq_true, Bool.and_eq_false_iff, Bool.or_eq_false_iff, Bool.not_eq_eq_eq_not, Bool.not_true, Bool.not_false, beq_iff_eq, bne_iff_ne, beq_eq_false_iff_ne, bne_eq_false_iff_eq, ne_eq, subL_length] at hc hop hl h
      have := typed_node (t := t) (b1 := b) (common := y) (by omega) hl.2 (by omega) hb.1 (fun q hq => by
        have h1 := hb.2 q hq
        rw [h1.2]
        exact ih _ (by have := t.depth_args q hq; omega) h1.1) hy
      rw [if_neg h] at this
      exact this
noncomputable def term_Check_sk (t : Term) : Sk (Int × Int) :=
 .r 1 ((term_measure_k t 1).c) fun x1 =>
 .br (decide (x1 > 60))
 (.fin (0, 6))
 (.r 3 ((term_check_k t).c) fun x2 =>
 .fin (x2.1, x2.2))
noncomputable def term_Check (t : Term) : Int × Int := (term_Check_sk t).val
/-- terms that Check accepts -/
def Term.Right (t : Term) : Prop := (∃ k, TyT t k) ∧ t.depth ≤ 8
theorem term_Check_pst (t : Term) : (term_Check_sk t).pst (fun (x : Int × Int) => x.2 = 0 → TyT t x.1 ∧ t.depth ≤ 8) := by
  refine Sk.pst_of _ ?_
  unfold term_Check_sk
  simp only [Sk.pstq, Sk.isLoop, reduceCtorEq, false_implies, leafB, leafJ, Cal.z, Cal.p, Cal.t, Cal.pt, Cal.o, Cal.and, Cal.andl, Cal.andr, Cal.wh, Cal.dep, Cal.depr, Ctr.c, Ctr.nil, Ctr.nilc, CtrO.c, CtrO.nil, term_measure_k, term_check_k, forall_eq, forall_const]
  have hm := term_measure_le _ t 1 (Nat.le_refl _) (by omega) (by omega)
  have hc := term_check_typed _ t (Nat.le_refl _)
  refine ⟨fun _ h => absurd h (by decide), fun c h => ⟨hc h, ?_⟩⟩
  simp only [decide_eq_false_iff_not] at c
  have : term_measure_n t.depth t 1 ≤ 60 := Int.not_lt.1 c
  have := hm.2.2.1 this
  omega
theorem term_Check_post (t : Term) : (fun (x : Int × Int) => x.2 = 0 → TyT t x.1 ∧ t.depth ≤ 8) (term_Check t) := Sk.pval _ (term_Check_pst t)
theorem term_Check_ok (t : Term) : (term_Check_sk t).obs (fun _ => True) := by
  refine Sk.obs_of _ ?_
  unfold term_Check_sk
  simp only [Sk.obq, Sk.isLoop, reduceCtorEq, leafB, leafJ, Cal.z, Cal.p, Cal.t, Cal.pt, Cal.o, Cal.and, Cal.andl, Cal.andr, Cal.wh, Cal.dep, Cal.depr, Ctr.c, Ctr.nil, Ctr.nilc, CtrO.c, CtrO.nil, term_check_k, term_measure_k, maxLen, implies_true, true_and, and_true, and_self, true_implies, false_implies, ixP, szP, mkP]
  exact fun x hx h => (term_measure_le _ t 1 (Nat.le_refl _) (by omega) (by omega)).2.2.2 (by subst hx; simp only [decide_eq_true_eq, decide_eq_false_iff_not, List.length_append, List.length_cons, List.length_nil, List.length_set, List.length_replicate, Bool.not_eq_true, Bool.not_eq_false, Int.not_lt, Int.not_le, Bool.and_eq_true, Bool.or_eq_true, Bool.and_eq_false_iff, Bool.or_eq_false_iff, Bool.not_eq_eq_eq_not, Bool.not_true, Bool.not_false, beq_iff_eq, bne_iff_ne, beq_eq_false_iff_ne, bne_eq_false_iff_eq, ne_eq, subL_length] at h; exact h)

theorem term_Check_fn (t : Term) : FnA Tryz.prog 156 [av t.cells] [] (.tup [iv ((term_Check t).1), iv ((term_Check t).2)]) [] :=
  FnA.sk tok mixed (fun x => .tup [iv x.1, iv x.2]) (fun _ => []) Tryz.func156 rfl (by kernel_rfl) 3000 (term_Check_sk t) (by kernel_rfl) (term_Check_ok t)
noncomputable def term_Check_k (t : Term) : Ctr (Int × Int) := ⟨Tryz.prog, 156, [av t.cells], fun x => .tup [iv x.1, iv x.2], true, term_Check t, True, fun _ => term_Check_fn t, fun (x : Int × Int) => x.2 = 0 → TyT t x.1 ∧ t.depth ≤ 8, term_Check_post t⟩
noncomputable def order_find_sk (o : Order) (ask : Int) : Sk (Term × Int) :=
 .r 1 ((order_Type_k ask).c) fun x1 =>
 .br (!x1.2)
 (.fin (({ op := 0, n := 0, args := [] } : Term), 1))
 (.r 4 ((slices_IndexFunc_155_k o.rules ask).c) fun x2 =>
 .br (decide (x2 < 0))
 (.fin (({ op := 0, n := 0, args := [] } : Term), 4))
 (.r 7 (.p (ixP x2 o.rules.length)) fun _ =>
 .r 8 ((term_Check_k ((o.rules.getD x2.toNat default).term)).c) fun x3 =>
 .br ((x3.2 != 0) || (x3.1 != x1.1))
 (.fin (({ op := 0, n := 0, args := [] } : Term), 11))
 (.fin ((o.rules.getD x2.toNat default).term, 0))))
noncomputable def order_find (o : Order) (ask : Int) : Term × Int := (order_find_sk o ask).val
theorem order_find_ok (o : Order) (ask : Int) : (order_find_sk o ask).obs (fun _ => True) := by
  refine Sk.obs_of _ ?_
  unfold order_find_sk
  simp only [Sk.obq, Sk.isLoop, reduceCtorEq, leafB, leafJ, Cal.z, Cal.p, Cal.t, Cal.pt, Cal.o, Cal.and, Cal.andl, Cal.andr, Cal.wh, Cal.dep, Cal.depr, Ctr.c, Ctr.nil, Ctr.nilc, CtrO.c, CtrO.nil, order_Type_k, slices_IndexFunc_155_k, term_Check_k, maxLen, implies_true, true_and, and_true, and_self, true_implies, false_implies, ixP, szP, mkP]
  all_goals (repeat' first | assumption | (apply And.intro) | (intro h))
  all_goals first | trivial | assumption | omega | ((try simp only [decide_eq_true_eq, decide_eq_false_iff_not, List.length_append, List.length_cons, List.length_nil, List.length_set, List.length_replicate, Bool.not_eq_true, Bool.not_eq_false, Int.not_lt, Int.not_le, Bool.and_eq_true, Bool.or_eq_true, Bool.and_eq_false_iff, Bool.or_eq_false_iff, Bool.not_eq_eq_eq_not, Bool.not_true, Bool.not_false, beq_iff_eq, bne_iff_ne, beq_eq_false_iff_ne, bne_eq_false_iff_eq, ne_eq, subL_length] at *) <;> first | omega | (refine (w64_id ?_ ?_).trans ?_ <;> omega) | (simp (disch := omega) only [w64_id] at *; omega) | (grind) | (simp_all; done) | (simp_all; omega))

theorem order_find_fn (o : Order) (ask : Int) : FnA Tryz.prog 115 [av o.cells, iv ask] [] (.tup [av ((order_find o ask).1).cells, iv ((order_find o ask).2)]) [] :=
  FnA.sk tok mixed (fun x => .tup [av x.1.cells, iv x.2]) (fun _ => []) Tryz.func115 rfl (by kernel_rfl) 3000 (order_find_sk o ask) (by kernel_rfl) (order_find_ok o ask)
noncomputable def order_find_k (o : Order) (ask : Int) : Ctr (Term × Int) := ⟨Tryz.prog, 115, [av o.cells, iv ask], fun x => .tup [av x.1.cells, iv x.2], false, order_find o ask, True, fun _ => order_find_fn o ask, fun _ => True, trivial⟩
structure Machine where
  cells_ : List CellX
  deriving Inhabited
def Machine.cells (c : Machine) : List D := [slD CellX.cells c.cells_]
def Machine.E : Enc Machine := ⟨Machine.cells, 1, fun _ => rfl, fun _ => rfl⟩
noncomputable def term_yes_sk (is_ : Bool) : Sk (CellX) :=
 .br is_
 (.fin ({ known := true, n := 1 } : CellX))
 (.fin ({ known := true, n := 0 } : CellX))
noncomputable def term_yes (is_ : Bool) : CellX := (term_yes_sk is_).val
theorem term_yes_ok (is_ : Bool) : (term_yes_sk is_).obs (fun _ => True) := by
  refine Sk.obs_of _ ?_
  unfold term_yes_sk
  simp only [Sk.obq, Sk.isLoop, reduceCtorEq, leafB, leafJ, Cal.z, Cal.p, Cal.t, Cal.pt, Cal.o, Cal.and, Cal.andl, Cal.andr, Cal.wh, Cal.dep, Cal.depr, Ctr.c, Ctr.nil, Ctr.nilc, CtrO.c, CtrO.nil, maxLen, implies_true, true_and, and_true, and_self, true_implies, false_implies, ixP, szP, mkP]

theorem term_yes_fn (is_ : Bool) : FnA Tryz.prog 213 [bv is_] [] (av (term_yes is_).cells) [] :=
  FnA.sk tok mixed (fun x => av x.cells) (fun _ => []) Tryz.func213 rfl (by kernel_rfl) 3000 (term_yes_sk is_) (by kernel_rfl) (term_yes_ok is_)
noncomputable def term_yes_k (is_ : Bool) : Ctr (CellX) := ⟨Tryz.prog, 213, [bv is_], fun x => av x.cells, true, term_yes is_, True, fun _ => term_yes_fn is_, fun _ => True, trivial⟩
noncomputable def term_machine_value_sk (m : Machine) (v : Int) : Sk (CellX) :=
 .r 1 (.wh (decide (v ≥ ((m.cells_.length : Nat) : Int))) false (.p (ixP v m.cells_.length))) fun _ =>
 .br ((decide (v ≥ ((m.cells_.length : Nat) : Int))) || (!((m.cells_.getD v.toNat default).known)))
 (.fin ({ known := false, n := 0 } : CellX))
 (.r 3 ((term_VarType_k v).c) fun x1 =>
 .br (x1.1 == 1)
 (.r 5 (.andl (.p (ixP v m.cells_.length)) ((term_yes_k (((m.cells_.getD v.toNat default).n) != 0)).c)) fun x2 =>
 .fin x2)
 (.r 6 (.andl (.p (ixP v m.cells_.length)) ((term_cut_k ((m.cells_.getD v.toNat default).n)).c)) fun x3 =>
 .fin ({ known := true, n := x3 } : CellX)))
noncomputable def term_machine_value (m : Machine) (v : Int) : CellX := (term_machine_value_sk m v).val
theorem term_machine_value_ok (m : Machine) (v : Int) (hv : 0 ≤ v) : (term_machine_value_sk m v).obs (fun _ => True) := by
  refine Sk.obs_of _ ?_
  unfold term_machine_value_sk
  simp only [Sk.obq, Sk.isLoop, reduceCtorEq, leafB, leafJ, Cal.z, Cal.p, Cal.t, Cal.pt, Cal.o, Cal.and, Cal.andl, Cal.andr, Cal.wh, Cal.dep, Cal.depr, Ctr.c, Ctr.nil, Ctr.nilc, CtrO.c, CtrO.nil, term_VarType_k, term_cut_k, term_yes_k, term_cut_eq, forall_eq, maxLen, implies_true, true_and, and_true, and_self, true_implies, false_implies, ixP, szP, mkP]
  all_goals (repeat' first | assumption | (apply And.intro) | (intro h))
  all_goals first | trivial | assumption | omega | ((try simp only [decide_eq_true_eq, decide_eq_false_iff_not, List.length_append, List.length_cons, List.length_nil, List.length_set, List.length_replicate, Bool.not_eq_true, Bool.not_eq_false, Int.not_lt, Int.not_le, Bool.and_eq_true, Bool.or_eq_true, Bool.and_eq_false_iff, Bool.or_eq_false_iff, Bool.not_eq_eq_eq_not, Bool.not_true, Bool.not_false, beq_iff_eq, bne_iff_ne, beq_eq_false_iff_ne, bne_eq_false_iff_eq, ne_eq, subL_length] at *) <;> first | omega | (refine (w64_id ?_ ?_).trans ?_ <;> omega) | (simp (disch := omega) only [w64_id] at *; omega) | (grind) | (simp_all; done) | (simp_all; omega))

theorem term_machine_value_fn (m : Machine) (v : Int) (hv : 0 ≤ v) : FnA Tryz.prog 189 [av [slD CellX.cells m.cells_], iv v] [] (av (term_machine_value m v).cells) [] :=
  FnA.sk tok mixed (fun x => av x.cells) (fun _ => []) Tryz.func189 rfl (by kernel_rfl) 3000 (term_machine_value_sk m v) (by kernel_rfl) (term_machine_value_ok m v hv)
noncomputable def term_machine_value_k (m : Machine) (v : Int) : Ctr (CellX) := ⟨Tryz.prog, 189, [av [slD CellX.cells m.cells_], iv v], fun x => av x.cells, true, term_machine_value m v, (0 ≤ v), fun h => term_machine_value_fn m v h, fun _ => True, trivial⟩
noncomputable def term_product_sk (a : Int) (b : Int) : Sk (Int) :=
 .r 1 ((bits_Mul64_k (IntKind.u64.wrap (maxI a (w64 (0 - a)))) (IntKind.u64.wrap (maxI b (w64 (0 - b))))).c) fun x1 =>
 .bind false (fun _ => True)
 (.br ((x1.1 == 0) && (decide (x1.2 < 1099511627776)))
 (.fin (.inr (w64 (x1.2))))
 (.fin (.inr 1099511627776)))
 (fun (b2 : Int) => ⟨[(7, iv b2)], []⟩) fun b2 =>
 .br (!((decide (a < 0)) == (decide (b < 0))))
 (.fin (w64 (0 - b2)))
 (.fin b2)
noncomputable def term_product (a : Int) (b : Int) : Int := (term_product_sk a b).val
theorem term_product_ok (a : Int) (b : Int) : (term_product_sk a b).obs (fun _ => True) := by
  refine Sk.obs_of _ ?_
  unfold term_product_sk
  simp only [Sk.obq, Sk.isLoop, reduceCtorEq, leafB, leafJ, Cal.z, Cal.p, Cal.t, Cal.pt, Cal.o, Cal.and, Cal.andl, Cal.andr, Cal.wh, Cal.dep, Cal.depr, Ctr.c, Ctr.nil, Ctr.nilc, CtrO.c, CtrO.nil, bits_Mul64_k, maxLen, implies_true, true_and, and_true, and_self, true_implies, false_implies, ixP, szP, mkP]

theorem term_product_fn (a : Int) (b : Int) : FnA Tryz.prog 227 [iv a, iv b] [] (iv (term_product a b)) [] :=
  FnA.sk tok mixed (fun x => iv x) (fun _ => []) Tryz.func227 rfl (by kernel_rfl) 3000 (term_product_sk a b) (by kernel_rfl) (term_product_ok a b)
noncomputable def term_product_k (a : Int) (b : Int) : Ctr (Int) := ⟨Tryz.prog, 227, [iv a, iv b], fun x => iv x, true, term_product a b, True, fun _ => term_product_fn a b, fun _ => True, trivial⟩
noncomputable def term_arithmetic_sk (op : Int) (a : Int) (b : Int) : Sk (Int) :=
 .br (op == 9)
 (.r 3 ((term_cut_k (w64 (a + b))).c) fun x1 =>
 .fin x1)
 (.br (op == 10)
 (.r 5 ((term_cut_k (w64 (a - b))).c) fun x2 =>
 .fin x2)
 (.br (op == 11)
 (.r 7 ((term_product_k a b).c) fun x3 =>
 .fin x3)
 (.br (op == 12)
 (.fin (minI a b))
 (.fin (maxI a b)))))
noncomputable def term_arithmetic (op : Int) (a : Int) (b : Int) : Int := (term_arithmetic_sk op a b).val
theorem term_arithmetic_ok (op : Int) (a : Int) (b : Int) : (term_arithmetic_sk op a b).obs (fun _ => True) := by
  refine Sk.obs_of _ ?_
  unfold term_arithmetic_sk
  simp only [Sk.obq, Sk.isLoop, reduceCtorEq, leafB, leafJ, Cal.z, Cal.p, Cal.t, Cal.pt, Cal.o, Cal.and, Cal.andl, Cal.andr, Cal.wh, Cal.dep, Cal.depr, Ctr.c, Ctr.nil, Ctr.nilc, CtrO.c, CtrO.nil, term_cut_k, term_product_k, term_cut_eq, forall_eq, maxLen, implies_true, true_and, and_true, and_self, true_implies, false_implies, ixP, szP, mkP]

theorem term_arithmetic_fn (op : Int) (a : Int) (b : Int) : FnA Tryz.prog 215 [iv op, iv a, iv b] [] (iv (term_arithmetic op a b)) [] :=
  FnA.sk tok mixed (fun x => iv x) (fun _ => []) Tryz.func215 rfl (by kernel_rfl) 3000 (term_arithmetic_sk op a b) (by kernel_rfl) (term_arithmetic_ok op a b)
noncomputable def term_arithmetic_k (op : Int) (a : Int) (b : Int) : Ctr (Int) := ⟨Tryz.prog, 215, [iv op, iv a, iv b], fun x => iv x, true, term_arithmetic op a b, True, fun _ => term_arithmetic_fn op a b, fun _ => True, trivial⟩
noncomputable def term_combine_sk (op : Int) (l : List CellX) : Sk (CellX) :=
 .bind true (fun b1 => op ≠ 3 ∧ op ≠ 6)
 (.br (op == 3)
 (.r 3 (.p (ixP (0 : Int) l.length)) fun _ =>
 .br ((l.getD 0 default).known)
 (.r 4 (.andl (.p (ixP (0 : Int) l.length)) ((term_yes_k (((l.getD 0 default).n) == 0)).c)) fun x2 =>
 .fin (.inl x2))
 (.fin (.inl ({ known := false, n := 0 } : CellX))))
 (.bind false (fun b3 => b3 = (op == 4 || op == 5))
 (.br (op == 4)
 (.fin (.inr (op == 4)))
 (.fin (.inr (op == 5))))
 (fun (b3 : Bool) => ⟨[(22, bv b3)], []⟩) fun b3 =>
 .br b3
 (.r 8 ((term_yes_k (op == 5)).c) fun x4 =>
 .r 9 (.andl (.p (ixP (0 : Int) l.length)) (.wh ((((l.getD 0 default).known) == x4.known) && ((((l.getD 0 default).n) == x4.n) && true)) false (.p (ixP (1 : Int) l.length)))) fun _ =>
 .br (((((l.getD 0 default).known) == x4.known) && ((((l.getD 0 default).n) == x4.n) && true)) || ((((l.getD 1 default).known) == x4.known) && ((((l.getD 1 default).n) == x4.n) && true)))
 (.fin (.inl x4))
 (.fin (.inr ())))
 (.br (op == 6)
 (.r 12 (.andl (.p (ixP (1 : Int) l.length)) (.andl (.wh ((l.getD 1 default).known) true (.p (ixP (1 : Int) l.length))) (.wh ((l.getD 1 default).known) true (.p (ixP (2 : Int) l.length))))) fun _ =>
 .br (((l.getD 1 default).known) && ((((l.getD 1 default).known) == ((l.getD 2 default).known)) && ((((l.getD 1 default).n) == ((l.getD 2 default).n)) && true)))
 (.r 13 (.p (ixP (1 : Int) l.length)) fun _ =>
 .fin (.inl (l.getD 1 default)))
 (.fin (.inl ({ known := false, n := 0 } : CellX))))
 (.fin (.inr ())))))
 (fun (_ : Unit) => ⟨[], []⟩) fun _ =>
 .r 15 (.andl (.p (ixP (0 : Int) l.length)) (.wh (!((l.getD 0 default).known)) false (.p (ixP (1 : Int) l.length)))) fun _ =>
 .br ((!((l.getD 0 default).known)) || (!((l.getD 1 default).known)))
 (.fin ({ known := false, n := 0 } : CellX))
 (.r 17 (.andl (.p (ixP (0 : Int) l.length)) (.p (ixP (1 : Int) l.length))) fun _ =>
 .bind false (fun _ => True)
 (.br (op == 4)
 (.fin (.inr (op == 4)))
 (.fin (.inr (op == 5))))
 (fun (b5 : Bool) => ⟨[(82, bv b5)], []⟩) fun b5 =>
 .br b5
 (.r 21 ((term_yes_k (op == 4)).c) fun x6 =>
 .fin x6)
 (.br (op == 7)
 (.r 23 ((term_yes_k (decide (((l.getD 0 default).n) < ((l.getD 1 default).n)))).c) fun x7 =>
 .fin x7)
 (.br (op == 8)
 (.r 25 ((term_yes_k (((l.getD 0 default).n) == ((l.getD 1 default).n))).c) fun x8 =>
 .fin x8)
 (.r 26 ((term_arithmetic_k op ((l.getD 0 default).n) ((l.getD 1 default).n)).c) fun x9 =>
 .fin ({ known := true, n := x9 } : CellX)))))
noncomputable def term_combine (op : Int) (l : List CellX) : CellX := (term_combine_sk op l).val
theorem term_combine_ok (op : Int) (l : List CellX) (ha : (op = 3 ∧ 1 ≤ l.length) ∨ (op = 6 ∧ 3 ≤ l.length) ∨ (op ≠ 3 ∧ op ≠ 6 ∧ 2 ≤ l.length)) : (term_combine_sk op l).obs (fun _ => True) := by
  refine Sk.obs_of _ ?_
  unfold term_combine_sk
  simp only [Sk.obq, Sk.isLoop, reduceCtorEq, leafB, leafJ, Cal.z, Cal.p, Cal.t, Cal.pt, Cal.o, Cal.and, Cal.andl, Cal.andr, Cal.wh, Cal.dep, Cal.depr, Ctr.c, Ctr.nil, Ctr.nilc, CtrO.c, CtrO.nil, term_arithmetic_k, term_yes_k, maxLen, implies_true, true_and, and_true, and_self, true_implies, false_implies, ixP, szP, mkP]
  all_goals (repeat' first | assumption | (apply And.intro) | (intro h))
  all_goals first | trivial | assumption | omega | ((try simp only [decide_eq_true_eq, decide_eq_false_iff_not, List.length_append, List.length_cons, List.length_nil, List.length_set, List.length_replicate, Bool.not_eq_true, Bool.not_eq_false, Int.not_lt, Int.not_le, Bool.and_eq_true, Bool.or_eq_true, Bool.and_eq_false_iff, Bool.or_eq_false_iff, Bool.not_eq_eq_eq_not, Bool.not_true, Bool.not_false, beq_iff_eq, bne_iff_ne, beq_eq_false_iff_ne, bne_eq_false_iff_eq, ne_eq, subL_length] at *) <;> first | omega | (refine (w64_id ?_ ?_).trans ?_ <;> omega) | (simp (disch := omega) only [w64_id] at *; omega) | (grind) | (simp_all; done) | (simp_all; omega))

theorem term_combine_fn (op : Int) (l : List CellX) (ha : (op = 3 ∧ 1 ≤ l.length) ∨ (op = 6 ∧ 3 ≤ l.length) ∨ (op ≠ 3 ∧ op ≠ 6 ∧ 2 ≤ l.length)) : FnA Tryz.prog 190 [iv op, lv CellX.cells l] [] (av (term_combine op l).cells) [] :=
  FnA.sk tok mixed (fun x => av x.cells) (fun _ => []) Tryz.func190 rfl (by kernel_rfl) 3000 (term_combine_sk op l) (by kernel_rfl) (term_combine_ok op l ha)
noncomputable def term_combine_k (op : Int) (l : List CellX) : Ctr (CellX) := ⟨Tryz.prog, 190, [iv op, lv CellX.cells l], fun x => av x.cells, true, term_combine op l, ((op = 3 ∧ 1 ≤ l.length) ∨ (op = 6 ∧ 3 ≤ l.length) ∨ (op ≠ 3 ∧ op ≠ 6 ∧ 2 ≤ l.length)), fun h => term_combine_fn op l h, fun _ => True, trivial⟩
noncomputable def slices_Grow_nil_sk (n : Int) : Sk ((List Int)) :=
 .bind false (fun _ => True)
 (.br (decide (n < 0))
 (.dead default)
 (.fin (.inr ())))
 (fun (_ : Unit) => ⟨[], []⟩) fun _ =>
 .br (decide ((w64 (n - (w64 ((0 : Int) - 0)))) > 0))
 (.r 5 (.andl (.p (0 ≤ (0 : Int) ∧ (0 : Int) ≤ 0)) (.andl (.andl (.o [.nrm (mkC intE ((w64 (n - (w64 ((0 : Int) - 0)))).toNat) (0 : Int))]) (.p (mkP (w64 (n - (w64 ((0 : Int) - 0)))) 8))) (.andl (.o [.nrm (cutC intE (List.replicate ((w64 (n - (w64 ((0 : Int) - 0)))).toNat) (0 : Int)) 0)]) (.p (0 ≤ (0 : Int) ∧ 0 ≤ (((List.replicate ((w64 (n - (w64 ((0 : Int) - 0)))).toNat) (0 : Int)).length : Nat) : Int)))))) fun _ =>
 .fin (subL (List.replicate ((w64 (n - (w64 ((0 : Int) - 0)))).toNat) (0 : Int)) 0 0))
 (.fin [])
noncomputable def slices_Grow_nil (n : Int) : (List Int) := (slices_Grow_nil_sk n).val
theorem slices_Grow_nil_pst (n : Int) : (slices_Grow_nil_sk n).pst (fun (x : (List Int)) => x = []) := by
  refine Sk.pst_of _ ?_
  unfold slices_Grow_nil_sk
  simp only [Sk.pstq, Sk.isLoop, reduceCtorEq, leafB, leafJ, Cal.z, Cal.p, Cal.t, Cal.pt, Cal.o, Cal.and, Cal.andl, Cal.andr, Cal.wh, Cal.dep, Cal.depr, Ctr.c, Ctr.nil, Ctr.nilc, CtrO.c, CtrO.nil, maxLen, implies_true, true_and, and_true, and_self, true_implies, false_implies, ixP, szP, mkP]
  all_goals (repeat' first | assumption | (apply And.intro) | (intro h))
  all_goals first | trivial | assumption | omega | ((try simp only [decide_eq_true_eq, decide_eq_false_iff_not, List.length_append, List.length_cons, List.length_nil, List.length_set, List.length_replicate, Bool.not_eq_true, Bool.not_eq_false, Int.not_lt, Int.not_le, Bool.and_eq_true, Bool.or_eq_true, Bool.and_eq_false_iff, Bool.or_eq_false_iff, Bool.not_eq_eq_eq_not, Bool.not_true, Bool.not_false, beq_iff_eq, bne_iff_ne, beq_eq_false_iff_ne, bne_eq_false_iff_eq, ne_eq, subL_length] at *) <;> first | omega | (refine (w64_id ?_ ?_).trans ?_ <;> omega) | (simp (disch := omega) only [w64_id] at *; omega) | (grind) | (simp_all; done) | (simp_all; omega))

theorem slices_Grow_nil_post (n : Int) : (fun (x : (List Int)) => x = []) (slices_Grow_nil n) := Sk.pval _ (slices_Grow_nil_pst n)
theorem slices_Grow_nil_ok (n : Int) (hn : 0 ≤ n ∧ n ≤ 1000000000) : (slices_Grow_nil_sk n).obs (fun _ => True) := by
  refine Sk.obs_of _ ?_
  unfold slices_Grow_nil_sk
  simp only [Sk.obq, Sk.isLoop, reduceCtorEq, leafB, leafJ, Cal.z, Cal.p, Cal.t, Cal.pt, Cal.o, Cal.and, Cal.andl, Cal.andr, Cal.wh, Cal.dep, Cal.depr, Ctr.c, Ctr.nil, Ctr.nilc, CtrO.c, CtrO.nil, maxLen, implies_true, true_and, and_true, and_self, true_implies, false_implies, ixP, szP, mkP]
  all_goals (repeat' first | assumption | (apply And.intro) | (intro h))
  all_goals first | trivial | assumption | omega | ((try simp only [decide_eq_true_eq, decide_eq_false_iff_not, List.length_append, List.length_cons, List.length_nil, List.length_set, List.length_replicate, Bool.not_eq_true, Bool.not_eq_false, Int.not_lt, Int.not_le, Bool.and_eq_true, Bool.or_eq_true, Bool.and_eq_false_iff, Bool.or_eq_false_iff, Bool.not_eq_eq_eq_not, Bool.not_true, Bool.not_false, beq_iff_eq, bne_iff_ne, beq_eq_false_iff_ne, bne_eq_false_iff_eq, ne_eq, subL_length] at *) <;> first | omega | (refine (w64_id ?_ ?_).trans ?_ <;> omega) | (simp (disch := omega) only [w64_id] at *; omega) | (grind) | (simp_all; done) | (simp_all; omega))

theorem slices_Grow_nil_fn (n : Int) (hn : 0 ≤ n ∧ n ≤ 1000000000) : FnA Tryz.prog 216 [nv, iv n] [] (lv intC (slices_Grow_nil n)) [] :=
  FnA.sk tok mixed (fun x => lv intC x) (fun _ => []) Tryz.func216 rfl (by kernel_rfl) 3000 (slices_Grow_nil_sk n) (by kernel_rfl) (slices_Grow_nil_ok n hn)
noncomputable def slices_Grow_nil_k (n : Int) : Ctr ((List Int)) := ⟨Tryz.prog, 216, [nv, iv n], fun x => lv intC x, false, slices_Grow_nil n, (0 ≤ n ∧ n ≤ 1000000000), fun h => slices_Grow_nil_fn n h, fun (x : (List Int)) => x = [], slices_Grow_nil_post n⟩
theorem slices_Grow_nil_fnO (n : Int) (hn : 0 ≤ n ∧ n ≤ 1000000000) : FnA Tryz.prog 216 [nv, iv n] [] (ow 777777 (slices_Grow_nil n)) [(777777, rowB 3 1 intC (slices_Grow_nil n))] :=
  FnA.sk tok mixed (fun x => ow 777777 x) (fun x => [(777777, rowB 3 1 intC x)]) Tryz.func216 rfl (by kernel_rfl) 3000 (slices_Grow_nil_sk n) (by kernel_rfl) (slices_Grow_nil_ok n hn)
noncomputable def slices_Grow_nil_ko (κ : Nat) (n : Int) : CtrO ((List Int)) := ⟨Tryz.prog, 216, [nv, iv n], fun x => ow κ x, fun x => [(κ, rowB 3 1 intC x)], slices_Grow_nil n, (0 ≤ n ∧ n ≤ 1000000000), fun h => FnA.rekey κ (slices_Grow_nil_fnO n h), fun (x : (List Int)) => x = [], slices_Grow_nil_post n⟩
end Go.Proofs.YtggilgghigileaaGreatDoor
