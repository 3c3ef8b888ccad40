/- Functions, as sketches. -/
import Derived.Test.YtggilgghigileaaGreatDoorRk12
namespace Go.Proofs.YtggilgghigileaaGreatDoor
open Go Go.Av
set_option linter.unusedSimpArgs false
set_option linter.unusedVariables false
set_option maxHeartbeats 1000000
set_option maxRecDepth 100000
noncomputable def allongeref14_With_sk (f : File) (x_ : Fact) : Sk (File) :=
 .r 1 ((allongeref14_Fact_k f x_.kind x_.at_).c) fun x1 =>
 .br x1.known
 (.fin f)
 (.bind true (fun b2 => b2.length ≤ 0 + f.facts.length)
 (.loop (default : Sum (File) ((List Fact))) (fun i3 => i3.2 ≤ f.facts.length ∧ i3.1.length ≤ 0 + i3.2) (fun i3 => f.facts.length - i3.2) (([], 0) : (List Fact) × Nat)
 (fun (i3 : (List Fact) × Nat) => ⟨[(5, ow 100002 i3.1), (6, iv ((i3.2 : Nat) : Int))], [(100002, rowB 80 3 Fact.cells i3.1)]⟩) fun i3 =>
 .bnd 2 18 f.facts.length <|
 .br (decide (((i3.2 : Nat) : Int) < ((f.facts.length : Nat) : Int)))
 (.r 7 (.p (ixP ((i3.2 : Nat) : Int) f.facts.length)) fun _ =>
 .br ((decide (((f.facts.getD i3.2 default).at_) < x_.at_)) || ((((f.facts.getD i3.2 default).at_) == x_.at_) && (decide (((f.facts.getD i3.2 default).kind) < x_.kind))))
 (.r 9 (.andl (.o [.nrm (litC Fact.E [f.facts.getD i3.2 default])]) (.andl (.o [.nrm (catC Fact.E i3.1 [f.facts.getD i3.2 default])]) (.andl (.t (Fact.E.ones [f.facts.getD i3.2 default])) (.p (szP i3.1.length [f.facts.getD i3.2 default].length 24))))) fun _ =>
 .r 6 .z fun _ =>
 .wi 6 (w64 (((i3.2 : Nat) : Int) + 1)) ((i3.2 + 1 : Nat) : Int) <|
 .fin (.inr (i3.1 ++ [f.facts.getD i3.2 default], i3.2 + 1)))
 (.r 6 .z fun _ =>
 .wi 6 (w64 (((i3.2 : Nat) : Int) + 1)) ((i3.2 + 1 : Nat) : Int) <|
 .fin (.inr (i3.1, i3.2 + 1))))
 (.fin (.inl (.inr i3.1))))
 (fun (b2 : (List Fact)) => ⟨[(5, ow 100001 b2)], [(100001, rowB 80 3 Fact.cells b2)]⟩) fun b2 =>
 .r 10 (.andl (.o [.nrm (litC Fact.E [x_])]) (.andl (.o [.nrm (catC Fact.E b2 [x_])]) (.andl (.t (Fact.E.ones [x_])) (.p (szP b2.length [x_].length 24))))) fun _ =>
 .bind true (fun b4 => b4.length ≤ (b2 ++ [x_]).length + f.facts.length)
 (.loop (default : Sum (File) ((List Fact))) (fun i5 => i5.2 ≤ f.facts.length ∧ i5.1.length ≤ (b2 ++ [x_]).length + i5.2) (fun i5 => f.facts.length - i5.2) ((b2 ++ [x_], 0) : (List Fact) × Nat)
 (fun (i5 : (List Fact) × Nat) => ⟨[(5, ow 100005 i5.1), (8, iv ((i5.2 : Nat) : Int))], [(100005, rowB 80 3 Fact.cells i5.1)]⟩) fun i5 =>
 .bnd 2 18 f.facts.length <|
 .br (decide (((i5.2 : Nat) : Int) < ((f.facts.length : Nat) : Int)))
 (.r 14 (.p (ixP ((i5.2 : Nat) : Int) f.facts.length)) fun _ =>
 .br ((decide (((f.facts.getD i5.2 default).at_) > x_.at_)) || ((((f.facts.getD i5.2 default).at_) == x_.at_) && (decide (((f.facts.getD i5.2 default).kind) > x_.kind))))
 (.r 16 (.andl (.o [.nrm (litC Fact.E [f.facts.getD i5.2 default])]) (.andl (.o [.nrm (catC Fact.E i5.1 [f.facts.getD i5.2 default])]) (.andl (.t (Fact.E.ones [f.facts.getD i5.2 default])) (.p (szP i5.1.length [f.facts.getD i5.2 default].length 24))))) fun _ =>
 .r 13 .z fun _ =>
 .wi 8 (w64 (((i5.2 : Nat) : Int) + 1)) ((i5.2 + 1 : Nat) : Int) <|
 .fin (.inr (i5.1 ++ [f.facts.getD i5.2 default], i5.2 + 1)))
 (.r 13 .z fun _ =>
 .wi 8 (w64 (((i5.2 : Nat) : Int) + 1)) ((i5.2 + 1 : Nat) : Int) <|
 .fin (.inr (i5.1, i5.2 + 1))))
 (.fin (.inl (.inr i5.1))))
 (fun (b4 : (List Fact)) => ⟨[(5, ow 100004 b4)], [(100004, rowB 80 3 Fact.cells b4)]⟩) fun b4 =>
 .fin ({ f with facts := b4 }))
noncomputable def allongeref14_With (f : File) (x_ : Fact) : File := (allongeref14_With_sk f x_).val
theorem allongeref14_With_ok (f : File) (x_ : Fact) (hf : f.facts.length ≤ 1000000) : (allongeref14_With_sk f x_).obs (fun _ => True) := by
  refine Sk.obs_of _ ?_
  unfold allongeref14_With_sk
  simp only [Sk.obq, Sk.isLoop, reduceCtorEq, leafB, leafJ, Cal.z, Cal.p, Cal.t, Cal.pt, Cal.o, Cal.and, Cal.andl, Cal.andr, Cal.wh, Cal.dep, Cal.depr, Ctr.c, Ctr.nil, Ctr.nilc, CtrO.c, CtrO.nil, allongeref14_Fact_k, maxLen, implies_true, true_and, and_true, and_self, true_implies, false_implies, ixP, szP, mkP]
  all_goals (repeat' first | assumption | (apply And.intro) | (intro h))
  all_goals first | trivial | assumption | omega | ((try simp only [decide_eq_true_eq, decide_eq_false_iff_not, List.length_append, List.length_cons, List.length_nil, List.length_set, List.length_replicate, Bool.not_eq_true, Bool.not_eq_false, Int.not_lt, Int.not_le, Bool.and_eq_true, Bool.or_eq_true, Bool.and_eq_false_iff, Bool.or_eq_false_iff, Bool.not_eq_eq_eq_not, Bool.not_true, Bool.not_false, beq_iff_eq, bne_iff_ne, beq_eq_false_iff_ne, bne_eq_false_iff_eq, ne_eq, subL_length] at *) <;> first | omega | (refine (w64_id ?_ ?_).trans ?_ <;> omega) | (simp (disch := omega) only [w64_id] at *; omega) | (grind) | (simp_all; done) | (simp_all; omega))

theorem allongeref14_With_fn (f : File) (x_ : Fact) (hf : f.facts.length ≤ 1000000) : FnA Tryz.prog 32 [av f.cells, av x_.cells] [] (av (allongeref14_With f x_).cells) [] :=
  FnA.sk tok mixed (fun x => av x.cells) (fun _ => []) Tryz.func32 rfl (by kernel_rfl) 3000 (allongeref14_With_sk f x_) (by kernel_rfl) (allongeref14_With_ok f x_ hf)
noncomputable def allongeref14_With_k (f : File) (x_ : Fact) : Ctr (File) := ⟨Tryz.prog, 32, [av f.cells, av x_.cells], fun x => av x.cells, false, allongeref14_With f x_, (f.facts.length ≤ 1000000), fun h => allongeref14_With_fn f x_ h, fun _ => True, trivial⟩
end Go.Proofs.YtggilgghigileaaGreatDoor
