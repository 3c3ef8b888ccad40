/- Functions, as sketches. -/
import Derived.Test.YtilbddpghnnmhaaGreatDoorSrT
namespace Go.Proofs.YtilbddpghnnmhaaGreatDoor
open Go Go.Av
set_option linter.unusedSimpArgs false
set_option linter.unusedVariables false
set_option maxHeartbeats 1000000
set_option maxRecDepth 100000
structure Suit where
  forum : Int
  plaintiff : Int
  defendant : Int
  file : Int
  sign : Int
  day : Int
  kind : Int
  deriving Inhabited
def Suit.cells (c : Suit) : List D := [dI c.forum, dI c.plaintiff, dI c.defendant, dI c.file, dI c.sign, dI c.day, dI c.kind]
def Suit.E : Enc Suit := ⟨Suit.cells, 7, fun _ => rfl, fun _ => rfl⟩
structure Move where
  kind : Int
  suit : Int
  day : Int
  no : Int
  deriving Inhabited
def Move.cells (c : Move) : List D := [dI c.kind, dI c.suit, dI c.day, dI c.no]
def Move.E : Enc Move := ⟨Move.cells, 4, fun _ => rfl, fun _ => rfl⟩
noncomputable def suit_in_sk (n : Int) (limit : Int) : Sk (Bool) :=
 .fin ((decide (n ≥ 0)) && (decide (n < limit)))
noncomputable def suit_in (n : Int) (limit : Int) : Bool := (suit_in_sk n limit).val
theorem suit_in_eq (n : Int) (limit : Int) : suit_in n limit = ((decide (n ≥ 0)) && (decide (n < limit))) := rfl
theorem suit_in_ok (n : Int) (limit : Int) : (suit_in_sk n limit).obs (fun _ => True) := by
  unfold suit_in_sk
  exact okE

noncomputable def suit_in_k (n : Int) (limit : Int) : Ctr (Bool) := kk tok mixed Tryz.func19 [iv n, iv limit] (fun x => bv x) true (suit_in_sk n limit) (suit_in n limit) (fun (_ : True) => suit_in_ok n limit)
noncomputable def suit_next_c0_sk (stage : Int) : Sk (Int × Bool) :=
 .r 1 (.andl (.o [.nrmm (mkM dI)]) (.andl (.o [.nrmm (insL dI ([] : List (Int × Int)) (0 : Int) 1)]) (.andl (.o [.nrmm (mkM dI)]) (.andl (.o [.nrmm (insL dI ([] : List (Int × Int)) (1 : Int) 1)]) (.andl (.o [.nrmm (insL dI (([] : List (Int × Int)) ++ [(1, 1)]) (2 : Int) 2)]) (.andl (.o [.nrmm (insL dI ((([] : List (Int × Int)) ++ [(1, 1)]) ++ [(2, 2)]) (4 : Int) 4)]) (.andl (.o [.nrmm (mkM dI)]) (.andl (.o [.nrmm (insL dI ([] : List (Int × Int)) (1 : Int) 2)]) (.andl (.o [.nrmm (mkM dI)]) (.andl (.o [.nrmm (insL dI ([] : List (Int × Int)) (2 : Int) 1)]) (.andl (.o [.nrmm (mkM dI)]) (.andl (.o [.nrmm (insL dI ([] : List (Int × Int)) (1 : Int) 3)]) (.andl (.o [.nrmm (insL dI (([] : List (Int × Int)) ++ [(1, 3)]) (4 : Int) 3)]) (.andl (.o [.nrmm (mkM dI)]) (.andl (.o [.nrmm (insL dI ([] : List (Int × Int)) (3 : Int) 4)]) (.andl (.o [.nrmm (mkM dI)]) (.andl (.o [.nrmm (insL dI ([] : List (Int × Int)) (1 : Int) 5)]) (.andl (.o [.nrmm (insL dI (([] : List (Int × Int)) ++ [(1, 5)]) (2 : Int) 5)]) (.andl (.o [.nrmm (insL dI ((([] : List (Int × Int)) ++ [(1, 5)]) ++ [(2, 5)]) (3 : Int) 5)]) (.o [.nrmm (insL dI (((([] : List (Int × Int)) ++ [(1, 5)]) ++ [(2, 5)]) ++ [(3, 5)]) (4 : Int) 5)])))))))))))))))))))) fun _ =>
 .r 2 (.andl (.p (0 ≤ (0 : Int) ∧ (0 : Int) < ((7 : Nat) : Int))) (.andl (.t (keysM dI (([] : List (Int × Int)) ++ [(0, 1)]))) (.o [.cast 29 (getM2 dI (([] : List (Int × Int)) ++ [(0, 1)]) stage (0 : Int))]))) fun _ =>
 .fin (mget (([] : List (Int × Int)) ++ [(0, 1)]) stage (0 : Int), mhas (([] : List (Int × Int)) ++ [(0, 1)]) stage)
noncomputable def suit_next_c0 (stage : Int) : Int × Bool := (suit_next_c0_sk stage).val
theorem suit_next_c0_ok (stage : Int) : (suit_next_c0_sk stage).obs (fun _ => True) := by
  unfold suit_next_c0_sk
  exact okD

noncomputable def suit_next_c0_k (stage : Int) : Ctr (Int × Bool) := kk tok mixed Tryz.func20 [iv 0, iv stage] (fun x => .tup [iv x.1, bv x.2]) true (suit_next_c0_sk stage) (suit_next_c0 stage) (fun (_ : True) => suit_next_c0_ok stage)
noncomputable def suit_next_c1_sk (stage : Int) : Sk (Int × Bool) :=
 .r 1 (.andl (.o [.nrmm (mkM dI)]) (.andl (.o [.nrmm (insL dI ([] : List (Int × Int)) (0 : Int) 1)]) (.andl (.o [.nrmm (mkM dI)]) (.andl (.o [.nrmm (insL dI ([] : List (Int × Int)) (1 : Int) 1)]) (.andl (.o [.nrmm (insL dI (([] : List (Int × Int)) ++ [(1, 1)]) (2 : Int) 2)]) (.andl (.o [.nrmm (insL dI ((([] : List (Int × Int)) ++ [(1, 1)]) ++ [(2, 2)]) (4 : Int) 4)]) (.andl (.o [.nrmm (mkM dI)]) (.andl (.o [.nrmm (insL dI ([] : List (Int × Int)) (1 : Int) 2)]) (.andl (.o [.nrmm (mkM dI)]) (.andl (.o [.nrmm (insL dI ([] : List (Int × Int)) (2 : Int) 1)]) (.andl (.o [.nrmm (mkM dI)]) (.andl (.o [.nrmm (insL dI ([] : List (Int × Int)) (1 : Int) 3)]) (.andl (.o [.nrmm (insL dI (([] : List (Int × Int)) ++ [(1, 3)]) (4 : Int) 3)]) (.andl (.o [.nrmm (mkM dI)]) (.andl (.o [.nrmm (insL dI ([] : List (Int × Int)) (3 : Int) 4)]) (.andl (.o [.nrmm (mkM dI)]) (.andl (.o [.nrmm (insL dI ([] : List (Int × Int)) (1 : Int) 5)]) (.andl (.o [.nrmm (insL dI (([] : List (Int × Int)) ++ [(1, 5)]) (2 : Int) 5)]) (.andl (.o [.nrmm (insL dI ((([] : List (Int × Int)) ++ [(1, 5)]) ++ [(2, 5)]) (3 : Int) 5)]) (.o [.nrmm (insL dI (((([] : List (Int × Int)) ++ [(1, 5)]) ++ [(2, 5)]) ++ [(3, 5)]) (4 : Int) 5)])))))))))))))))))))) fun _ =>
 .r 2 (.andl (.p (0 ≤ (1 : Int) ∧ (1 : Int) < ((7 : Nat) : Int))) (.andl (.t (keysM dI (((([] : List (Int × Int)) ++ [(1, 1)]) ++ [(2, 2)]) ++ [(4, 4)]))) (.o [.cast 29 (getM2 dI (((([] : List (Int × Int)) ++ [(1, 1)]) ++ [(2, 2)]) ++ [(4, 4)]) stage (0 : Int))]))) fun _ =>
 .fin (mget (((([] : List (Int × Int)) ++ [(1, 1)]) ++ [(2, 2)]) ++ [(4, 4)]) stage (0 : Int), mhas (((([] : List (Int × Int)) ++ [(1, 1)]) ++ [(2, 2)]) ++ [(4, 4)]) stage)
noncomputable def suit_next_c1 (stage : Int) : Int × Bool := (suit_next_c1_sk stage).val
theorem suit_next_c1_ok (stage : Int) : (suit_next_c1_sk stage).obs (fun _ => True) := by
  unfold suit_next_c1_sk
  exact okD

noncomputable def suit_next_c1_k (stage : Int) : Ctr (Int × Bool) := kk tok mixed Tryz.func20 [iv 1, iv stage] (fun x => .tup [iv x.1, bv x.2]) true (suit_next_c1_sk stage) (suit_next_c1 stage) (fun (_ : True) => suit_next_c1_ok stage)
noncomputable def suit_next_c2_sk (stage : Int) : Sk (Int × Bool) :=
 .r 1 (.andl (.o [.nrmm (mkM dI)]) (.andl (.o [.nrmm (insL dI ([] : List (Int × Int)) (0 : Int) 1)]) (.andl (.o [.nrmm (mkM dI)]) (.andl (.o [.nrmm (insL dI ([] : List (Int × Int)) (1 : Int) 1)]) (.andl (.o [.nrmm (insL dI (([] : List (Int × Int)) ++ [(1, 1)]) (2 : Int) 2)]) (.andl (.o [.nrmm (insL dI ((([] : List (Int × Int)) ++ [(1, 1)]) ++ [(2, 2)]) (4 : Int) 4)]) (.andl (.o [.nrmm (mkM dI)]) (.andl (.o [.nrmm (insL dI ([] : List (Int × Int)) (1 : Int) 2)]) (.andl (.o [.nrmm (mkM dI)]) (.andl (.o [.nrmm (insL dI ([] : List (Int × Int)) (2 : Int) 1)]) (.andl (.o [.nrmm (mkM dI)]) (.andl (.o [.nrmm (insL dI ([] : List (Int × Int)) (1 : Int) 3)]) (.andl (.o [.nrmm (insL dI (([] : List (Int × Int)) ++ [(1, 3)]) (4 : Int) 3)]) (.andl (.o [.nrmm (mkM dI)]) (.andl (.o [.nrmm (insL dI ([] : List (Int × Int)) (3 : Int) 4)]) (.andl (.o [.nrmm (mkM dI)]) (.andl (.o [.nrmm (insL dI ([] : List (Int × Int)) (1 : Int) 5)]) (.andl (.o [.nrmm (insL dI (([] : List (Int × Int)) ++ [(1, 5)]) (2 : Int) 5)]) (.andl (.o [.nrmm (insL dI ((([] : List (Int × Int)) ++ [(1, 5)]) ++ [(2, 5)]) (3 : Int) 5)]) (.o [.nrmm (insL dI (((([] : List (Int × Int)) ++ [(1, 5)]) ++ [(2, 5)]) ++ [(3, 5)]) (4 : Int) 5)])))))))))))))))))))) fun _ =>
 .r 2 (.andl (.p (0 ≤ (2 : Int) ∧ (2 : Int) < ((7 : Nat) : Int))) (.andl (.t (keysM dI (([] : List (Int × Int)) ++ [(1, 2)]))) (.o [.cast 29 (getM2 dI (([] : List (Int × Int)) ++ [(1, 2)]) stage (0 : Int))]))) fun _ =>
 .fin (mget (([] : List (Int × Int)) ++ [(1, 2)]) stage (0 : Int), mhas (([] : List (Int × Int)) ++ [(1, 2)]) stage)
noncomputable def suit_next_c2 (stage : Int) : Int × Bool := (suit_next_c2_sk stage).val
theorem suit_next_c2_ok (stage : Int) : (suit_next_c2_sk stage).obs (fun _ => True) := by
  unfold suit_next_c2_sk
  exact okD

noncomputable def suit_next_c2_k (stage : Int) : Ctr (Int × Bool) := kk tok mixed Tryz.func20 [iv 2, iv stage] (fun x => .tup [iv x.1, bv x.2]) true (suit_next_c2_sk stage) (suit_next_c2 stage) (fun (_ : True) => suit_next_c2_ok stage)
noncomputable def suit_next_c3_sk (stage : Int) : Sk (Int × Bool) :=
 .r 1 (.andl (.o [.nrmm (mkM dI)]) (.andl (.o [.nrmm (insL dI ([] : List (Int × Int)) (0 : Int) 1)]) (.andl (.o [.nrmm (mkM dI)]) (.andl (.o [.nrmm (insL dI ([] : List (Int × Int)) (1 : Int) 1)]) (.andl (.o [.nrmm (insL dI (([] : List (Int × Int)) ++ [(1, 1)]) (2 : Int) 2)]) (.andl (.o [.nrmm (insL dI ((([] : List (Int × Int)) ++ [(1, 1)]) ++ [(2, 2)]) (4 : Int) 4)]) (.andl (.o [.nrmm (mkM dI)]) (.andl (.o [.nrmm (insL dI ([] : List (Int × Int)) (1 : Int) 2)]) (.andl (.o [.nrmm (mkM dI)]) (.andl (.o [.nrmm (insL dI ([] : List (Int × Int)) (2 : Int) 1)]) (.andl (.o [.nrmm (mkM dI)]) (.andl (.o [.nrmm (insL dI ([] : List (Int × Int)) (1 : Int) 3)]) (.andl (.o [.nrmm (insL dI (([] : List (Int × Int)) ++ [(1, 3)]) (4 : Int) 3)]) (.andl (.o [.nrmm (mkM dI)]) (.andl (.o [.nrmm (insL dI ([] : List (Int × Int)) (3 : Int) 4)]) (.andl (.o [.nrmm (mkM dI)]) (.andl (.o [.nrmm (insL dI ([] : List (Int × Int)) (1 : Int) 5)]) (.andl (.o [.nrmm (insL dI (([] : List (Int × Int)) ++ [(1, 5)]) (2 : Int) 5)]) (.andl (.o [.nrmm (insL dI ((([] : List (Int × Int)) ++ [(1, 5)]) ++ [(2, 5)]) (3 : Int) 5)]) (.o [.nrmm (insL dI (((([] : List (Int × Int)) ++ [(1, 5)]) ++ [(2, 5)]) ++ [(3, 5)]) (4 : Int) 5)])))))))))))))))))))) fun _ =>
 .r 2 (.andl (.p (0 ≤ (3 : Int) ∧ (3 : Int) < ((7 : Nat) : Int))) (.andl (.t (keysM dI (([] : List (Int × Int)) ++ [(2, 1)]))) (.o [.cast 29 (getM2 dI (([] : List (Int × Int)) ++ [(2, 1)]) stage (0 : Int))]))) fun _ =>
 .fin (mget (([] : List (Int × Int)) ++ [(2, 1)]) stage (0 : Int), mhas (([] : List (Int × Int)) ++ [(2, 1)]) stage)
noncomputable def suit_next_c3 (stage : Int) : Int × Bool := (suit_next_c3_sk stage).val
theorem suit_next_c3_ok (stage : Int) : (suit_next_c3_sk stage).obs (fun _ => True) := by
  unfold suit_next_c3_sk
  exact okD

noncomputable def suit_next_c3_k (stage : Int) : Ctr (Int × Bool) := kk tok mixed Tryz.func20 [iv 3, iv stage] (fun x => .tup [iv x.1, bv x.2]) true (suit_next_c3_sk stage) (suit_next_c3 stage) (fun (_ : True) => suit_next_c3_ok stage)
noncomputable def suit_next_c4_sk (stage : Int) : Sk (Int × Bool) :=
 .r 1 (.andl (.o [.nrmm (mkM dI)]) (.andl (.o [.nrmm (insL dI ([] : List (Int × Int)) (0 : Int) 1)]) (.andl (.o [.nrmm (mkM dI)]) (.andl (.o [.nrmm (insL dI ([] : List (Int × Int)) (1 : Int) 1)]) (.andl (.o [.nrmm (insL dI (([] : List (Int × Int)) ++ [(1, 1)]) (2 : Int) 2)]) (.andl (.o [.nrmm (insL dI ((([] : List (Int × Int)) ++ [(1, 1)]) ++ [(2, 2)]) (4 : Int) 4)]) (.andl (.o [.nrmm (mkM dI)]) (.andl (.o [.nrmm (insL dI ([] : List (Int × Int)) (1 : Int) 2)]) (.andl (.o [.nrmm (mkM dI)]) (.andl (.o [.nrmm (insL dI ([] : List (Int × Int)) (2 : Int) 1)]) (.andl (.o [.nrmm (mkM dI)]) (.andl (.o [.nrmm (insL dI ([] : List (Int × Int)) (1 : Int) 3)]) (.andl (.o [.nrmm (insL dI (([] : List (Int × Int)) ++ [(1, 3)]) (4 : Int) 3)]) (.andl (.o [.nrmm (mkM dI)]) (.andl (.o [.nrmm (insL dI ([] : List (Int × Int)) (3 : Int) 4)]) (.andl (.o [.nrmm (mkM dI)]) (.andl (.o [.nrmm (insL dI ([] : List (Int × Int)) (1 : Int) 5)]) (.andl (.o [.nrmm (insL dI (([] : List (Int × Int)) ++ [(1, 5)]) (2 : Int) 5)]) (.andl (.o [.nrmm (insL dI ((([] : List (Int × Int)) ++ [(1, 5)]) ++ [(2, 5)]) (3 : Int) 5)]) (.o [.nrmm (insL dI (((([] : List (Int × Int)) ++ [(1, 5)]) ++ [(2, 5)]) ++ [(3, 5)]) (4 : Int) 5)])))))))))))))))))))) fun _ =>
 .r 2 (.andl (.p (0 ≤ (4 : Int) ∧ (4 : Int) < ((7 : Nat) : Int))) (.andl (.t (keysM dI ((([] : List (Int × Int)) ++ [(1, 3)]) ++ [(4, 3)]))) (.o [.cast 29 (getM2 dI ((([] : List (Int × Int)) ++ [(1, 3)]) ++ [(4, 3)]) stage (0 : Int))]))) fun _ =>
 .fin (mget ((([] : List (Int × Int)) ++ [(1, 3)]) ++ [(4, 3)]) stage (0 : Int), mhas ((([] : List (Int × Int)) ++ [(1, 3)]) ++ [(4, 3)]) stage)
noncomputable def suit_next_c4 (stage : Int) : Int × Bool := (suit_next_c4_sk stage).val
theorem suit_next_c4_ok (stage : Int) : (suit_next_c4_sk stage).obs (fun _ => True) := by
  unfold suit_next_c4_sk
  exact okD

noncomputable def suit_next_c4_k (stage : Int) : Ctr (Int × Bool) := kk tok mixed Tryz.func20 [iv 4, iv stage] (fun x => .tup [iv x.1, bv x.2]) true (suit_next_c4_sk stage) (suit_next_c4 stage) (fun (_ : True) => suit_next_c4_ok stage)
noncomputable def suit_next_c5_sk (stage : Int) : Sk (Int × Bool) :=
 .r 1 (.andl (.o [.nrmm (mkM dI)]) (.andl (.o [.nrmm (insL dI ([] : List (Int × Int)) (0 : Int) 1)]) (.andl (.o [.nrmm (mkM dI)]) (.andl (.o [.nrmm (insL dI ([] : List (Int × Int)) (1 : Int) 1)]) (.andl (.o [.nrmm (insL dI (([] : List (Int × Int)) ++ [(1, 1)]) (2 : Int) 2)]) (.andl (.o [.nrmm (insL dI ((([] : List (Int × Int)) ++ [(1, 1)]) ++ [(2, 2)]) (4 : Int) 4)]) (.andl (.o [.nrmm (mkM dI)]) (.andl (.o [.nrmm (insL dI ([] : List (Int × Int)) (1 : Int) 2)]) (.andl (.o [.nrmm (mkM dI)]) (.andl (.o [.nrmm (insL dI ([] : List (Int × Int)) (2 : Int) 1)]) (.andl (.o [.nrmm (mkM dI)]) (.andl (.o [.nrmm (insL dI ([] : List (Int × Int)) (1 : Int) 3)]) (.andl (.o [.nrmm (insL dI (([] : List (Int × Int)) ++ [(1, 3)]) (4 : Int) 3)]) (.andl (.o [.nrmm (mkM dI)]) (.andl (.o [.nrmm (insL dI ([] : List (Int × Int)) (3 : Int) 4)]) (.andl (.o [.nrmm (mkM dI)]) (.andl (.o [.nrmm (insL dI ([] : List (Int × Int)) (1 : Int) 5)]) (.andl (.o [.nrmm (insL dI (([] : List (Int × Int)) ++ [(1, 5)]) (2 : Int) 5)]) (.andl (.o [.nrmm (insL dI ((([] : List (Int × Int)) ++ [(1, 5)]) ++ [(2, 5)]) (3 : Int) 5)]) (.o [.nrmm (insL dI (((([] : List (Int × Int)) ++ [(1, 5)]) ++ [(2, 5)]) ++ [(3, 5)]) (4 : Int) 5)])))))))))))))))))))) fun _ =>
 .r 2 (.andl (.p (0 ≤ (5 : Int) ∧ (5 : Int) < ((7 : Nat) : Int))) (.andl (.t (keysM dI (([] : List (Int × Int)) ++ [(3, 4)]))) (.o [.cast 29 (getM2 dI (([] : List (Int × Int)) ++ [(3, 4)]) stage (0 : Int))]))) fun _ =>
 .fin (mget (([] : List (Int × Int)) ++ [(3, 4)]) stage (0 : Int), mhas (([] : List (Int × Int)) ++ [(3, 4)]) stage)
noncomputable def suit_next_c5 (stage : Int) : Int × Bool := (suit_next_c5_sk stage).val
theorem suit_next_c5_ok (stage : Int) : (suit_next_c5_sk stage).obs (fun _ => True) := by
  unfold suit_next_c5_sk
  exact okD

noncomputable def suit_next_c5_k (stage : Int) : Ctr (Int × Bool) := kk tok mixed Tryz.func20 [iv 5, iv stage] (fun x => .tup [iv x.1, bv x.2]) true (suit_next_c5_sk stage) (suit_next_c5 stage) (fun (_ : True) => suit_next_c5_ok stage)
noncomputable def suit_next_c6_sk (stage : Int) : Sk (Int × Bool) :=
 .r 1 (.andl (.o [.nrmm (mkM dI)]) (.andl (.o [.nrmm (insL dI ([] : List (Int × Int)) (0 : Int) 1)]) (.andl (.o [.nrmm (mkM dI)]) (.andl (.o [.nrmm (insL dI ([] : List (Int × Int)) (1 : Int) 1)]) (.andl (.o [.nrmm (insL dI (([] : List (Int × Int)) ++ [(1, 1)]) (2 : Int) 2)]) (.andl (.o [.nrmm (insL dI ((([] : List (Int × Int)) ++ [(1, 1)]) ++ [(2, 2)]) (4 : Int) 4)]) (.andl (.o [.nrmm (mkM dI)]) (.andl (.o [.nrmm (insL dI ([] : List (Int × Int)) (1 : Int) 2)]) (.andl (.o [.nrmm (mkM dI)]) (.andl (.o [.nrmm (insL dI ([] : List (Int × Int)) (2 : Int) 1)]) (.andl (.o [.nrmm (mkM dI)]) (.andl (.o [.nrmm (insL dI ([] : List (Int × Int)) (1 : Int) 3)]) (.andl (.o [.nrmm (insL dI (([] : List (Int × Int)) ++ [(1, 3)]) (4 : Int) 3)]) (.andl (.o [.nrmm (mkM dI)]) (.andl (.o [.nrmm (insL dI ([] : List (Int × Int)) (3 : Int) 4)]) (.andl (.o [.nrmm (mkM dI)]) (.andl (.o [.nrmm (insL dI ([] : List (Int × Int)) (1 : Int) 5)]) (.andl (.o [.nrmm (insL dI (([] : List (Int × Int)) ++ [(1, 5)]) (2 : Int) 5)]) (.andl (.o [.nrmm (insL dI ((([] : List (Int × Int)) ++ [(1, 5)]) ++ [(2, 5)]) (3 : Int) 5)]) (.o [.nrmm (insL dI (((([] : List (Int × Int)) ++ [(1, 5)]) ++ [(2, 5)]) ++ [(3, 5)]) (4 : Int) 5)])))))))))))))))))))) fun _ =>
 .r 2 (.andl (.p (0 ≤ (6 : Int) ∧ (6 : Int) < ((7 : Nat) : Int))) (.andl (.t (keysM dI ((((([] : List (Int × Int)) ++ [(1, 5)]) ++ [(2, 5)]) ++ [(3, 5)]) ++ [(4, 5)]))) (.o [.cast 29 (getM2 dI ((((([] : List (Int × Int)) ++ [(1, 5)]) ++ [(2, 5)]) ++ [(3, 5)]) ++ [(4, 5)]) stage (0 : Int))]))) fun _ =>
 .fin (mget ((((([] : List (Int × Int)) ++ [(1, 5)]) ++ [(2, 5)]) ++ [(3, 5)]) ++ [(4, 5)]) stage (0 : Int), mhas ((((([] : List (Int × Int)) ++ [(1, 5)]) ++ [(2, 5)]) ++ [(3, 5)]) ++ [(4, 5)]) stage)
noncomputable def suit_next_c6 (stage : Int) : Int × Bool := (suit_next_c6_sk stage).val
theorem suit_next_c6_ok (stage : Int) : (suit_next_c6_sk stage).obs (fun _ => True) := by
  unfold suit_next_c6_sk
  exact okD

noncomputable def suit_next_c6_k (stage : Int) : Ctr (Int × Bool) := kk tok mixed Tryz.func20 [iv 6, iv stage] (fun x => .tup [iv x.1, bv x.2]) true (suit_next_c6_sk stage) (suit_next_c6 stage) (fun (_ : True) => suit_next_c6_ok stage)
noncomputable def suit_next (kind : Int) (stage : Int) : Int × Bool := match kind.toNat with
  | 0 => suit_next_c0 stage
  | 1 => suit_next_c1 stage
  | 2 => suit_next_c2 stage
  | 3 => suit_next_c3 stage
  | 4 => suit_next_c4 stage
  | 5 => suit_next_c5 stage
  | _ => suit_next_c6 stage
theorem suit_next_fn (kind : Int) (stage : Int) (h : 0 ≤ kind ∧ kind < 7) : FnA Tryz.prog 20 [iv kind, iv stage] [] (.tup [iv ((suit_next kind stage).1), bv ((suit_next kind stage).2)]) [] := by
  have hk : kind = 0 ∨ kind = 1 ∨ kind = 2 ∨ kind = 3 ∨ kind = 4 ∨ kind = 5 ∨ kind = 6 := by omega
  rcases hk with rfl | rfl | rfl | rfl | rfl | rfl | rfl
  · exact (suit_next_c0_k stage).pf trivial
  · exact (suit_next_c1_k stage).pf trivial
  · exact (suit_next_c2_k stage).pf trivial
  · exact (suit_next_c3_k stage).pf trivial
  · exact (suit_next_c4_k stage).pf trivial
  · exact (suit_next_c5_k stage).pf trivial
  · exact (suit_next_c6_k stage).pf trivial
/-- the table of the stages -/
def nextT (kind stage : Int) : Int × Bool :=
  if kind = 0 then (if stage = 0 then (1, true) else (0, false))
  else if kind = 1 then (if stage = 1 then (1, true) else if stage = 2 then (2, true) else if stage = 4 then (4, true) else (0, false))
  else if kind = 2 then (if stage = 1 then (2, true) else (0, false))
  else if kind = 3 then (if stage = 2 then (1, true) else (0, false))
  else if kind = 4 then (if stage = 1 then (3, true) else if stage = 4 then (3, true) else (0, false))
  else if kind = 5 then (if stage = 3 then (4, true) else (0, false))
  else (if stage = 1 then (5, true) else if stage = 2 then (5, true) else if stage = 3 then (5, true) else if stage = 4 then (5, true) else (0, false))
theorem mget_if (l : List (Int × Int)) (a b s : Int) : (mget ((a, b) :: l) s 0, mhas ((a, b) :: l) s) = if s = a then (b, true) else (mget l s 0, mhas l s) := by
  by_cases h : s = a
  · simp [mget, mhas, mfind, h]
  · have e : (s == a) = false := by simpa using h
    simp [mget, mhas, mfind, h, e]
theorem suit_next_eq (kind stage : Int) (h : 0 ≤ kind ∧ kind < 7) : suit_next kind stage = nextT kind stage := by
  have hk : kind = 0 ∨ kind = 1 ∨ kind = 2 ∨ kind = 3 ∨ kind = 4 ∨ kind = 5 ∨ kind = 6 := by omega
  rcases hk with rfl | rfl | rfl | rfl | rfl | rfl | rfl
  · show (mget [((0 : Int), (1 : Int))] stage 0, mhas [((0 : Int), (1 : Int))] stage) = _
    rw [mget_if]
    rfl
  · show (mget [((1 : Int), (1 : Int)), ((2 : Int), (2 : Int)), ((4 : Int), (4 : Int))] stage 0, mhas [((1 : Int), (1 : Int)), ((2 : Int), (2 : Int)), ((4 : Int), (4 : Int))] stage) = _
    rw [mget_if, mget_if, mget_if]
    rfl
  · show (mget [((1 : Int), (2 : Int))] stage 0, mhas [((1 : Int), (2 : Int))] stage) = _
    rw [mget_if]
    rfl
  · show (mget [((2 : Int), (1 : Int))] stage 0, mhas [((2 : Int), (1 : Int))] stage) = _
    rw [mget_if]
    rfl
  · show (mget [((1 : Int), (3 : Int)), ((4 : Int), (3 : Int))] stage 0, mhas [((1 : Int), (3 : Int)), ((4 : Int), (3 : Int))] stage) = _
    rw [mget_if, mget_if]
    rfl
  · show (mget [((3 : Int), (4 : Int))] stage 0, mhas [((3 : Int), (4 : Int))] stage) = _
    rw [mget_if]
    rfl
  · show (mget [((1 : Int), (5 : Int)), ((2 : Int), (5 : Int)), ((3 : Int), (5 : Int)), ((4 : Int), (5 : Int))] stage 0, mhas [((1 : Int), (5 : Int)), ((2 : Int), (5 : Int)), ((3 : Int), (5 : Int)), ((4 : Int), (5 : Int))] stage) = _
    rw [mget_if, mget_if, mget_if, mget_if]
    rfl
theorem suit_next_post (kind : Int) (stage : Int) : (fun (x : Int × Bool) => 0 ≤ kind ∧ kind < 7 → x = nextT kind stage) (suit_next kind stage) := suit_next_eq kind stage
noncomputable def suit_next_k (kind : Int) (stage : Int) : Ctr (Int × Bool) := ⟨Tryz.prog, 20, [iv kind, iv stage], fun x => .tup [iv x.1, bv x.2], true, suit_next kind stage, 0 ≤ kind ∧ kind < 7, fun h => suit_next_fn kind stage h, fun (x : Int × Bool) => 0 ≤ kind ∧ kind < 7 → x = nextT kind stage, suit_next_post kind stage⟩
/-- a move, told plainly -/
def sstep (suits : List Suit) (m : Move) (day : Int) (st : List Int) (ap : List (Int × Bool)) : Int × Int × List Int × List (Int × Bool) :=
  if ¬ (0 ≤ m.kind ∧ m.kind < 7) ∨ ¬ (0 ≤ m.day ∧ m.day < 100001) ∨ (m.kind = 1 ∧ ¬ (0 ≤ m.no ∧ m.no < 7)) then (1, day, st, ap)
  else if ¬ (0 ≤ m.suit ∧ m.suit < suits.length) then (4, day, st, ap)
  else if m.day < day ∨ (m.kind = 0 ∧ m.day < (suits.getD m.suit.toNat default).day) then (13, day, st, ap)
  else if (nextT m.kind (st.getD m.suit.toNat default)).2 = false ∨ (m.kind = 5 ∧ mget ap m.suit false = true) then (7, day, st, ap)
  else (0, m.day, st.set m.suit.toNat (nextT m.kind (st.getD m.suit.toNat default)).1, if m.kind = 5 then mupd ap m.suit true else ap)
theorem sstep_len (suits : List Suit) (m : Move) (day : Int) (st : List Int) (ap : List (Int × Bool)) : (sstep suits m day st ap).2.2.1.length = st.length := by
  unfold sstep
  repeat' split
  all_goals simp
noncomputable def suit_Run_c1_sk (m : Move) (v : List Suit) (v' : Int) (v'' : List Int) (v''' : List (Int × Bool)) : Sk (Int × Int × (List Int) × (List (Int × Bool))) :=
 .r 1 (.dep ((suit_in_k m.kind 7).c) fun x1 => .dep (.wh (!x1) false ((suit_in_k m.day 100001).c)) fun x2 => .wh ((!x1) || (!x2)) false (.wh (m.kind == 1) true ((suit_in_k m.no 7).c))) fun p6 =>
 .br (((!p6.1) || (!p6.2.1)) || ((m.kind == 1) && (!p6.2.2)))
 (.fin (1, v', v'', v'''))
 (.r 3 ((suit_in_k m.suit ((v.length : Nat) : Int)).c) fun x4 =>
 .br (!x4)
 (.fin (4, v', v'', v'''))
 (.r 5 (.wh (decide (m.day < v')) false (.wh (m.kind == 0) true (.p (ixP m.suit v.length)))) fun _ =>
 .br ((decide (m.day < v')) || ((m.kind == 0) && (decide (m.day < ((v.getD m.suit.toNat default).day)))))
 (.fin (13, v', v'', v'''))
 (.r 7 (.andl (.p (ixP m.suit v''.length)) (.andl (.p (m.suit.toNat < v''.length)) ((suit_next_k m.kind (v''.getD m.suit.toNat default)).c))) fun x5 =>
 .r 8 (.wh (!x5.2) false (.wh (m.kind == 5) true (.andl (.t (keysM dB v''')) (.o [.cast 80 (getM dB v''' m.suit false)])))) fun _ =>
 .br ((!x5.2) || ((m.kind == 5) && (mget v''' m.suit false)))
 (.fin (7, v', v'', v'''))
 (.br (m.kind == 5)
 (.r 11 (.andl (.t (keysM dB v''')) (.o [.nrmm (updM dB v''' m.suit true)])) fun _ =>
 .r 12 (.andl (.p (ixP m.suit v''.length)) (.andl (.o [.nrm (setC intE v'' m.suit.toNat x5.1)]) (.p (m.suit.toNat < v''.length)))) fun _ =>
 .wn 100006 v''.length (v''.set m.suit.toNat x5.1).length <|
 .fin (0, m.day, v''.set m.suit.toNat x5.1, mupd v''' m.suit true))
 (.r 12 (.andl (.p (ixP m.suit v''.length)) (.andl (.o [.nrm (setC intE v'' m.suit.toNat x5.1)]) (.p (m.suit.toNat < v''.length)))) fun _ =>
 .wn 100006 v''.length (v''.set m.suit.toNat x5.1).length <|
 .fin (0, m.day, v''.set m.suit.toNat x5.1, v'''))))))
noncomputable def suit_Run_c1 (m : Move) (v : List Suit) (v' : Int) (v'' : List Int) (v''' : List (Int × Bool)) : Int × Int × (List Int) × (List (Int × Bool)) := (suit_Run_c1_sk m v v' v'' v''').val
theorem suit_Run_c1_pst (m : Move) (v : List Suit) (v' : Int) (v'' : List Int) (v''' : List (Int × Bool)) : (suit_Run_c1_sk m v v' v'' v''').pst (fun (x : Int × Int × (List Int) × (List (Int × Bool))) => x = sstep v m v' v'' v''') := by
  refine Sk.pst_of _ ?_
  unfold suit_Run_c1_sk
  simp only [Sk.pstq, Sk.isLoop, reduceCtorEq, ON, kk, suit_in_k, suit_next_k, suit_in_eq, forall_eq, maxLen]
  all_goals simp only [suit_in_eq, LN] at *
  refine ⟨fun h => ?_, fun h1 => ⟨fun h => ?_, fun h2 _ => ⟨fun h => ?_, fun h3 he _ => ⟨fun h => ?_, fun h4 => ⟨fun h5 _ _ => ?_, fun h5 _ => ?_⟩⟩⟩⟩⟩
  · unfold sstep; rw [if_pos (by omega)]
  · unfold sstep; rw [if_neg (by omega), if_pos (by omega)]
  · unfold sstep; rw [if_neg (by omega), if_neg (by omega), if_pos (by omega)]
  · rw [he (by omega)] at h
    unfold sstep; rw [if_neg (by omega), if_neg (by omega), if_neg (by omega), if_pos h]
  all_goals rw [he (by omega)] at h4 ⊢
  all_goals unfold sstep
  all_goals rw [if_neg (by omega), if_neg (by omega), if_neg (by omega), if_neg (by rintro (h | h) <;> simp_all)]
  · rw [if_pos h5]
  · rw [if_neg h5]

theorem suit_Run_c1_post (m : Move) (v : List Suit) (v' : Int) (v'' : List Int) (v''' : List (Int × Bool)) : (fun (x : Int × Int × (List Int) × (List (Int × Bool))) => x = sstep v m v' v'' v''') (suit_Run_c1 m v v' v'' v''') := have h := Sk.pval _ (suit_Run_c1_pst m v v' v'' v'''); h
theorem suit_Run_c1_ok (m : Move) (v : List Suit) (v' : Int) (v'' : List Int) (v''' : List (Int × Bool)) (hl : v''.length = v.length) : (suit_Run_c1_sk m v v' v'' v''').obs (fun _ => True) := by
  unfold suit_Run_c1_sk
  try simp only [suit_in_k, suit_next_k, suit_in_eq]
  exact okG

theorem suit_Run_c1_fnB (m : Move) (v : List Suit) (v' : Int) (v'' : List Int) (v''' : List (Int × Bool)) (hl : v''.length = v.length) : FnB Tryz.prog 18 [av m.cells, .ref [slD Suit.cells v], .ptr 7 0, .ptr 4 0, .ptr 6 0] [(7, .box [iv v']), (4, .box [ow 100006 v'']), (100006, rowB 3 1 intC v''), (6, .box [.mpv 100007]), (100007, mpM dB v''')] ((fun (x : Int × Int × (List Int) × (List (Int × Bool))) => iv x.1) (suit_Run_c1 m v v' v'' v''')) ((fun (x : Int × Int × (List Int) × (List (Int × Bool))) => [(7, .box [iv x.2.1]), (4, .box [ow 600004 x.2.2.1]), (600004, rowB 3 1 intC x.2.2.1), (6, .box [.mpv 600006]), (600006, mpM dB x.2.2.2)]) (suit_Run_c1 m v v' v'' v''')) [(2, 7), (3, 4), (4, 6)] :=
  FnB.sk tok mixed (fun x => iv x.1) (fun x => [(7, .box [iv x.2.1]), (4, .box [ow 600004 x.2.2.1]), (600004, rowB 3 1 intC x.2.2.1), (6, .box [.mpv 600006]), (600006, mpM dB x.2.2.2)]) [(2, 7), (3, 4), (4, 6)] Tryz.func18 rfl (by kernel_rfl) 3000 (suit_Run_c1_sk m v v' v'' v''') (by kernel_rfl) (suit_Run_c1_ok m v v' v'' v''' hl)
noncomputable def suit_Run_c1_kb (m : Move) (v : List Suit) (v' : Int) (v'' : List Int) (v''' : List (Int × Bool)) : CtrB (Int × Int × (List Int) × (List (Int × Bool))) := ⟨Tryz.prog, 18, [av m.cells, .ref [slD Suit.cells v], .ptr 7 0, .ptr 4 0, .ptr 6 0], [(7, .box [iv v']), (4, .box [ow 100006 v'']), (100006, rowB 3 1 intC v''), (6, .box [.mpv 100007]), (100007, mpM dB v''')], [(2, 7), (3, 4), (4, 6)], fun x => iv x.1, fun x => [(7, .box [iv x.2.1]), (4, .box [ow 600004 x.2.2.1]), (600004, rowB 3 1 intC x.2.2.1), (6, .box [.mpv 600006]), (600006, mpM dB x.2.2.2)], suit_Run_c1 m v v' v'' v''', (v''.length = v.length), fun h => suit_Run_c1_fnB m v v' v'' v''' h, fun (x : Int × Int × (List Int) × (List (Int × Bool))) => x = sstep v m v' v'' v''', suit_Run_c1_post m v v' v'' v'''⟩
theorem take_snoc {α : Type} [Inhabited α] {l : List α} {n : Nat} (h : n < l.length) : l.take (n + 1) = l.take n ++ [l.getD n default] := by
  rw [List.take_add_one]
  simp [List.getD, h]
/-- one move after another: the errors, and the state (day, stages, appeals) -/
noncomputable def sone (suits : List Suit) (s : Int × List Int × List (Int × Bool)) (m : Move) : Int × Int × List Int × List (Int × Bool) := sstep suits m s.1 s.2.1 s.2.2
noncomputable def srun (suits : List Suit) : List Move → Int × List Int × List (Int × Bool) → List Int × Int × List Int × List (Int × Bool)
  | [], s => ([], s)
  | m :: r, s => ((sone suits s m).1 :: (srun suits r (sone suits s m).2).1, (srun suits r (sone suits s m).2).2)
theorem srun_append (suits : List Suit) (l r : List Move) : ∀ s, srun suits (l ++ r) s = ((srun suits l s).1 ++ (srun suits r (srun suits l s).2).1, (srun suits r (srun suits l s).2).2) := by
  induction l with
  | nil => intro s; rfl
  | cons m l ih => intro s; simp only [List.cons_append, srun, ih]
theorem srun_len (suits : List Suit) (l : List Move) : ∀ s, (srun suits l s).1.length = l.length := by
  induction l with
  | nil => intro s; rfl
  | cons m l ih => intro s; simp only [srun, List.length_cons, ih]
theorem srun_stages (suits : List Suit) (l : List Move) : ∀ s, (srun suits l s).2.2.1.length = s.2.1.length := by
  induction l with
  | nil => intro s; rfl
  | cons m l ih => intro s; simp only [srun, ih]; exact sstep_len _ _ _ _ _
noncomputable def sbeg (suits : List Suit) : Int × List Int × List (Int × Bool) := (0, List.replicate suits.length 0, [])
theorem srun_snoc (suits : List Suit) (l : List Move) (n : Nat) (h : n < l.length) (s : Int × List Int × List (Int × Bool)) : srun suits (l.take (n + 1)) s = ((srun suits (l.take n) s).1 ++ [(sone suits (srun suits (l.take n) s).2 (l.getD n default)).1], (sone suits (srun suits (l.take n) s).2 (l.getD n default)).2) := by
  rw [take_snoc h, srun_append]
  rfl
noncomputable def suit_Run_sk (suits : List Suit) (moves : List Move) : Sk ((List Int) × (List Int)) :=
 .r 0 (.o [.pur 2]) fun _ =>
 .r 1 (.andl (.o [.nrm (mkC intE suits.length 0)]) (.p (mkP ((suits.length : Nat) : Int) 8))) fun _ =>
 .r 2 (.o [.nrmm (mkM dB)]) fun _ =>
 .bind true (fun b1 => (srun suits moves (sbeg suits)).1 = b1.1 ∧ (srun suits moves (sbeg suits)).2.2.1 = b1.2)
 (.loop (default : Sum ((List Int) × (List Int)) ((List Int) × (List Int))) (fun i2 => i2.2.1 ≤ moves.length ∧ srun suits (moves.take i2.2.1) (sbeg suits) = (i2.1, i2.2.2.2.2, i2.2.2.1, i2.2.2.2.1)) (fun i2 => moves.length - i2.2.1) (([], 0, List.replicate suits.length (0 : Int), ([] : List (Int × Bool)), 0) : (List Int) × Nat × (List Int) × (List (Int × Bool)) × Int)
 (fun (i2 : (List Int) × Nat × (List Int) × (List (Int × Bool)) × Int) => ⟨[(5, ow 100005 i2.1), (18, iv ((i2.2.1 : Nat) : Int))], [(100005, rowB 30 1 intC i2.1), (100006, rowB 3 1 intC i2.2.2.1), (100007, mpM dB i2.2.2.2.1), (4, .box [ow 100006 i2.2.2.1]), (6, .box [.mpv 100007]), (7, .box [iv i2.2.2.2.2])]⟩) fun i2 =>
 .bnd 16 0 moves.length <|
 .br (decide (((i2.2.1 : Nat) : Int) < ((moves.length : Nat) : Int)))
 (.r 7 (.p (ixP ((i2.2.1 : Nat) : Int) moves.length)) fun _ =>
 .r 8 (.depr ((suit_Run_c1_kb (moves.getD i2.2.1 default) suits i2.2.2.2.2 i2.2.2.1 i2.2.2.2.1).c) fun x3 => .andl (.o [.nrm (litC intE [x3.1])]) (.andl (.o [.nrm (catC intE i2.1 [x3.1])]) (.andl (.t (intE.ones [x3.1])) (.p (szP i2.1.length [x3.1].length 8))))) fun x3 =>
 .r 9 .z fun _ =>
 .wi 18 (w64 (((i2.2.1 : Nat) : Int) + 1)) ((i2.2.1 + 1 : Nat) : Int) <|
 .fin (.inr (i2.1 ++ [x3.1], i2.2.1 + 1, x3.2.2.1, x3.2.2.2, x3.2.1)))
 (.fin (.inl (.inr (i2.1, i2.2.2.1)))))
 (fun (b1 : (List Int) × (List Int)) => ⟨[(5, ow 100003 b1.1)], [(100003, rowB 30 1 intC b1.1), (100004, rowB 3 1 intC b1.2), (4, .box [ow 100004 b1.2])]⟩) fun b1 =>
 .fin (b1.2, b1.1)
noncomputable def suit_Run (suits : List Suit) (moves : List Move) : (List Int) × (List Int) := (suit_Run_sk suits moves).val
theorem suit_Run_pst (suits : List Suit) (moves : List Move) : (suit_Run_sk suits moves).pst (fun (x : (List Int) × (List Int)) => x = ((srun suits moves (sbeg suits)).2.2.1, (srun suits moves (sbeg suits)).1)) := by
  refine Sk.pst_of _ ?_
  unfold suit_Run_sk
  simp only [Sk.pstq, Sk.isLoop, reduceCtorEq, ON, kk, suit_Run_c1_kb, CtrB.c, maxLen]
  all_goals simp only [LN] at *
  refine fun _ _ _ => ⟨⟨⟨by omega, rfl⟩, fun i hi => ⟨fun hlt _ x _ hx _ => ⟨⟨by omega, ?_⟩, by omega⟩, fun hge => ?_⟩⟩, fun b hb => ?_⟩
  · have h := srun_snoc suits moves i.2.1 (by omega) (sbeg suits)
    rw [hi.2] at h
    rw [h, hx]; rfl
  · have e : moves.take i.2.1 = moves := List.take_of_length_le (by omega)
    have h := hi.2
    rw [e] at h
    rw [h]; exact ⟨rfl, rfl⟩
  · rw [hb.1, hb.2]

theorem suit_Run_post (suits : List Suit) (moves : List Move) : (fun (x : (List Int) × (List Int)) => x = ((srun suits moves (sbeg suits)).2.2.1, (srun suits moves (sbeg suits)).1)) (suit_Run suits moves) := have h := Sk.pval _ (suit_Run_pst suits moves); h
theorem suit_Run_ok (suits : List Suit) (moves : List Move) (hs : suits.length ≤ 1000) (hm : moves.length ≤ 1000) : (suit_Run_sk suits moves).obs (fun _ => True) := by
  refine Sk.obs_of _ ?_
  unfold suit_Run_sk
  simp only [Sk.obq, Sk.isLoop, reduceCtorEq, ON, kk, suit_Run_c1_kb, CtrB.c, maxLen]
  all_goals simp only [LN] at *
  refine fun _ => ⟨⟨by omega, by omega, by omega⟩, fun _ _ => ⟨⟨by omega, rfl⟩, fun i hi _ => ⟨fun hlt => ⟨by omega, fun _ => ⟨⟨?_, fun x _ _ => ?_⟩, fun x _ hx _ => ⟨?_, ⟨by omega, ?_⟩, by omega⟩⟩⟩, fun hge => ?_⟩⟩⟩
  · have h := srun_stages suits (moves.take i.2.1) (sbeg suits)
    rw [hi.2] at h
    simpa [sbeg] using h
  · have h := srun_len suits (moves.take i.2.1) (sbeg suits)
    rw [hi.2] at h
    simp only [List.length_take] at h
    omega
  · rw [w64_id (by omega) (by omega)]; omega
  · have h := srun_snoc suits moves i.2.1 (by omega) (sbeg suits)
    rw [hi.2] at h
    rw [h, hx]; rfl
  · have e : moves.take i.2.1 = moves := List.take_of_length_le (by omega)
    have h := hi.2
    rw [e] at h
    rw [h]; exact ⟨rfl, rfl⟩

noncomputable def suit_Run_k (suits : List Suit) (moves : List Move) : Ctr ((List Int) × (List Int)) := kk tok mixed Tryz.func8 [lv Suit.cells suits, lv Move.cells moves] (fun x => .tup [lv intC x.1, lv intC x.2]) false (suit_Run_sk suits moves) (suit_Run suits moves) (fun (h : (suits.length ≤ 1000) ∧ (moves.length ≤ 1000)) => suit_Run_ok suits moves h.1 h.2) (fun (x : (List Int) × (List Int)) => x = ((srun suits moves (sbeg suits)).2.2.1, (srun suits moves (sbeg suits)).1)) (suit_Run_post suits moves)
noncomputable def allongeref46_SameInts_sk (a : List Int) (b : List Int) : Sk (Bool) :=
 .br (((a.length : Nat) : Int) != ((b.length : Nat) : Int))
 (.fin false)
 (.bind true (fun _ => True)
 (.loop (default : Sum (Bool) (Unit)) (fun i2 => i2 ≤ a.length) (fun i2 => a.length - i2) (0 : Nat)
 (fun (i2 : Nat) => ⟨[(5, iv ((i2 : Nat) : Int))], []⟩) fun i2 =>
 .bnd 0 0 a.length <|
 .br (decide (((i2 : Nat) : Int) < ((a.length : Nat) : Int)))
 (.r 6 (.andl (.p (ixP ((i2 : Nat) : Int) a.length)) (.p (ixP ((i2 : Nat) : Int) b.length))) fun _ =>
 .br ((a.getD i2 default) != (b.getD i2 default))
 (.fin (.inl (.inl false)))
 (.r 5 .z fun _ =>
 .wi 5 (w64 (((i2 : Nat) : Int) + 1)) ((i2 + 1 : Nat) : Int) <|
 .fin (.inr (i2 + 1))))
 (.fin (.inl (.inr ()))))
 (fun (_ : Unit) => ⟨[], []⟩) fun _ =>
 .fin true)
noncomputable def allongeref46_SameInts (a : List Int) (b : List Int) : Bool := (allongeref46_SameInts_sk a b).val
theorem allongeref46_SameInts_ok (a : List Int) (b : List Int) : (allongeref46_SameInts_sk a b).obs (fun _ => True) := by
  unfold allongeref46_SameInts_sk
  exact okD

noncomputable def allongeref46_SameInts_k (a : List Int) (b : List Int) : Ctr (Bool) := kk tok mixed Tryz.func17 [lv intC a, lv intC b] (fun x => bv x) true (allongeref46_SameInts_sk a b) (allongeref46_SameInts a b) (fun (_ : True) => allongeref46_SameInts_ok a b)
noncomputable def allongeref46_SameErrors_sk (a : List Int) (b : List Int) : Sk (Bool) :=
 .br (((a.length : Nat) : Int) != ((b.length : Nat) : Int))
 (.fin false)
 (.bind true (fun _ => True)
 (.loop (default : Sum (Bool) (Unit)) (fun i2 => i2 ≤ a.length) (fun i2 => a.length - i2) (0 : Nat)
 (fun (i2 : Nat) => ⟨[(5, iv ((i2 : Nat) : Int))], []⟩) fun i2 =>
 .bnd 0 0 a.length <|
 .br (decide (((i2 : Nat) : Int) < ((a.length : Nat) : Int)))
 (.r 6 (.andl (.p (ixP ((i2 : Nat) : Int) a.length)) (.p (ixP ((i2 : Nat) : Int) b.length))) fun _ =>
 .br ((a.getD i2 default) != (b.getD i2 default))
 (.fin (.inl (.inl false)))
 (.r 5 .z fun _ =>
 .wi 5 (w64 (((i2 : Nat) : Int) + 1)) ((i2 + 1 : Nat) : Int) <|
 .fin (.inr (i2 + 1))))
 (.fin (.inl (.inr ()))))
 (fun (_ : Unit) => ⟨[], []⟩) fun _ =>
 .fin true)
noncomputable def allongeref46_SameErrors (a : List Int) (b : List Int) : Bool := (allongeref46_SameErrors_sk a b).val
theorem allongeref46_SameErrors_pst (a : List Int) (b : List Int) (hP : a = b) : (allongeref46_SameErrors_sk a b).pst (fun (x : Bool) => x = true) := by
  unfold allongeref46_SameErrors_sk
  exact okP

theorem allongeref46_SameErrors_post (a : List Int) (b : List Int) : (fun (x : Bool) => (a = b) → (x = true)) (allongeref46_SameErrors a b) := fun hP => Sk.pval _ (allongeref46_SameErrors_pst a b hP)
theorem allongeref46_SameErrors_ok (a : List Int) (b : List Int) : (allongeref46_SameErrors_sk a b).obs (fun _ => True) := by
  unfold allongeref46_SameErrors_sk
  exact okD

noncomputable def allongeref46_SameErrors_k (a : List Int) (b : List Int) : Ctr (Bool) := kk tok mixed Tryz.func9 [lv intC a, lv intC b] (fun x => bv x) true (allongeref46_SameErrors_sk a b) (allongeref46_SameErrors a b) (fun (_ : True) => allongeref46_SameErrors_ok a b) (fun (x : Bool) => (a = b) → (x = true)) (allongeref46_SameErrors_post a b)
structure City where
  name : ByteArray
  order : Int
  currency : Int
  rest : List Int
  feasts : List Int
  shut : List Int
  deriving Inhabited
def City.cells (c : City) : List D := [.v (.string c.name), dI c.order, dI c.currency, slD intC c.rest, slD intC c.feasts, slD intC c.shut]
def City.E : Enc City := ⟨City.cells, 6, fun _ => rfl, fun _ => rfl⟩
structure GroupX where
  grade : Int
  deriving Inhabited
def GroupX.cells (c : GroupX) : List D := [dI c.grade]
def GroupX.E : Enc GroupX := ⟨GroupX.cells, 1, fun _ => rfl, fun _ => rfl⟩
structure Firm where
  name : ByteArray
  city : Int
  group : Int
  deriving Inhabited
def Firm.cells (c : Firm) : List D := [.v (.string c.name), dI c.city, dI c.group]
def Firm.E : Enc Firm := ⟨Firm.cells, 3, fun _ => rfl, fun _ => rfl⟩
structure Choice where
  ask : Int
  by_ : Int
  whole : Bool
  deriving Inhabited
def Choice.cells (c : Choice) : List D := [dI c.ask, dI c.by_, dB c.whole]
def Choice.E : Enc Choice := ⟨Choice.cells, 3, fun _ => rfl, fun _ => rfl⟩
structure Term where
  op : Int
  n : Int
  args : List Term
instance : Inhabited Term := ⟨⟨default, default, default⟩⟩
mutual
def Term.argsR : Term → D
  | ⟨_, _, args⟩ => .sl args.length (Term.cellsF args)
def Term.cellsF : List Term → Nat → List D
  | [], _ => []
  | x :: _, 0 => [dI x.op, dI x.n, Term.argsR x]
  | _ :: r, i + 1 => Term.cellsF r i
end
def Term.cellsR (x : Term) : List D := [dI x.op, dI x.n, Term.argsR x]
def Term.cells (c : Term) : List D := [dI c.op, dI c.n, slD Term.cellsR c.args]
def Term.E : Enc Term := ⟨Term.cellsR, 3, fun _ => rfl, fun ⟨_, _, _⟩ => by unfold Term.cellsR; rfl⟩
mutual
def Term.depth : Term → Nat
  | ⟨_, _, args⟩ => Term.depthL args + 1
def Term.depthL : List Term → Nat
  | [] => 0
  | x :: r => max x.depth (Term.depthL r)
end
structure Rule where
  ask : Int
  term : Term
  deriving Inhabited
def Rule.cells (c : Rule) : List D := [dI c.ask] ++ c.term.cells
def Rule.E : Enc Rule := ⟨Rule.cells, 4, fun _ => rfl, fun _ => rfl⟩
structure Order where
  name : ByteArray
  accepts : Bool
  choices : List Choice
  rules : List Rule
  deriving Inhabited
def Order.cells (c : Order) : List D := [.v (.string c.name), dB c.accepts, slD Choice.cells c.choices, slD Rule.cells c.rules]
def Order.E : Enc Order := ⟨Order.cells, 4, fun _ => rfl, fun _ => rfl⟩
structure Usance where
  from_ : Int
  to_ : Int
  days : Int
  deriving Inhabited
def Usance.cells (c : Usance) : List D := [dI c.from_, dI c.to_, dI c.days]
def Usance.E : Enc Usance := ⟨Usance.cells, 3, fun _ => rfl, fun _ => rfl⟩
structure RateX where
  from_ : Int
  to_ : Int
  num : Int
  den : Int
  since : Int
  deriving Inhabited
def RateX.cells (c : RateX) : List D := [dI c.from_, dI c.to_, dI c.num, dI c.den, dI c.since]
def RateX.E : Enc RateX := ⟨RateX.cells, 5, fun _ => rfl, fun _ => rfl⟩
structure Halt where
  order : Int
  from_ : Int
  to_ : Int
  deriving Inhabited
def Halt.cells (c : Halt) : List D := [dI c.order, dI c.from_, dI c.to_]
def Halt.E : Enc Halt := ⟨Halt.cells, 3, fun _ => rfl, fun _ => rfl⟩
structure Realm where
  currencies : List ByteArray
  cities : List City
  groups : List GroupX
  firms : List Firm
  orders : List Order
  usances : List Usance
  rates : List RateX
  halts : List Halt
  deriving Inhabited
def Realm.cells (c : Realm) : List D := [slD strC c.currencies, slD City.cells c.cities, slD GroupX.cells c.groups, slD Firm.cells c.firms, slD Order.cells c.orders, slD Usance.cells c.usances, slD RateX.cells c.rates, slD Halt.cells c.halts]
def Realm.E : Enc Realm := ⟨Realm.cells, 8, fun _ => rfl, fun _ => rfl⟩
def Realm.Small (r : Realm) : Prop := r.currencies.length ≤ 1000000 ∧ r.cities.length ≤ 1000000 ∧ r.groups.length ≤ 1000000 ∧ r.firms.length ≤ 1000000 ∧ r.orders.length ≤ 1000000 ∧ r.usances.length ≤ 1000000 ∧ r.rates.length ≤ 1000000 ∧ r.halts.length ≤ 1000000 ∧
  ∀ i, i < r.orders.length → (r.orders.getD i default).choices.length ≤ 1000000 ∧ (r.orders.getD i default).rules.length ≤ 1000000
/-- each choice names a factor -/
def Realm.ByOK (r : Realm) : Prop := ∀ i j, i < r.orders.length → j < (r.orders.getD i default).choices.length → 0 ≤ ((r.orders.getD i default).choices.getD j default).by_ ∧ ((r.orders.getD i default).choices.getD j default).by_ < 5
def Realm.okB (r : Realm) : Bool := decide (r.currencies.length ≤ 1000000) && decide (r.cities.length ≤ 1000000) && decide (r.groups.length ≤ 1000000) && decide (r.firms.length ≤ 1000000) && decide (r.orders.length ≤ 1000000) && decide (r.usances.length ≤ 1000000) && decide (r.rates.length ≤ 1000000) && decide (r.halts.length ≤ 1000000) &&
  r.orders.all fun o => decide (o.choices.length ≤ 1000000) && decide (o.rules.length ≤ 1000000) && o.choices.all fun c => decide (0 ≤ c.by_) && decide (c.by_ < 5)
theorem Realm.ok_of {r : Realm} (h : r.okB = true) : r.Small ∧ r.ByOK := by
  simp only [Realm.okB, Bool.and_eq_true, decide_eq_true_eq, List.all_eq_true] at h
  obtain ⟨⟨⟨⟨⟨⟨⟨⟨h1, h2⟩, h3⟩, h4⟩, h5⟩, h6⟩, h7⟩, h8⟩, h9⟩ := h
  exact ⟨⟨h1, h2, h3, h4, h5, h6, h7, h8, fun i hi => (h9 _ (lget_mem hi _)).1⟩, fun i j hi hj => (h9 _ (lget_mem hi _)).2 _ (lget_mem hj _)⟩
structure Tenor where
  kind : Int
  n : Int
  unit : Int
  deriving Inhabited
def Tenor.cells (c : Tenor) : List D := [dI c.kind, dI c.n, dI c.unit]
def Tenor.E : Enc Tenor := ⟨Tenor.cells, 3, fun _ => rfl, fun _ => rfl⟩
structure Bill where
  drawer : Int
  drawee : Int
  payee : Int
  sum : Int
  currency : Int
  tenor : Tenor
  day : Int
  city : Int
  pay : Int
  need : Int
  rate : Int
  flags : Int
  parts : Int
  deriving Inhabited
def Bill.cells (c : Bill) : List D := [dI c.drawer, dI c.drawee, dI c.payee, dI c.sum, dI c.currency] ++ c.tenor.cells ++ [dI c.day, dI c.city, dI c.pay, dI c.need, dI c.rate, dI c.flags, dI c.parts]
def Bill.E : Enc Bill := ⟨Bill.cells, 15, fun _ => rfl, fun _ => rfl⟩
structure Sign where
  kind : Int
  part : Int
  who : Int
  for_ : Int
  to_ : Int
  sum : Int
  day : Int
  city : Int
  flags : Int
  deriving Inhabited
def Sign.cells (c : Sign) : List D := [dI c.kind, dI c.part, dI c.who, dI c.for_, dI c.to_, dI c.sum, dI c.day, dI c.city, dI c.flags]
def Sign.E : Enc Sign := ⟨Sign.cells, 9, fun _ => rfl, fun _ => rfl⟩
structure Alter where
  at_ : Int
  sum : Int
  deriving Inhabited
def Alter.cells (c : Alter) : List D := [dI c.at_, dI c.sum]
def Alter.E : Enc Alter := ⟨Alter.cells, 2, fun _ => rfl, fun _ => rfl⟩
structure ActX where
  kind : Int
  who : Int
  to_ : Int
  part : Int
  at_ : Int
  sum : Int
  day : Int
  city : Int
  form : Int
  deriving Inhabited
def ActX.cells (c : ActX) : List D := [dI c.kind, dI c.who, dI c.to_, dI c.part, dI c.at_, dI c.sum, dI c.day, dI c.city, dI c.form]
def ActX.E : Enc ActX := ⟨ActX.cells, 9, fun _ => rfl, fun _ => rfl⟩
structure Fact where
  kind : Int
  at_ : Int
  n : Int
  deriving Inhabited
def Fact.cells (c : Fact) : List D := [dI c.kind, dI c.at_, dI c.n]
def Fact.E : Enc Fact := ⟨Fact.cells, 3, fun _ => rfl, fun _ => rfl⟩
structure File where
  bill : Bill
  signs : List Sign
  alters : List Alter
  acts : List ActX
  facts : List Fact
  deriving Inhabited
def File.cells (c : File) : List D := c.bill.cells ++ [slD Sign.cells c.signs, slD Alter.cells c.alters, slD ActX.cells c.acts, slD Fact.cells c.facts]
def File.E : Enc File := ⟨File.cells, 19, fun _ => rfl, fun _ => rfl⟩
/-- lists of a length that memory bears -/
def File.Small (f : File) : Prop := f.signs.length ≤ 1000000 ∧ f.alters.length ≤ 1000000 ∧ f.acts.length ≤ 1000000 ∧ f.facts.length ≤ 1000000
/-- sums of money -/
abbrev SumP (n : Int) : Prop := 0 ≤ n ∧ n ≤ 1099511627776
structure Award where
  suit : Int
  sum : Int
  currency : Int
  state : Int
  deriving Inhabited
def Award.cells (c : Award) : List D := [dI c.suit, dI c.sum, dI c.currency, dI c.state]
def Award.E : Enc Award := ⟨Award.cells, 4, fun _ => rfl, fun _ => rfl⟩
noncomputable def suit_Check_sk (r : Realm) (files : List File) (suits : List Suit) (moves : List Move) : Sk (Int) :=
 .br (((decide (((files.length : Nat) : Int) > 50)) || (decide (((suits.length : Nat) : Int) > 30))) || (decide (((moves.length : Nat) : Int) > 100)))
 (.fin 6)
 (.bind true (fun _ => True)
 (.loop (default : Sum (Int) (Unit)) (fun _ => True) (fun _ => 0) (() : Unit)
 (fun (_ : Unit) => ⟨[], []⟩) fun i2 =>
 .br (decide ((0 : Int) < ((files.length : Nat) : Int)))
 (.r 5 (.p (ixP (0 : Int) files.length)) fun _ =>
 .dead default)
 (.fin (.inl (.inr ()))))
 (fun (_ : Unit) => ⟨[], []⟩) fun _ =>
 .bind true (fun _ => True)
 (.loop (default : Sum (Int) (Unit)) (fun i4 => i4 ≤ suits.length) (fun i4 => suits.length - i4) (0 : Nat)
 (fun (i4 : Nat) => ⟨[(43, iv ((i4 : Nat) : Int))], []⟩) fun i4 =>
 .bnd 41 0 suits.length <|
 .br (decide (((i4 : Nat) : Int) < ((suits.length : Nat) : Int)))
 (.r 12 (.p (ixP ((i4 : Nat) : Int) suits.length)) fun _ =>
 .r 13 (.dep ((suit_in_k ((suits.getD i4 default).plaintiff) ((r.firms.length : Nat) : Int)).c) fun x5 => .wh x5 true ((suit_in_k ((suits.getD i4 default).defendant) ((r.firms.length : Nat) : Int)).c)) fun p13 =>
 .r 14 (.dep (.wh (!((p13.1 && p13.2) && (((suits.getD i4 default).plaintiff) != ((suits.getD i4 default).defendant)))) false ((suit_in_k ((suits.getD i4 default).forum) ((r.orders.length : Nat) : Int)).c)) fun x7 => .dep (.wh ((!((p13.1 && p13.2) && (((suits.getD i4 default).plaintiff) != ((suits.getD i4 default).defendant)))) || (!x7)) false ((suit_in_k ((suits.getD i4 default).file) ((files.length : Nat) : Int)).c)) fun x8 => .dep (.wh (((!((p13.1 && p13.2) && (((suits.getD i4 default).plaintiff) != ((suits.getD i4 default).defendant)))) || (!x7)) || (!x8)) false ((suit_in_k ((suits.getD i4 default).sign) 40).c)) fun x9 => .dep (.wh ((((!((p13.1 && p13.2) && (((suits.getD i4 default).plaintiff) != ((suits.getD i4 default).defendant)))) || (!x7)) || (!x8)) || (!x9)) false ((suit_in_k ((suits.getD i4 default).day) 100001).c)) fun x10 => .wh (((((!((p13.1 && p13.2) && (((suits.getD i4 default).plaintiff) != ((suits.getD i4 default).defendant)))) || (!x7)) || (!x8)) || (!x9)) || (!x10)) false ((suit_in_k ((suits.getD i4 default).kind) 2).c)) fun p12 =>
 .br ((((((!((p13.1 && p13.2) && (((suits.getD i4 default).plaintiff) != ((suits.getD i4 default).defendant)))) || (!p12.1)) || (!p12.2.1)) || (!p12.2.2.1)) || (!p12.2.2.2.1)) || (!p12.2.2.2.2))
 (.fin (.inl (.inl 1)))
 (.r 16 .z fun _ =>
 .wi 43 (w64 (((i4 : Nat) : Int) + 1)) ((i4 + 1 : Nat) : Int) <|
 .fin (.inr (i4 + 1))))
 (.fin (.inl (.inr ()))))
 (fun (_ : Unit) => ⟨[], []⟩) fun _ =>
 .fin 0)
noncomputable def suit_Check (r : Realm) (files : List File) (suits : List Suit) (moves : List Move) : Int := (suit_Check_sk r files suits moves).val
theorem suit_Check_ok (r : Realm) (files : List File) (suits : List Suit) (moves : List Move) (h0 : files.length = 0) : (suit_Check_sk r files suits moves).obs (fun _ => True) := by
  unfold suit_Check_sk
  try simp only [suit_in_k, suit_in_eq]
  exact okG

noncomputable def suit_Check_k (r : Realm) (files : List File) (suits : List Suit) (moves : List Move) : Ctr (Int) := kk tok mixed Tryz.func11 [av r.cells, lv File.cells files, lv Suit.cells suits, lv Move.cells moves] (fun x => iv x) true (suit_Check_sk r files suits moves) (suit_Check r files suits moves) (fun (h : (files.length = 0)) => suit_Check_ok r files suits moves h)
noncomputable def suit_Award_sk (r : Realm) (files : List File) (suits : List Suit) (moves : List Move) (suit : Int) : Sk (Award × Int) :=
 .r 1 ((suit_Check_k r files suits moves).c) fun x1 =>
 .br (x1 != 0)
 (.fin (({ suit := 0, sum := 0, currency := 0, state := 0 } : Award), x1))
 (.r 4 ((suit_in_k suit ((suits.length : Nat) : Int)).c) fun x2 =>
 .br (!x2)
 (.fin (({ suit := 0, sum := 0, currency := 0, state := 0 } : Award), 4))
 (.dead default))
noncomputable def suit_Award (r : Realm) (files : List File) (suits : List Suit) (moves : List Move) (suit : Int) : Award × Int := (suit_Award_sk r files suits moves suit).val
theorem suit_Award_ok (r : Realm) (files : List File) (suits : List Suit) (moves : List Move) (suit : Int) (h0 : files.length = 0) (h1 : suits.length = 0) : (suit_Award_sk r files suits moves suit).obs (fun _ => True) := by
  unfold suit_Award_sk
  try simp only [suit_Check_k, suit_in_k, suit_in_eq]
  exact okG

noncomputable def suit_Award_k (r : Realm) (files : List File) (suits : List Suit) (moves : List Move) (suit : Int) : Ctr (Award × Int) := kk tok mixed Tryz.func12 [av r.cells, lv File.cells files, lv Suit.cells suits, lv Move.cells moves, iv suit] (fun x => .tup [av x.1.cells, iv x.2]) true (suit_Award_sk r files suits moves suit) (suit_Award r files suits moves suit) (fun (h : (files.length = 0) ∧ (suits.length = 0)) => suit_Award_ok r files suits moves suit h.1 h.2)
noncomputable def allongelaw46_small_sk : Sk (Bool) :=
 .r 1 (.o [.nrm (litC Suit.E [({ forum := 0, plaintiff := 0, defendant := 0, file := 0, sign := 0, day := 5, kind := 0 } : Suit), ({ forum := 0, plaintiff := 0, defendant := 0, file := 0, sign := 0, day := 9, kind := 0 } : Suit)])]) fun _ =>
 .fz 12 <|
 .r 2 (.andl (.andl (.o [.pur 20]) (.o [.nrm (litC Move.E [({ kind := 0, suit := 0, day := 5, no := 0 } : Move), ({ kind := 2, suit := 0, day := 6, no := 0 } : Move), ({ kind := 4, suit := 0, day := 7, no := 0 } : Move), ({ kind := 3, suit := 0, day := 8, no := 0 } : Move), ({ kind := 4, suit := 0, day := 9, no := 0 } : Move)])])) ((suit_Run_k [({ forum := 0, plaintiff := 0, defendant := 0, file := 0, sign := 0, day := 5, kind := 0 } : Suit), ({ forum := 0, plaintiff := 0, defendant := 0, file := 0, sign := 0, day := 9, kind := 0 } : Suit)] [({ kind := 0, suit := 0, day := 5, no := 0 } : Move), ({ kind := 2, suit := 0, day := 6, no := 0 } : Move), ({ kind := 4, suit := 0, day := 7, no := 0 } : Move), ({ kind := 3, suit := 0, day := 8, no := 0 } : Move), ({ kind := 4, suit := 0, day := 9, no := 0 } : Move)]).c)) fun x1 =>
 .r 3 (.andl (.andl (.o [.pur 31]) (.o [.nrm (litC Move.E [({ kind := 0, suit := 1, day := 8, no := 0 } : Move), ({ kind := 0, suit := 1, day := 9, no := 0 } : Move), ({ kind := 0, suit := 0, day := 6, no := 0 } : Move), ({ kind := 6, suit := 1, day := 10, no := 0 } : Move), ({ kind := 5, suit := 1, day := 11, no := 0 } : Move)])])) ((suit_Run_k [({ forum := 0, plaintiff := 0, defendant := 0, file := 0, sign := 0, day := 5, kind := 0 } : Suit), ({ forum := 0, plaintiff := 0, defendant := 0, file := 0, sign := 0, day := 9, kind := 0 } : Suit)] [({ kind := 0, suit := 1, day := 8, no := 0 } : Move), ({ kind := 0, suit := 1, day := 9, no := 0 } : Move), ({ kind := 0, suit := 0, day := 6, no := 0 } : Move), ({ kind := 6, suit := 1, day := 10, no := 0 } : Move), ({ kind := 5, suit := 1, day := 11, no := 0 } : Move)]).c)) fun x2 =>
 .r 4 (.andl (.o [.nrm (litC intE [3, 0])]) (.dep ((allongeref46_SameInts_k x1.1 [3, 0]).c) fun x3 => .andl (.wh x3 true (.o [.nrm (litC intE [0, 0, 7, 0, 0])])) (.wh x3 true ((allongeref46_SameErrors_k x1.2 [0, 0, 7, 0, 0]).c)))) fun p10 =>
 .r 5 (.andl (.o [.nrm (litC intE [0, 5])]) (.dep ((allongeref46_SameInts_k x2.1 [0, 5]).c) fun x5 => .andl (.wh x5 true (.o [.nrm (litC intE [13, 0, 13, 0, 7])])) (.wh x5 true ((allongeref46_SameErrors_k x2.2 [13, 0, 13, 0, 7]).c)))) fun p9 =>
 .r 6 (((((((((((((suit_Award_k ({ currencies := [], cities := [], groups := [], firms := [], orders := [], usances := [], rates := [], halts := [] } : Realm) [] [] [] 0).nilc 0 0 _ rfl ⟨_, rfl⟩).nilc 0 1 _ rfl ⟨_, rfl⟩).nilc 0 2 _ rfl ⟨_, rfl⟩).nilc 0 3 _ rfl ⟨_, rfl⟩).nilc 0 4 _ rfl ⟨_, rfl⟩).nilc 0 5 _ rfl ⟨_, rfl⟩).nilc 0 6 _ rfl ⟨_, rfl⟩).nilc 0 7 _ rfl ⟨_, rfl⟩).nil 1 ⟨_, rfl⟩).nil 2 ⟨_, rfl⟩).nil 3 ⟨_, rfl⟩).c) fun x7 =>
 .r 7 (.wh (((p10.1 && p10.2) && (p9.1 && p9.2)) && (x7.2 == 4)) true ((((((((((((suit_Check_k ({ currencies := [], cities := [], groups := [], firms := [], orders := [], usances := [], rates := [], halts := [] } : Realm) [] [({ forum := 0, plaintiff := 0, defendant := 0, file := 0, sign := 0, day := 5, kind := 0 } : Suit), ({ forum := 0, plaintiff := 0, defendant := 0, file := 0, sign := 0, day := 9, kind := 0 } : Suit)] []).nilc 0 0 _ rfl ⟨_, rfl⟩).nilc 0 1 _ rfl ⟨_, rfl⟩).nilc 0 2 _ rfl ⟨_, rfl⟩).nilc 0 3 _ rfl ⟨_, rfl⟩).nilc 0 4 _ rfl ⟨_, rfl⟩).nilc 0 5 _ rfl ⟨_, rfl⟩).nilc 0 6 _ rfl ⟨_, rfl⟩).nilc 0 7 _ rfl ⟨_, rfl⟩).nil 1 ⟨_, rfl⟩).nil 3 ⟨_, rfl⟩).c)) fun x8 =>
 .fin ((((p10.1 && p10.2) && (p9.1 && p9.2)) && (x7.2 == 4)) && (x8 == 1))
noncomputable def allongelaw46_small : Bool := (allongelaw46_small_sk).val
theorem allongelaw46_small_post : (fun (x : Bool) => x = true) (allongelaw46_small) := (show allongelaw46_small = true by kernel_rfl)
theorem allongelaw46_small_ok : (allongelaw46_small_sk).obs (fun _ => True) := by
  unfold allongelaw46_small_sk
  try simp only [allongeref46_SameErrors_k, allongeref46_SameInts_k, suit_Award_k, suit_Check_k, suit_Run_k]
  exact okD

noncomputable def allongelaw46_small_k : Ctr (Bool) := kk tok mixed Tryz.func7 [] (fun x => bv x) true (allongelaw46_small_sk) (allongelaw46_small) (fun (_ : True) => allongelaw46_small_ok) (fun (x : Bool) => x = true) (allongelaw46_small_post)
theorem mfind_put {α : Type} (k k' : Int) (v : α) : ∀ (m : List (Int × α)), mfind (mupd m k v) k' = if k' = k then some v else mfind m k'
  | [] => by
    by_cases h : k' = k
    · simp [mupd, mfind, h]
    · have e : (k' == k) = false := by simpa using h
      simp [mupd, mfind, h, e]
  | p :: r => by
    by_cases c : k = p.1
    · have e : (k == p.1) = true := by simpa using c
      simp only [mupd, e, cond_true, mfind]
      by_cases h : k' = p.1
      · have e' : (k' == p.1) = true := by simpa using h
        simp [e', h, c]
      · have e' : (k' == p.1) = false := by simpa using h
        simp [e', h, c]
    · have e : (k == p.1) = false := by simpa using c
      simp only [mupd, e, cond_false, mfind, mfind_put k k' v r]
      by_cases h : k' = p.1
      · have e' : (k' == p.1) = true := by simpa using h
        have hk : ¬ k' = k := fun x => c (x ▸ h)
        simp [e', hk]
      · have e' : (k' == p.1) = false := by simpa using h
        simp [e']
theorem mget_put (k k' : Int) (m : List (Int × Bool)) : mget (mupd m k true) k' false = if k' = k then true else mget m k' false := by
  unfold mget
  rw [mfind_put]
  split <;> rfl
/-- what a move does that has no error -/
theorem sstep_ok {suits : List Suit} {m : Move} {day : Int} {st : List Int} {ap : List (Int × Bool)} (h : (sstep suits m day st ap).1 = 0) : 0 ≤ m.kind ∧ m.kind < 7 ∧ 0 ≤ m.suit ∧ m.suit < suits.length ∧ day ≤ m.day ∧ (nextT m.kind (st.getD m.suit.toNat default)).2 = true ∧ (m.kind = 5 → mget ap m.suit false = false) ∧
    sstep suits m day st ap = (0, m.day, st.set m.suit.toNat (nextT m.kind (st.getD m.suit.toNat default)).1, if m.kind = 5 then mupd ap m.suit true else ap) := by
  unfold sstep at h ⊢
  split at h
  · cases h
  rename_i h1
  split at h
  · cases h
  rename_i h2
  split at h
  · cases h
  rename_i h3
  split at h
  · cases h
  rename_i h4
  rw [if_neg h1, if_neg h2, if_neg h3, if_neg h4]
  refine ⟨by omega, by omega, by omega, by omega, by omega, ?_, fun e => ?_, rfl⟩
  · cases q : (nextT m.kind (st.getD m.suit.toNat default)).2 with
    | true => rfl
    | false => exact absurd (.inl q) h4
  · cases q : mget ap m.suit false with
    | false => rfl
    | true => exact absurd (.inr ⟨e, q⟩) h4
/-- a move with an error does nothing -/
theorem sstep_err {suits : List Suit} {m : Move} {day : Int} {st : List Int} {ap : List (Int × Bool)} (h : (sstep suits m day st ap).1 ≠ 0) : (sstep suits m day st ap).2 = (day, st, ap) := by
  unfold sstep at h ⊢
  split
  · rfl
  rename_i h1
  rw [if_neg h1] at h
  split
  · rfl
  rename_i h2
  rw [if_neg h2] at h
  split
  · rfl
  rename_i h3
  rw [if_neg h3] at h
  split
  · rfl
  rename_i h4
  rw [if_neg h4] at h
  exact absurd rfl h
/-- a move that is right goes on being right with an earlier day and other suits' stages and appeals -/
theorem sstep_like {suits : List Suit} {m : Move} {day day' : Int} {st st' : List Int} {ap ap' : List (Int × Bool)} (h : (sstep suits m day st ap).1 = 0) (hd : day' ≤ day) (hs : st'.getD m.suit.toNat default = st.getD m.suit.toNat default) (ha : mget ap' m.suit false = mget ap m.suit false) : (sstep suits m day' st' ap').1 = 0 := by
  unfold sstep at h ⊢
  rw [hs, ha]
  split at h
  · cases h
  rename_i h1
  split at h
  · cases h
  rename_i h2
  split at h
  · cases h
  rename_i h3
  split at h
  · cases h
  rename_i h4
  rw [if_neg h1, if_neg h2, if_neg (by omega), if_neg h4]
theorem nextT_range {k s : Int} (h : (nextT k s).2 = true) : 1 ≤ (nextT k s).1 ∧ (nextT k s).1 ≤ 5 := by
  unfold nextT at h ⊢
  repeat' split
  all_goals simp_all
theorem nextT_end {k : Int} : (nextT k 5).2 = false := by
  unfold nextT
  repeat' split
  all_goals simp_all
/-- the moves in a suit that have no error -/
noncomputable def sown (suits : List Suit) (n : Int) : List Move → Int × List Int × List (Int × Bool) → List Move
  | [], _ => []
  | m :: r, s => (if (sone suits s m).1 = 0 ∧ m.suit = n then [m] else []) ++ sown suits n r (sone suits s m).2
theorem sown_append (suits : List Suit) (n : Int) (l r : List Move) : ∀ s, sown suits n (l ++ r) s = sown suits n l s ++ sown suits n r (srun suits l s).2 := by
  induction l with
  | nil => intro s; rfl
  | cons m l ih => intro s; simp only [List.cons_append, sown, ih, srun, List.append_assoc]
theorem sown_snoc (suits : List Suit) (n : Int) (l : List Move) (i : Nat) (h : i < l.length) (s : Int × List Int × List (Int × Bool)) : sown suits n (l.take (i + 1)) s = sown suits n (l.take i) s ++ if (sone suits (srun suits (l.take i) s).2 (l.getD i default)).1 = 0 ∧ (l.getD i default).suit = n then [l.getD i default] else [] := by
  rw [take_snoc h, sown_append]
  simp [sown]
theorem srun_get (suits : List Suit) (l : List Move) (s : Int × List Int × List (Int × Bool)) (i : Nat) (h : i < l.length) : (srun suits l s).1.getD i default = (sone suits (srun suits (l.take i) s).2 (l.getD i default)).1 := by
  have e : l = l.take (i + 1) ++ l.drop (i + 1) := (List.take_append_drop _ _).symm
  have hl : (srun suits (l.take i) s).1.length = i := by rw [srun_len, List.length_take]; omega
  rw [congrArg (fun z => (srun suits z s).1) e, srun_append, srun_snoc suits l i h]
  simp only [List.getD]
  rw [List.getElem?_append_left (by simp [hl]), List.getElem?_append_right (by omega), hl]
  simp
theorem srun_take (suits : List Suit) (l : List Move) (s : Int × List Int × List (Int × Bool)) (k : Nat) (h : k ≤ l.length) : (srun suits (l.take k) s).1 = (srun suits l s).1.take k := by
  have e : l = l.take k ++ l.drop k := (List.take_append_drop _ _).symm
  have hl : (srun suits (l.take k) s).1.length = k := by rw [srun_len, List.length_take]; omega
  rw [congrArg (fun z => (srun suits z s).1.take k) e, srun_append]
  exact (List.take_left' hl).symm
/-- a stage that is 5 stays so -/
theorem srun_end (suits : List Suit) (n : Nat) (l : List Move) : ∀ s : Int × List Int × List (Int × Bool), s.2.1.getD n default = 5 → (srun suits l s).2.2.1.getD n default = 5 := by
  induction l with
  | nil => exact fun s h => h
  | cons m l ih =>
    intro s h
    refine ih _ ?_
    by_cases c : (sstep suits m s.1 s.2.1 s.2.2).1 = 0
    · obtain ⟨h1, h2, h3, h4, h5, h6, h7, h8⟩ := sstep_ok c
      show (sstep suits m s.1 s.2.1 s.2.2).2.2.1.getD n default = 5
      rw [h8]
      simp only
      by_cases e : m.suit.toNat = n
      · rw [e, h, nextT_end] at h6
        cases h6
      · rw [← h]
        simp [List.getD, List.getElem?_set_ne e]
    · show (sstep suits m s.1 s.2.1 s.2.2).2.2.1.getD n default = 5
      rw [sstep_err c]
      exact h
/-- without the moves of others -/
structure SLike (n : Nat) (s s' : Int × List Int × List (Int × Bool)) : Prop where
  day : s'.1 ≤ s.1
  len : n < s.2.1.length
  len' : n < s'.2.1.length
  st : s'.2.1.getD n default = s.2.1.getD n default
  ap : mget s'.2.2 (n : Int) false = mget s.2.2 (n : Int) false
theorem srun_like (suits : List Suit) (n : Nat) (l : List Move) : ∀ s s' : Int × List Int × List (Int × Bool), SLike n s s' → (∀ x, x ∈ (srun suits (sown suits n l s) s').1 → x = 0) ∧ SLike n (srun suits l s).2 (srun suits (sown suits n l s) s').2 := by
  induction l with
  | nil => exact fun s s' h => ⟨fun x hx => by simp [sown, srun] at hx, h⟩
  | cons m l ih =>
    intro s s' h
    by_cases c : (sstep suits m s.1 s.2.1 s.2.2).1 = 0
    · obtain ⟨h1, h2, h3, h4, h5, h6, h7, h8⟩ := sstep_ok c
      by_cases e : m.suit = n
      · have hn : m.suit.toNat = n := by omega
        have c' : (sstep suits m s'.1 s'.2.1 s'.2.2).1 = 0 := sstep_like c h.day (by rw [hn]; exact h.st) (by rw [e]; exact h.ap)
        obtain ⟨-, -, -, -, -, -, -, g8⟩ := sstep_ok c'
        have hw : sown suits n (m :: l) s = m :: sown suits n l (sone suits s m).2 := by
          simp only [sown]
          rw [if_pos ⟨c, e⟩]
          rfl
        have hL : SLike n (sone suits s m).2 (sone suits s' m).2 := by
          unfold sone
          rw [h8, g8]
          refine ⟨Int.le_refl _, by simpa using h.len, by simpa using h.len', ?_, ?_⟩
          · simp only [hn, h.st]
            have a := h.len
            have a' := h.len'
            simp [List.getD, a, a']
          · simp only
            split
            · rw [mget_put, mget_put]; simp [e]
            · exact h.ap
        obtain ⟨i1, i2⟩ := ih _ _ hL
        rw [hw]
        refine ⟨fun x hx => ?_, i2⟩
        simp only [srun, List.mem_cons] at hx
        rcases hx with rfl | hx
        · exact c'
        · exact i1 x hx
      · have hn : ¬ m.suit.toNat = n := by omega
        have hw : sown suits n (m :: l) s = sown suits n l (sone suits s m).2 := by
          simp only [sown]
          rw [if_neg (fun q => e q.2)]
          rfl
        rw [hw]
        refine ih _ _ ?_
        unfold sone
        rw [h8]
        refine ⟨Int.le_trans h.day h5, by simpa using h.len, h.len', ?_, ?_⟩
        · rw [h.st]; simp [List.getD, List.getElem?_set_ne hn]
        · simp only
          split
          · rw [mget_put, if_neg (fun q => e q.symm)]; exact h.ap
          · exact h.ap
    · have hw : sown suits n (m :: l) s = sown suits n l (sone suits s m).2 := by
        simp only [sown]
        rw [if_neg (fun q => c q.1)]
        rfl
      rw [hw]
      refine ih _ _ ?_
      unfold sone
      rw [sstep_err c]
      exact h
/-- the appeals in a suit -/
def apps (l : List Move) : Int := ((l.filter fun m => m.kind == 5).length : Int)
theorem apps_append (l r : List Move) : apps (l ++ r) = apps l + apps r := by simp [apps]
theorem apps_le (suits : List Suit) (n : Int) (l : List Move) : ∀ s : Int × List Int × List (Int × Bool), apps (sown suits n l s) ≤ if mget s.2.2 n false = true then 0 else 1 := by
  induction l with
  | nil => intro s; simp only [sown, apps]; split <;> simp
  | cons m l ih =>
    intro s
    simp only [sown, apps_append]
    have hi := ih (sone suits s m).2
    by_cases c : (sone suits s m).1 = 0
    · obtain ⟨h1, h2, h3, h4, h5, h6, h7, h8⟩ := sstep_ok c
      have e8 : (sone suits s m).2.2.2 = if m.kind = 5 then mupd s.2.2 m.suit true else s.2.2 := by unfold sone; rw [h8]
      rw [e8] at hi
      by_cases e : m.suit = n
      · rw [if_pos ⟨c, e⟩]
        by_cases k : m.kind = 5
        · have h7 := h7 k
          rw [e] at h7
          rw [if_pos k, mget_put, if_pos e.symm, if_pos rfl] at hi
          rw [h7, if_neg (by simp)]
          have : apps [m] = 1 := by simp [apps, k]
          omega
        · rw [if_neg k] at hi
          have : apps [m] = 0 := by simp [apps, k]
          omega
      · rw [if_neg (fun q => e q.2)]
        have z : apps [] = 0 := rfl
        by_cases k : m.kind = 5
        · rw [if_pos k, mget_put, if_neg (fun q : n = m.suit => e q.symm)] at hi
          omega
        · rw [if_neg k] at hi
          omega
    · rw [if_neg (fun q => c q.1)]
      have z : apps [] = 0 := rfl
      have e8 : (sone suits s m).2 = s := sstep_err c
      rw [e8] at hi ⊢
      omega
/-- a stage, and whether a suit has moves -/
theorem srun_stage (suits : List Suit) (n : Nat) (l : List Move) : ∀ s : Int × List Int × List (Int × Bool), n < s.2.1.length → 0 ≤ s.2.1.getD n default → s.2.1.getD n default ≤ 5 →
    0 ≤ (srun suits l s).2.2.1.getD n default ∧ (srun suits l s).2.2.1.getD n default ≤ 5 ∧ ((srun suits l s).2.2.1.getD n default = 0 ↔ s.2.1.getD n default = 0 ∧ sown suits n l s = []) := by
  induction l with
  | nil => intro s h0 h1 h2; exact ⟨h1, h2, by simp [srun, sown]⟩
  | cons m l ih =>
    intro s h0 h1 h2
    by_cases c : (sone suits s m).1 = 0
    · obtain ⟨g1, g2, g3, g4, g5, g6, g7, g8⟩ := sstep_ok c
      have e8 : (sone suits s m).2.2.1 = s.2.1.set m.suit.toNat (nextT m.kind (s.2.1.getD m.suit.toNat default)).1 := by unfold sone; rw [g8]
      obtain ⟨r1, r2⟩ := nextT_range g6
      by_cases e : m.suit = n
      · have hn : m.suit.toNat = n := by omega
        rw [hn] at e8 r1 r2
        have e9 : (sone suits s m).2.2.1.getD n default = (nextT m.kind (s.2.1.getD n default)).1 := by rw [e8]; simp [List.getD, h0]
        obtain ⟨i1, i2, i3⟩ := ih (sone suits s m).2 (by rw [e8]; simpa using h0) (by rw [e9]; omega) (by rw [e9]; omega)
        refine ⟨i1, i2, ?_⟩
        simp only [srun, sown]
        rw [if_pos ⟨c, e⟩, i3, e9]
        constructor
        · rintro ⟨q, -⟩; omega
        · rintro ⟨-, q⟩; simp at q
      · have hn : ¬ m.suit.toNat = n := by omega
        have e9 : (sone suits s m).2.2.1.getD n default = s.2.1.getD n default := by rw [e8]; simp [List.getD, List.getElem?_set_ne hn]
        obtain ⟨i1, i2, i3⟩ := ih (sone suits s m).2 (by rw [e8]; simpa using h0) (by rw [e9]; omega) (by rw [e9]; omega)
        refine ⟨i1, i2, ?_⟩
        simp only [srun, sown]
        rw [if_neg (fun q => e q.2), i3, e9]
        rfl
    · have e8 : (sone suits s m).2 = s := sstep_err c
      have i := ih s h0 h1 h2
      simp only [srun, sown]
      rw [if_neg (fun q => c q.1), e8]
      exact i
theorem sbeg_at (suits : List Suit) (n : Nat) (h : n < suits.length) : (sbeg suits).2.1.getD n default = 0 := by simp [sbeg, List.getD, h]
theorem u8wf {n : Int} (h : (Lit.int .u8 n).wf = true) : 0 ≤ n ∧ n < 256 := by
  simp only [Lit.wf, Bool.and_eq_true, decide_eq_true_eq] at h
  have h1 : IntKind.u8.min = 0 := rfl
  have h2 : IntKind.u8.max = 255 := rfl
  omega
theorem runs_n {w : Int} (h : 0 ≤ w ∧ w < 256) {l : Nat} (hl : 0 < l) : ∃ n : Nat, n < l ∧ (w64 w).tmod (l : Int) = (n : Int) := by
  rw [w64_id (by omega) (by omega)]
  have h1 := Int.emod_nonneg w (b := (l : Int)) (by omega)
  have h2 := Int.emod_lt_of_pos w (b := (l : Int)) (by omega)
  rw [Int.tmod_eq_emod_of_nonneg h.1]
  exact ⟨(w % (l : Int)).toNat, by omega, by omega⟩
theorem runs_k {w : Int} (h : 0 ≤ w ∧ w < 256) {l : Nat} (hl : l ≤ 1000) : ∃ n : Nat, n ≤ l ∧ (w64 w).tmod (w64 ((l : Int) + 1)) = (n : Int) := by
  rw [w64_id (n := (l : Int) + 1) (by omega) (by omega)]
  obtain ⟨n, h1, h2⟩ := runs_n h (l := l + 1) (by omega)
  exact ⟨n, by omega, by rw [← h2]; rfl⟩
theorem len_st (suits : List Suit) (l : List Move) : (srun suits l (sbeg suits)).2.2.1.length = suits.length := by
  rw [srun_stages]; simp [sbeg]
theorem subL_tk {α : Type} [Inhabited α] {l : List α} {n : Nat} (h : n ≤ l.length) : subL l 0 n = l.take n := by
  refine List.ext_getElem (by simp [subL, h]) (fun q h1 h2 => ?_)
  have hq : q < l.length := by simp at h2; omega
  simp [subL, List.getD, hq]
theorem runs_take (suits : List Suit) (moves : List Move) {k : Nat} (h : k ≤ moves.length) : (srun suits (subL moves 0 k) (sbeg suits)).1 = subL (srun suits moves (sbeg suits)).1 0 k := by
  rw [subL_tk h, subL_tk (by rw [srun_len]; exact h), srun_take _ _ _ _ h]
theorem runs_late {suits : List Suit} {moves : List Move} {n k i : Nat} (hk : k ≤ i) (hi : i < moves.length) (h5 : (srun suits (subL moves 0 k) (sbeg suits)).2.2.1.getD n default = 5) (he : (srun suits moves (sbeg suits)).1.getD i default = 0) (hs : (moves.getD i default).suit = (n : Int)) : False := by
  rw [subL_tk (by omega)] at h5
  have e : moves.take i = moves.take k ++ (moves.take i).drop k := by
    have := (List.take_append_drop k (moves.take i)).symm
    rwa [List.take_take, Nat.min_eq_left hk] at this
  have hx : (srun suits (moves.take i) (sbeg suits)).2.2.1.getD n default = 5 := by
    rw [e, srun_append]
    exact srun_end suits n _ _ h5
  rw [srun_get suits moves _ i hi] at he
  obtain ⟨-, -, -, -, -, h6, -, -⟩ := sstep_ok he
  rw [hs, Int.toNat_natCast, hx, nextT_end] at h6
  cases h6
theorem runs_alone (suits : List Suit) (moves : List Move) {n : Nat} (h : n < suits.length) : (∀ x, x ∈ (srun suits (sown suits n moves (sbeg suits)) (sbeg suits)).1 → x = 0) ∧ (srun suits (sown suits n moves (sbeg suits)) (sbeg suits)).2.2.1.getD n default = (srun suits moves (sbeg suits)).2.2.1.getD n default := by
  have := srun_like suits n moves (sbeg suits) (sbeg suits) ⟨Int.le_refl _, by simpa [sbeg] using h, by simpa [sbeg] using h, rfl, rfl⟩
  exact ⟨this.1, this.2.st⟩
theorem runs_apps (suits : List Suit) (l : List Move) (n : Int) : 0 ≤ apps (sown suits n l (sbeg suits)) ∧ apps (sown suits n l (sbeg suits)) ≤ 1 :=
  ⟨by unfold apps; omega, apps_le suits n l (sbeg suits)⟩
theorem runs_stage (suits : List Suit) (moves : List Move) {n : Nat} (h : n < suits.length) : 0 ≤ (srun suits moves (sbeg suits)).2.2.1.getD n default ∧ (srun suits moves (sbeg suits)).2.2.1.getD n default ≤ 5 ∧ ((srun suits moves (sbeg suits)).2.2.1.getD n default = 0 ↔ sown suits n moves (sbeg suits) = []) := by
  have h0 := sbeg_at suits n h
  have := srun_stage suits n moves (sbeg suits) (by simpa [sbeg] using h) (by omega) (by omega)
  exact ⟨this.1, this.2.1, this.2.2.trans ⟨fun x => x.2, fun x => ⟨h0, x⟩⟩⟩
theorem runs_in {suits : List Suit} {moves : List Move} {n i : Nat} (hi : i < moves.length) (h : (srun suits moves (sbeg suits)).1.getD i default = 0 ∧ (moves.getD i default).suit = (n : Int)) : sown suits n (moves.take i) (sbeg suits) ++ [moves.getD i default] = sown suits n (moves.take (i + 1)) (sbeg suits) := by
  rw [sown_snoc suits n moves i hi, ← srun_get suits moves _ i hi, if_pos h]
theorem runs_out {suits : List Suit} {moves : List Move} {n i : Nat} (hi : i < moves.length) (h : ¬ (srun suits moves (sbeg suits)).1.getD i default = 0 ∨ ¬ (moves.getD i default).suit = (n : Int)) : sown suits n (moves.take i) (sbeg suits) = sown suits n (moves.take (i + 1)) (sbeg suits) := by
  rw [sown_snoc suits n moves i hi, ← srun_get suits moves _ i hi, if_neg (fun q => h.elim (fun a => a q.1) (fun a => a q.2)), List.append_nil]
theorem apps_one (l : List Move) (m : Move) : apps (l ++ [m]) = apps l + if m.kind = 5 then 1 else 0 := by
  rw [apps_append]
  by_cases k : m.kind = 5 <;> simp [apps, k]
theorem sown_len (suits : List Suit) (n : Int) (l : List Move) : ∀ s, (sown suits n l s).length ≤ l.length := by
  induction l with
  | nil => intro s; exact Nat.le_refl _
  | cons m l ih =>
    intro s
    have := ih (sone suits s m).2
    simp only [sown, List.length_append, List.length_cons]
    split <;> simp <;> omega
noncomputable def allongelaw46_SuitRuns_sk (suits : List Suit) (moves : List Move) (which : Int) (at_ : Int) : Sk (Bool) :=
 .r 1 allongelaw46_small_k.c fun x1 =>
 .br (((decide (((suits.length : Nat) : Int) > 40)) || (decide (((moves.length : Nat) : Int) > 110))) || (((suits.length : Nat) : Int) == 0))
 (.fin x1)
 (.r 4 (.p ((w64 (((moves.length : Nat) : Int) + 1)) ≠ 0)) fun _ =>
 .r 5 (.p (((suits.length : Nat) : Int) ≠ 0)) fun _ =>
 .r 6 ((suit_Run_k suits moves).c) fun x2 =>
 .r 7 (.andl (.andl (.o [.nrm (subC Move.E moves 0 (((w64 (at_)).tmod (w64 (((moves.length : Nat) : Int) + 1))).toNat))]) (.pt (0 ≤ ((w64 (at_)).tmod (w64 (((moves.length : Nat) : Int) + 1))) ∧ ((w64 (at_)).tmod (w64 (((moves.length : Nat) : Int) + 1))) ≤ ((moves.length : Nat) : Int)) (Move.E.lens moves))) ((suit_Run_k suits (subL moves 0 (((w64 (at_)).tmod (w64 (((moves.length : Nat) : Int) + 1))).toNat))).c)) fun x3 =>
 .r 8 (.andl (.wh (((((x2.1.length : Nat) : Int) != ((suits.length : Nat) : Int)) || (((x3.1.length : Nat) : Int) != ((suits.length : Nat) : Int))) || (((x2.2.length : Nat) : Int) != ((moves.length : Nat) : Int))) false (.andl (.o [.nrm (subC intE x2.2 0 (((w64 (at_)).tmod (w64 (((moves.length : Nat) : Int) + 1))).toNat))]) (.pt (0 ≤ ((w64 (at_)).tmod (w64 (((moves.length : Nat) : Int) + 1))) ∧ ((w64 (at_)).tmod (w64 (((moves.length : Nat) : Int) + 1))) ≤ ((x2.2.length : Nat) : Int)) (intE.lens x2.2)))) (.wh (((((x2.1.length : Nat) : Int) != ((suits.length : Nat) : Int)) || (((x3.1.length : Nat) : Int) != ((suits.length : Nat) : Int))) || (((x2.2.length : Nat) : Int) != ((moves.length : Nat) : Int))) false ((allongeref46_SameErrors_k x3.2 (subL x2.2 0 (((w64 (at_)).tmod (w64 (((moves.length : Nat) : Int) + 1))).toNat))).c))) fun x4 =>
 .br ((((((x2.1.length : Nat) : Int) != ((suits.length : Nat) : Int)) || (((x3.1.length : Nat) : Int) != ((suits.length : Nat) : Int))) || (((x2.2.length : Nat) : Int) != ((moves.length : Nat) : Int))) || (!x4))
 (.fin false)
 (.r 10 (.o [.nrm (litC Move.E ([] : List Move))]) fun _ =>
 .bind true (fun b5 => b5.1 = sown suits ((w64 which).tmod ((suits.length : Nat) : Int)) moves (sbeg suits) ∧ b5.2 = apps b5.1)
 (.loop (default : Sum (Bool) ((List Move) × Int)) (fun i6 => i6.2.2 ≤ moves.length ∧ i6.1 = sown suits ((w64 which).tmod ((suits.length : Nat) : Int)) (moves.take i6.2.2) (sbeg suits) ∧ i6.2.1 = apps i6.1) (fun i6 => moves.length - i6.2.2) ((([] : List Move), 0, 0) : (List Move) × Int × Nat)
 (fun (i6 : (List Move) × Int × Nat) => ⟨[(16, ow 100002 i6.1), (17, iv i6.2.1), (18, iv ((i6.2.2 : Nat) : Int))], [(100002, rowB 32 4 Move.cells i6.1)]⟩) fun i6 =>
 .bnd 1 0 moves.length <|
 .br (decide (((i6.2.2 : Nat) : Int) < ((moves.length : Nat) : Int)))
 (.r 15 (.andl (.p (ixP ((i6.2.2 : Nat) : Int) x2.2.length)) (.wh ((x2.2.getD i6.2.2 default) == 0) true (.p (ixP ((i6.2.2 : Nat) : Int) moves.length)))) fun _ =>
 .br (((x2.2.getD i6.2.2 default) == 0) && (((moves.getD i6.2.2 default).suit) == ((w64 (which)).tmod ((suits.length : Nat) : Int))))
 (.r 16 (.andl (.p (ixP ((i6.2.2 : Nat) : Int) moves.length)) (.andl (.o [.nrm (litC Move.E [moves.getD i6.2.2 default])]) (.andl (.o [.nrm (catC Move.E i6.1 [moves.getD i6.2.2 default])]) (.andl (.t (Move.E.ones [moves.getD i6.2.2 default])) (.p (szP i6.1.length [moves.getD i6.2.2 default].length 32)))))) fun _ =>
 .r 17 (.p (ixP ((i6.2.2 : Nat) : Int) moves.length)) fun _ =>
 .bind false (fun b7 => b7 = i6.2.1 + (if (moves.getD i6.2.2 default).kind = 5 then 1 else 0))
 (.br (((moves.getD i6.2.2 default).kind) == 5)
 (.fin (.inr (w64 (i6.2.1 + 1))))
 (.fin (.inr i6.2.1)))
 (fun (b7 : Int) => ⟨[(17, iv b7)], []⟩) fun b7 =>
 .r 19 (.wh (decide (((i6.2.2 : Nat) : Int) ≥ ((w64 (at_)).tmod (w64 (((moves.length : Nat) : Int) + 1))))) true (.p (ixP ((w64 (which)).tmod ((suits.length : Nat) : Int)) x3.1.length))) fun _ =>
 .br ((decide (((i6.2.2 : Nat) : Int) ≥ ((w64 (at_)).tmod (w64 (((moves.length : Nat) : Int) + 1))))) && ((x3.1.getD (((w64 (which)).tmod ((suits.length : Nat) : Int)).toNat) default) == 5))
 (.fin (.inl (.inl false)))
 (.r 14 .z fun _ =>
 .wi 18 (w64 (((i6.2.2 : Nat) : Int) + 1)) ((i6.2.2 + 1 : Nat) : Int) <|
 .fin (.inr (i6.1 ++ [moves.getD i6.2.2 default], b7, i6.2.2 + 1))))
 (.r 14 .z fun _ =>
 .wi 18 (w64 (((i6.2.2 : Nat) : Int) + 1)) ((i6.2.2 + 1 : Nat) : Int) <|
 .fin (.inr (i6.1, i6.2.1, i6.2.2 + 1))))
 (.fin (.inl (.inr (i6.1, i6.2.1)))))
 (fun (b5 : (List Move) × Int) => ⟨[(16, ow 100001 b5.1), (17, iv b5.2)], [(100001, rowB 32 4 Move.cells b5.1)]⟩) fun b5 =>
 .fz 100001 <|
 .r 21 ((suit_Run_k suits b5.1).c) fun x8 =>
 .bind true (fun _ => True)
 (.loop (default : Sum (Bool) (Unit)) (fun i10 => i10 ≤ x8.2.length) (fun i10 => x8.2.length - i10) (0 : Nat)
 (fun (i10 : Nat) => ⟨[(21, iv ((i10 : Nat) : Int))], []⟩) fun i10 =>
 .bnd 20 0 x8.2.length <|
 .br (decide (((i10 : Nat) : Int) < ((x8.2.length : Nat) : Int)))
 (.r 25 (.p (ixP ((i10 : Nat) : Int) x8.2.length)) fun _ =>
 .br ((x8.2.getD i10 default) != 0)
 (.fin (.inl (.inl false)))
 (.r 24 .z fun _ =>
 .wi 21 (w64 (((i10 : Nat) : Int) + 1)) ((i10 + 1 : Nat) : Int) <|
 .fin (.inr (i10 + 1))))
 (.fin (.inl (.inr ()))))
 (fun (_ : Unit) => ⟨[], []⟩) fun _ =>
 .r 27 (.andl (.wh (x1 && (((x8.1.length : Nat) : Int) == ((suits.length : Nat) : Int))) true (.p (ixP ((w64 (which)).tmod ((suits.length : Nat) : Int)) x8.1.length))) (.andl (.wh (x1 && (((x8.1.length : Nat) : Int) == ((suits.length : Nat) : Int))) true (.p (ixP ((w64 (which)).tmod ((suits.length : Nat) : Int)) x2.1.length))) (.andl (.wh (((x1 && (((x8.1.length : Nat) : Int) == ((suits.length : Nat) : Int))) && ((x8.1.getD (((w64 (which)).tmod ((suits.length : Nat) : Int)).toNat) default) == (x2.1.getD (((w64 (which)).tmod ((suits.length : Nat) : Int)).toNat) default))) && (decide (b5.2 ≤ 1))) true (.p (ixP ((w64 (which)).tmod ((suits.length : Nat) : Int)) x2.1.length))) (.andl (.wh ((((x1 && (((x8.1.length : Nat) : Int) == ((suits.length : Nat) : Int))) && ((x8.1.getD (((w64 (which)).tmod ((suits.length : Nat) : Int)).toNat) default) == (x2.1.getD (((w64 (which)).tmod ((suits.length : Nat) : Int)).toNat) default))) && (decide (b5.2 ≤ 1))) && (decide ((x2.1.getD (((w64 (which)).tmod ((suits.length : Nat) : Int)).toNat) default) ≥ 0))) true (.p (ixP ((w64 (which)).tmod ((suits.length : Nat) : Int)) x2.1.length))) (.wh (((((x1 && (((x8.1.length : Nat) : Int) == ((suits.length : Nat) : Int))) && ((x8.1.getD (((w64 (which)).tmod ((suits.length : Nat) : Int)).toNat) default) == (x2.1.getD (((w64 (which)).tmod ((suits.length : Nat) : Int)).toNat) default))) && (decide (b5.2 ≤ 1))) && (decide ((x2.1.getD (((w64 (which)).tmod ((suits.length : Nat) : Int)).toNat) default) ≥ 0))) && (decide ((x2.1.getD (((w64 (which)).tmod ((suits.length : Nat) : Int)).toNat) default) ≤ 5))) true (.p (ixP ((w64 (which)).tmod ((suits.length : Nat) : Int)) x2.1.length))))))) fun _ =>
 .fin ((((((x1 && (((x8.1.length : Nat) : Int) == ((suits.length : Nat) : Int))) && ((x8.1.getD (((w64 (which)).tmod ((suits.length : Nat) : Int)).toNat) default) == (x2.1.getD (((w64 (which)).tmod ((suits.length : Nat) : Int)).toNat) default))) && (decide (b5.2 ≤ 1))) && (decide ((x2.1.getD (((w64 (which)).tmod ((suits.length : Nat) : Int)).toNat) default) ≥ 0))) && (decide ((x2.1.getD (((w64 (which)).tmod ((suits.length : Nat) : Int)).toNat) default) ≤ 5))) && (((x2.1.getD (((w64 (which)).tmod ((suits.length : Nat) : Int)).toNat) default) == 0) == (((b5.1.length : Nat) : Int) == 0)))))
noncomputable def allongelaw46_SuitRuns (suits : List Suit) (moves : List Move) (which : Int) (at_ : Int) : Bool := (allongelaw46_SuitRuns_sk suits moves which at_).val
theorem allongelaw46_SuitRuns_pst (suits : List Suit) (moves : List Move) (which : Int) (at_ : Int) (hP : (0 ≤ which ∧ which < 256) ∧ (0 ≤ at_ ∧ at_ < 256)) : (allongelaw46_SuitRuns_sk suits moves which at_).pst (fun (x : Bool) => x = true) := by
  refine Sk.pst_of _ ?_
  unfold allongelaw46_SuitRuns_sk
  simp only [Sk.pstq, Sk.isLoop, reduceCtorEq, ON, kk, allongelaw46_small_k, allongeref46_SameErrors_k, suit_Run_k, maxLen]
  all_goals simp only [LN] at *
  intro x1 _ hx1
  refine ⟨fun _ => hx1, fun hc => ?_⟩
  obtain ⟨n, hn, hN⟩ := runs_n hP.1 (l := suits.length) (by omega)
  obtain ⟨k, hk, hK⟩ := runs_k hP.2 (l := moves.length) (by omega)
  simp only [hN, hK, Int.toNat_natCast]
  intro _ _ x3 _ h3 x4 _ h4 x5 _ h5
  subst h3 h4
  simp only at h5 ⊢
  have e5 : x5 = true := h5 (runs_take suits moves hk)
  have l1 := len_st suits moves
  have l2 := len_st suits (subL moves 0 k)
  have l3 := srun_len suits moves (sbeg suits)
  refine ⟨fun hb => ?_, fun _ _ => ⟨⟨⟨by omega, rfl, rfl⟩, fun i hi => ⟨fun hlt _ => ⟨fun hm _ _ => ⟨⟨fun h => ?_, fun h => ?_⟩, fun b _ hb _ => ⟨fun hl => ?_, fun _ _ => ⟨⟨by omega, ?_, ?_⟩, by omega⟩⟩⟩, fun hm _ => ⟨⟨by omega, ?_, hi.2.2⟩, by omega⟩⟩, fun hge => ?_⟩⟩, fun b hb x7 _ h7 => ?_⟩⟩
  · rcases hb with ((hb | hb) | hb) | hb
    · omega
    · omega
    · omega
    · rw [e5] at hb; cases hb
  · rw [if_pos h, w64_id]
    all_goals have := runs_apps suits (moves.take i.2.2) (n : Int)
    all_goals rw [hi.2.2, hi.2.1]
    all_goals omega
  · rw [if_neg h]; omega
  · exact runs_late (by omega) (by omega) hl.2 hm.1 hm.2
  · rw [hi.2.1]; exact runs_in (by omega) hm
  · rw [apps_one, hb, hi.2.2]
  · rw [hi.2.1]; exact runs_out (by omega) hm
  · have e : moves.take i.2.2 = moves := List.take_of_length_le (by omega)
    have h1 := hi.2.1
    rw [e] at h1
    exact ⟨h1, hi.2.2⟩
  · subst h7
    simp only
    obtain ⟨a1, a2⟩ := runs_alone suits moves hn
    obtain ⟨s1, s2, s3⟩ := runs_stage suits moves hn
    have l4 := len_st suits b.1
    have ha := runs_apps suits moves (n : Int)
    refine ⟨⟨by omega, fun i _ hlt _ => ⟨fun hne => hne ?_, fun _ _ => by omega⟩⟩, fun _ _ => ⟨⟨⟨⟨⟨⟨hx1, by omega⟩, ?_⟩, ?_⟩, by omega⟩, by omega⟩, ?_⟩⟩
    · rw [hb.1] at hlt ⊢
      refine a1 _ ?_
      rw [List.getD_eq_getElem?_getD, List.getElem?_eq_getElem (by omega)]
      exact List.getElem_mem _
    · rw [hb.1]; exact a2
    · rw [hb.2, hb.1]; exact ha.2
    · rw [Bool.eq_iff_iff, beq_iff_eq, beq_iff_eq, s3, hb.1]
      constructor
      · intro h; rw [h]; rfl
      · intro h; exact List.eq_nil_of_length_eq_zero (by omega)

theorem allongelaw46_SuitRuns_post (suits : List Suit) (moves : List Move) (which : Int) (at_ : Int) : (fun (x : Bool) => ((0 ≤ which ∧ which < 256) ∧ (0 ≤ at_ ∧ at_ < 256)) → (x = true)) (allongelaw46_SuitRuns suits moves which at_) := fun hP => Sk.pval _ (allongelaw46_SuitRuns_pst suits moves which at_ hP)
theorem allongelaw46_SuitRuns_ok (suits : List Suit) (moves : List Move) (which : Int) (at_ : Int) (hw : 0 ≤ which ∧ which < 256) (ha : 0 ≤ at_ ∧ at_ < 256) : (allongelaw46_SuitRuns_sk suits moves which at_).obs (fun _ => True) := by
  refine Sk.obs_of _ ?_
  unfold allongelaw46_SuitRuns_sk
  simp only [Sk.obq, Sk.isLoop, reduceCtorEq, ON, kk, allongelaw46_small_k, allongeref46_SameErrors_k, suit_Run_k, maxLen]
  all_goals simp only [LN] at *
  intro x1 _ hx1 hc
  obtain ⟨n, hn, hN⟩ := runs_n hw (l := suits.length) (by omega)
  obtain ⟨k, hk, hK⟩ := runs_k ha (l := moves.length) (by omega)
  simp only [hN, hK, Int.toNat_natCast]
  refine ⟨by rw [w64_id (by omega) (by omega)]; omega, fun _ => ⟨hc.2, fun _ => ⟨⟨by omega, by omega⟩, fun x3 _ h3 => ⟨⟨⟨by omega, by omega⟩, by omega, by omega⟩, fun x4 _ h4 => ⟨fun h => ⟨by omega, by omega⟩, fun x5 _ h5 hl _ => ?_⟩⟩⟩⟩⟩
  subst h3 h4
  simp only at h5 hl ⊢
  have l1 := len_st suits moves
  have l2 := len_st suits (subL moves 0 k)
  have l3 := srun_len suits moves (sbeg suits)
  refine ⟨⟨⟨by omega, rfl, rfl⟩, fun i hi _ => ?_⟩, fun b hb => ?_⟩
  · have ga := runs_apps suits (moves.take i.2.2) (n : Int)
    have gl := sown_len suits n (moves.take i.2.2) (sbeg suits)
    rw [List.length_take] at gl
    have g1 : i.1.length ≤ 110 := by rw [hi.2.1]; omega
    have g2 : 0 ≤ i.2.1 ∧ i.2.1 ≤ 1 := by rw [hi.2.2, hi.2.1]; exact ga
    refine ⟨fun hlt => ⟨⟨⟨by omega, by omega⟩, fun _ => ⟨by omega, by omega⟩⟩, fun _ => ⟨fun hm => ⟨⟨⟨by omega, by omega⟩, by omega, by omega⟩, fun _ => ⟨⟨by omega, by omega⟩, fun _ => ⟨⟨fun h => ?_, fun h => ?_⟩, fun b _ hb => ⟨fun _ => ⟨by omega, by omega⟩, fun _ _ _ => ⟨?_, ⟨by omega, ?_, ?_⟩, by omega⟩⟩⟩⟩⟩, fun hm _ => ⟨?_, ⟨by omega, ?_, hi.2.2⟩, by omega⟩⟩⟩, fun hge => ?_⟩
    · rw [if_pos h, w64_id] <;> omega
    · rw [if_neg h]; omega
    · rw [w64_id (by omega) (by omega)]; omega
    · rw [hi.2.1]; exact runs_in (by omega) hm
    · rw [apps_one, hb, hi.2.2]
    · rw [w64_id (by omega) (by omega)]; omega
    · rw [hi.2.1]; exact runs_out (by omega) hm
    · have e : moves.take i.2.2 = moves := List.take_of_length_le (by omega)
      have h1 := hi.2.1
      rw [e] at h1
      exact ⟨h1, hi.2.2⟩
  · have gl := sown_len suits n moves (sbeg suits)
    have g1 : b.1.length ≤ 110 := by rw [hb.1]; omega
    refine ⟨⟨by omega, by omega⟩, fun x7 _ h7 => ?_⟩
    subst h7
    have l4 := len_st suits b.1
    simp only
    refine ⟨⟨by omega, fun i _ _ hlt => ⟨⟨by omega, by omega⟩, fun _ _ _ => ⟨by rw [w64_id (by omega) (by omega)]; omega, by omega, by omega⟩⟩⟩, fun _ => ⟨fun _ => ⟨by omega, by omega⟩, fun _ => ⟨by omega, by omega⟩, fun _ => ⟨by omega, by omega⟩, fun _ => ⟨by omega, by omega⟩, fun _ => ⟨by omega, by omega⟩⟩⟩

noncomputable def allongelaw46_SuitRuns_k (suits : List Suit) (moves : List Move) (which : Int) (at_ : Int) : Ctr (Bool) := kk tok mixed Tryz.func3 [lv Suit.cells suits, lv Move.cells moves, .d (.v (.int .u8 which)), .d (.v (.int .u8 at_))] (fun x => bv x) true (allongelaw46_SuitRuns_sk suits moves which at_) (allongelaw46_SuitRuns suits moves which at_) (fun (h : (0 ≤ which ∧ which < 256) ∧ (0 ≤ at_ ∧ at_ < 256)) => allongelaw46_SuitRuns_ok suits moves which at_ h.1 h.2) (fun (x : Bool) => ((0 ≤ which ∧ which < 256) ∧ (0 ≤ at_ ∧ at_ < 256)) → (x = true)) (allongelaw46_SuitRuns_post suits moves which at_)
theorem allongelaw46_SuitRuns_fn (suits : List Suit) (moves : List Move) (which : Int) (at_ : Int) (hw : 0 ≤ which ∧ which < 256) (ha : 0 ≤ at_ ∧ at_ < 256) : FnA Tryz.prog 3 [lv Suit.cells suits, lv Move.cells moves, .d (.v (.int .u8 which)), .d (.v (.int .u8 at_))] [] (bv (allongelaw46_SuitRuns suits moves which at_)) [] := (allongelaw46_SuitRuns_k suits moves which at_).pf ⟨hw, ha⟩
end Go.Proofs.YtilbddpghnnmhaaGreatDoor

