/- A function by hand. -/
import Derived.Test.YtbcnlpcaajpclaaGreatDoorPl9
import Derived.Test.YtbcnlpcaajpclaaGreatDoorAvYl
namespace Go.Proofs.YtbcnlpcaajpclaaGreatDoor
open Go Go.Av
set_option linter.unusedSimpArgs false
set_option linter.unusedVariables false
set_option maxHeartbeats 1000000
set_option maxRecDepth 100000
noncomputable def endOk (f : File) (day part : Int) (i : Nat) : Bool :=
 ((((f.signs.getD i default).kind == 2) && ((f.signs.getD i default).part == part)) && decide ((f.signs.getD i default).day ≤ day)) && !(mget (title_struck f day) ((i : Nat) : Int) false)
noncomputable def title_endorsements_c1 (f : File) (day part : Int) : List (Int × Sign) := ((List.range f.signs.length).filter (endOk f day part)).map fun i => (((i : Nat) : Int), f.signs.getD i default)
def endEnc (y : Int × Sign) : List AV := [iv y.1, av y.2.cells]
noncomputable def endB : Code := Tryz.f210.body.getD .skip
noncomputable def endL : Code := cA (cA (cB (cB endB)))
noncomputable def endB1 : Code := cA (cB (cB endL))
noncomputable def endOps : Array Oper := opsOf (cA (cB (cA endB1)))
noncomputable def endI (f : File) (day part : Int) (m : List (Int × Bool)) (i : Nat) : List (Nat × AV) := [(2, .ref [dI day]), (3, .ref [dI part]), (5, pmM dB m), (12, lv Sign.cells f.signs), (13, iv ((f.signs.length : Nat) : Int)), (14, iv ((i : Nat) : Int))]
noncomputable def endCnt (f : File) (day part : Int) (i : Nat) : Nat := ((List.range i).filter (endOk f day part)).length
noncomputable def endK : List Item := [.code (cB (cB (cA endB1))), .inBlock 1, .code (cB (cB (cB endL))), .inLoop endL, .inBlock 0]
theorem endCnt_get (f : File) (day part : Int) {i : Nat} (hi : i < f.signs.length) (h : endOk f day part i = true) : ((title_endorsements_c1 f day part).map endEnc)[endCnt f day part i]? = some (endEnc (((i : Nat) : Int), f.signs.getD i default)) := by
 have e : List.range f.signs.length = List.range i ++ i :: (List.range' (i + 1) (f.signs.length - i - 1)) := by
  rw [List.range_eq_range', List.range_eq_range']
  have h1 := List.range'_append (s := 0) (m := i) (n := f.signs.length - i) (step := 1)
  have h2 : f.signs.length - i = (f.signs.length - i - 1) + 1 := by omega
  rw [show f.signs.length = i + (f.signs.length - i) by omega, ← h1, h2, List.range'_succ]
  simp
 unfold title_endorsements_c1 endCnt
 rw [e, List.filter_append, List.filter_cons_of_pos h]
 simp
theorem endCnt_succ (f : File) (day part : Int) (i : Nat) : endCnt f day part (i + 1) = bif endOk f day part i then endCnt f day part i + 1 else endCnt f day part i := by
 unfold endCnt
 rw [List.range_succ, List.filter_append]
 cases h : endOk f day part i <;> simp [h]
noncomputable def endO (q : Nat) : Oper := endOps.getD q default
noncomputable def endJ (f : File) (day part : Int) (i : Nat) (sl : List (Nat × AV)) : St := ⟨sl ++ [(6, iv ((i : Nat) : Int)), (7, .ptr 7 0)] ++ endI f day part (title_struck f day) i, [(7, .box ((f.signs.getD i default).cells.map .d))]⟩
noncomputable def endS1 (f : File) (i : Nat) : Sk Bool :=
 .bnd 12 0 f.signs.length <| .br (decide (((i : Nat) : Int) < ((f.signs.length : Nat) : Int))) (.r 3 (.p (ixP ((i : Nat) : Int) f.signs.length)) fun _ => .fin true) (.fin false)
noncomputable def endS2 (f : File) (i : Nat) : Sk Unit :=
 .bnd 12 0 f.signs.length <| .brf <| .r 5 .z fun _ => .wi 14 (w64 (((i : Nat) : Int) + 1)) ((i + 1 : Nat) : Int) <| .fin ()
noncomputable def endCal (f : File) (day part : Int) (i : Nat) : Cal Unit :=
 .wh ((((f.signs.getD i default).kind == 2) && ((f.signs.getD i default).part == part)) && decide ((f.signs.getD i default).day ≤ day)) true (.andl (.t (keysM dB (title_struck f day))) (.o [.cast 37 (getM dB (title_struck f day) ((i : Nat) : Int) false)]))
theorem title_endorsements_c1_itA (f : File) (day part : Int) : ItA Tryz.prog 210 [.ref f.cells, .ref [dI day], .ref [dI part]] ((title_endorsements_c1 f day part).map endEnc) := by
 refine ItA.intro (T := TT) Tryz.func210 rfl (by kernel_rfl) (Nat.le_of_ble_eq_true (by kernel_rfl)) (fun X => ?_)
 have hr4 : cA (cB (cA endB1)) = .region 4 endOps false := by kernel_rfl
 have hrg : List.range' 22 (endOps.size - 22) = [22, 23, 24, 25, 26, 27] := by kernel_rfl
 have key : ∀ d i, i + d = f.signs.length → G (X.g TT Tryz.f210 (X.H (endCnt f day part i))) [.code endL, .inLoop endL, .inBlock 0] ⟨endI f day part (title_struck f day) i, []⟩ := by
  intro d
  induction d with
  | zero =>
   intro i hi
   refine ItX.sk tok mixed Tryz.func210 _ (endS1 f i) (fun b => bif b then .go (.code (cA (cB (cA endB1))) :: endK) (endJ f day part i []) else .go [] ⟨[], []⟩) 100 (by kernel_rfl) ?_ ?_
   ·refine Sk.obs_of _ ?_
    simp only [endS1, Sk.obq, Cal.p, ixP, implies_true, and_true]
    intro h hd
    simp at hd
    omega
   ·intro a ha
    have : (endS1 f i).val = false := by simp only [endS1, Sk.val]; simp; omega
    rw [this] at ha
    subst ha
    refine (ItX.ret Tryz.func210 (by kernel_rfl) (fun C h => .inl ?_)).1
    have e : endCnt f day part i = ((title_endorsements_c1 f day part).map endEnc).length := by
     have : i = f.signs.length := by omega
     subst this
     simp [endCnt, title_endorsements_c1]
    rw [← e]
    exact h
  | succ d ih =>
   intro i hi
   have hlt : i < f.signs.length := by omega
   refine ItX.sk tok mixed Tryz.func210 _ (endS1 f i) (fun b => bif b then .go (.code (cA (cB (cA endB1))) :: endK) (endJ f day part i []) else .go [] ⟨[], []⟩) 100 (by kernel_rfl) ?_ ?_
   ·refine Sk.obs_of _ ?_
    simp only [endS1, Sk.obq, Cal.p, ixP, implies_true, and_true]
    intro _ _
    omega
   ·intro a ha
    have : (endS1 f i).val = true := by simp only [endS1, Sk.val]; simp; omega
    rw [this] at ha
    subst ha
    show G _ _ _
    rw [hr4]
    -- behind the yield
    have next : ∀ st, LeS st ⟨(46, bv false) :: endI f day part (title_struck f day) i, []⟩ → G (X.g TT Tryz.f210 (X.H (endCnt f day part (i + 1)))) endK st := by
     intro st hst
     refine .le hst ?_
     refine ItX.sk tok mixed Tryz.func210 _ (endS2 f i) (fun _ => .go [.inLoop endL, .inBlock 0] ⟨endI f day part (title_struck f day) (i + 1), []⟩) 100 (by kernel_rfl) ?_ (fun _ _ => .inLoop (ih (i + 1) (by omega)))
     refine Sk.obs_of _ ?_
     simp only [endS2, Sk.obq, Cal.z, maxLen, implies_true, and_true]
     intro h
     refine ⟨trivial, fun _ _ _ => ?_⟩
     refine (w64_id ?_ ?_).trans ?_ <;> omega
    refine G.yr ?_
    refine YW.preC tok mixed (endCal f day part i) 22 (fun _ => endJ f day part i [(40, bv (endOk f day part i))]) (by kernel_rfl) (Nat.le_of_ble_eq_true (by kernel_rfl)) (fun _ => by kernel_rfl) ?_ ?_
    ·simp [endCal, Cal.wh, Cal.andl, Cal.t, Cal.o]
    rw [hrg]
    refine YW.know (s := 40) (b := endOk f day part i) rfl (Nat.le_of_ble_eq_true (by kernel_rfl)) ?_
    have hcs := endCnt_succ f day part i
    cases he : endOk f day part i with
    | true =>
     rw [he, cond_true] at hcs
     refine YW.mvC (o := endO 22) (d := 41) (u := 0) (by kernel_rfl) (by kernel_rfl) (by kernel_rfl) (by simp) (by kernel_rfl) ?_
     refine YW.opC tok mixed (o := endO 23) (endJ f day part i [(42, iv ((i : Nat) : Int))]) (by kernel_rfl) (by kernel_rfl) (by kernel_rfl) ?_
     refine YW.opC tok mixed (o := endO 24) (endJ f day part i [(43, av (f.signs.getD i default).cells), (42, iv ((i : Nat) : Int))]) (by kernel_rfl) (by kernel_rfl) (by kernel_rfl) ?_
     refine YW.ylC (o := endO 25) (d := 44) (u := 41) (n := endCnt f day part i) (ts := [42, 43]) (c := { callee := .value (.tmp 41), args := #[.tmp 42, .tmp 43], argTypes := #[3, 91] }) (by kernel_rfl) (by kernel_rfl) (by kernel_rfl) rfl (by simp) (by kernel_rfl) (endCnt_get f day part hlt he) rfl (by kernel_rfl) (by kernel_rfl) ?_ ?_
     ·refine YW.opC tok mixed (o := endO 26) (endJ f day part i [(45, bv false)]) (by kernel_rfl) (by kernel_rfl) (by kernel_rfl) ?_
      refine YW.pickC (o := endO 27) (d := 46) (x := .tmp 45) (y := .const (.bool false)) false (by kernel_rfl) (by kernel_rfl) (by kernel_rfl) (by kernel_rfl) (by kernel_rfl) ?_
      refine YW.nil (T := TT) (fn := Tryz.f210) (by simp) ?_
      rw [← hcs]
      exact next _ (leSt_of (by kernel_rfl))
     ·refine YW.opC tok mixed (o := endO 26) (endJ f day part i [(45, bv true)]) (by kernel_rfl) (by kernel_rfl) (by kernel_rfl) ?_
      refine YW.pickC (o := endO 27) (d := 46) (x := .tmp 45) (y := .const (.bool false)) true (by kernel_rfl) (by kernel_rfl) (by kernel_rfl) (by kernel_rfl) (by kernel_rfl) ?_
      refine YW.nil (T := TT) (fn := Tryz.f210) (by simp) ?_
      refine ItX.sk tok mixed Tryz.func210 _ (.brt (.fin ()) : Sk Unit) (fun _ => .go (.code .ret :: endK.tail) ⟨[], []⟩) 100 (by kernel_rfl) trivial (fun _ _ => (ItX.ret Tryz.func210 (by kernel_rfl) (fun C h => .inr h)).2 _)
    | false =>
     rw [he, cond_false] at hcs
     refine YW.skipC (o := endO 22) (d := 41) (by kernel_rfl) (by kernel_rfl) (by kernel_rfl) ?_
     refine YW.skipC (o := endO 23) (d := 42) (by kernel_rfl) (by kernel_rfl) (by kernel_rfl) ?_
     refine YW.skipC (o := endO 24) (d := 43) (by kernel_rfl) (by kernel_rfl) (by kernel_rfl) ?_
     refine YW.skipC (o := endO 25) (d := 44) (by kernel_rfl) (by kernel_rfl) (by kernel_rfl) ?_
     refine YW.skipC (o := endO 26) (d := 45) (by kernel_rfl) (by kernel_rfl) (by kernel_rfl) ?_
     refine YW.pickC (o := endO 27) (d := 46) (x := .tmp 45) (y := .const (.bool false)) false (by kernel_rfl) (by kernel_rfl) (by kernel_rfl) (by kernel_rfl) (by kernel_rfl) ?_
     refine YW.nil (T := TT) (fn := Tryz.f210) (by simp) ?_
     rw [← hcs]
     exact next _ (leSt_of (by kernel_rfl))
 refine ItX.sk tok mixed Tryz.func210 _ (.r 0 ((title_struck_k f day).c) fun m => .r 1 .z fun _ => .fin m : Sk (List (Int × Bool))) (fun m => .go [.code (.loop endL), .inBlock 0] ⟨endI f day part m 0, []⟩) 100 (by kernel_rfl) ?_ (fun m hm => ?_)
 ·refine Sk.obs_of _ ?_
  simp [Sk.obq, Cal.z, Ctr.c, kk, title_struck_k]
 ·have hm : m = title_struck f day := hm
  subst hm
  exact .loopIn (key f.signs.length 0 (by omega))
noncomputable def title_endorsements_c1_it (f : File) (day part : Int) : ItC (Int × Sign) := ⟨Tryz.prog, 210, [.ref f.cells, .ref [dI day], .ref [dI part]], title_endorsements_c1 f day part, endEnc, True, fun _ => title_endorsements_c1_itA f day part⟩
end Go.Proofs.YtbcnlpcaajpclaaGreatDoor
