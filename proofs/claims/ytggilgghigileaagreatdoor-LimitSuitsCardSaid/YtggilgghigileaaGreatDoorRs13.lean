/- Functions, as sketches. -/
import Derived.Test.YtggilgghigileaaGreatDoorRs12
namespace Go.Proofs.YtggilgghigileaaGreatDoor
open Go Go.Av
set_option linter.unusedSimpArgs false
set_option linter.unusedVariables false
set_option maxHeartbeats 1000000
set_option maxRecDepth 100000
noncomputable def allongelaw28_LimitSuits_sk (r : Realm) (forum : Int) (f : File) (c_ : Claim) (day : Int) (later : Int) : Sk (Bool) :=
 .r 1 allongelaw28_sane_k.c fun x1 =>
 .r 2 ((allongelaw28_bounded_k r f).c) fun x2 =>
 .br ((((((!x2) || (decide (((f.acts.length : Nat) : Int) > 99))) || (decide (c_.creditor < 0))) || (decide (c_.creditor ≥ ((r.firms.length : Nat) : Int)))) || (decide (c_.sign < 0))) || (decide (c_.sign ≥ ((f.signs.length : Nat) : Int))))
 (.fin x1)
 (.r 4 ((limit_End_k r forum f c_ day).c) fun x3 =>
 .bind true (fun b4 => ∀ q, q < f.acts.length → (f.acts.getD q default).day ≤ day)
 (.loop (default : Sum (Bool) (Unit)) (fun i5 => i5 ≤ f.acts.length ∧ ∀ q, q < i5 → (f.acts.getD q default).day ≤ day) (fun i5 => f.acts.length - i5) (0 : Nat)
 (fun (i5 : Nat) => ⟨[(16, iv ((i5 : Nat) : Int))], []⟩) fun i5 =>
 .bnd 8 17 f.acts.length <|
 .br (decide (((i5 : Nat) : Int) < ((f.acts.length : Nat) : Int)))
 (.r 8 (.p (ixP ((i5 : Nat) : Int) f.acts.length)) fun _ =>
 .br (decide (((f.acts.getD i5 default).day) > day))
 (.fin (.inl (.inl x1)))
 (.r 7 .z fun _ =>
 .wi 16 (w64 (((i5 : Nat) : Int) + 1)) ((i5 + 1 : Nat) : Int) <|
 .fin (.inr (i5 + 1))))
 (.fin (.inl (.inr ()))))
 (fun (_ : Unit) => ⟨[], []⟩) fun _ =>
 .r 10 (.p (ixP c_.sign f.signs.length)) fun _ =>
 .r 12 (.andl (.o [.nrm (litC ActX.E ([] : List ActX))]) (.andl (.andl (.o [.nrm (catC ActX.E ([] : List ActX) f.acts)]) (.andl (.t (ActX.E.src f.acts)) (.p (szP (([] : List ActX).length) f.acts.length 72)))) (.andl (.o [.nrm (litC ActX.E [({ kind := 8, who := c_.creditor, to_ := (-1), part := (f.signs.getD c_.sign.toNat default).part, at_ := c_.sign, sum := 0, day := day, city := (f.signs.getD c_.sign.toNat default).city, form := 0 } : ActX)])]) (.andl (.o [.nrm (catC ActX.E (([] : List ActX) ++ f.acts) [({ kind := 8, who := c_.creditor, to_ := (-1), part := (f.signs.getD c_.sign.toNat default).part, at_ := c_.sign, sum := 0, day := day, city := (f.signs.getD c_.sign.toNat default).city, form := 0 } : ActX)])]) (.andl (.t (ActX.E.ones [({ kind := 8, who := c_.creditor, to_ := (-1), part := (f.signs.getD c_.sign.toNat default).part, at_ := c_.sign, sum := 0, day := day, city := (f.signs.getD c_.sign.toNat default).city, form := 0 } : ActX)])) (.p (szP ((([] : List ActX) ++ f.acts).length) [({ kind := 8, who := c_.creditor, to_ := (-1), part := (f.signs.getD c_.sign.toNat default).part, at_ := c_.sign, sum := 0, day := day, city := (f.signs.getD c_.sign.toNat default).city, form := 0 } : ActX)].length 72))))))) fun _ =>
 .r 13 ((paper_Check_k r ({ f with acts := (([] : List ActX) ++ f.acts) ++ [({ kind := 8, who := c_.creditor, to_ := (-1), part := (f.signs.getD c_.sign.toNat default).part, at_ := c_.sign, sum := 0, day := day, city := (f.signs.getD c_.sign.toNat default).city, form := 0 } : ActX)] })).c) fun x6 =>
 .br (x6 != 0)
 (.fin x1)
 (.r 15 ((limit_End_k r forum ({ f with acts := (([] : List ActX) ++ f.acts) ++ [({ kind := 8, who := c_.creditor, to_ := (-1), part := (f.signs.getD c_.sign.toNat default).part, at_ := c_.sign, sum := 0, day := day, city := (f.signs.getD c_.sign.toNat default).city, form := 0 } : ActX)] }) c_ day).c) fun x7 =>
 .br ((x3.2 != x7.2) || ((x3.2 == 0) && ((decide (x7.1 < x3.1)) || ((decide (day > x3.1)) && (x7.1 != x3.1)))))
 (.fin false)
 (.r 18 ((limit_End_k r forum ({ f with acts := (([] : List ActX) ++ f.acts) ++ [({ kind := 8, who := c_.creditor, to_ := (-1), part := (f.signs.getD c_.sign.toNat default).part, at_ := c_.sign, sum := 0, day := day, city := (f.signs.getD c_.sign.toNat default).city, form := 0 } : ActX)] }) c_ (maxI day later)).c) fun x8 =>
 .r 19 ((limit_End_k r forum f c_ (maxI day later)).c) fun x9 =>
 .fin ((x1 && (x8.2 == x9.2)) && ((x8.2 != 0) || (decide (x8.1 ≥ x9.1)))))))
noncomputable def allongelaw28_LimitSuits (r : Realm) (forum : Int) (f : File) (c_ : Claim) (day : Int) (later : Int) : Bool := (allongelaw28_LimitSuits_sk r forum f c_ day later).val
theorem allongelaw28_LimitSuits_pst (r : Realm) (forum : Int) (f : File) (c_ : Claim) (day : Int) (later : Int) : (allongelaw28_LimitSuits_sk r forum f c_ day later).pst (fun (x : Bool) => x = true) := by
  refine Sk.pst_of _ ?_
  unfold allongelaw28_LimitSuits_sk
  simp only [Sk.pstq, Sk.isLoop, reduceCtorEq, leafB, leafJ, Cal.z, Cal.p, Cal.t, Cal.pt, Cal.o, Cal.and, Cal.andl, Cal.andr, Cal.wh, Cal.dep, Cal.depr, Ctr.c, Ctr.nil, Ctr.nilc, CtrO.c, CtrO.nil, allongelaw28_bounded_k, allongelaw28_sane_k, limit_End_k, paper_Check_k, File.Small, Realm.Small, Realm.ByOK, maxLen, implies_true, true_and, and_true, and_self, true_implies, false_implies, ixP, szP, mkP]
  generalize hA : ({ kind := 8, who := c_.creditor, to_ := -1, part := (f.signs.getD c_.sign.toNat default).part, at_ := c_.sign, sum := 0, day := day, city := (f.signs.getD c_.sign.toNat default).city, form := 0 } : ActX) = A
  have hk8 : A.kind = 8 := by rw [← hA]
  have hday : A.day = day := by rw [← hA]
  intro x _ hxt y _ hb
  refine ⟨fun _ => hxt, fun hc v hv => ⟨⟨⟨by omega, fun q hq => absurd hq (by omega)⟩, fun k hk => ⟨fun hkc _ => ⟨fun _ => hxt, fun hd _ => ⟨⟨?_, fun q hq => ?_⟩, ?_⟩⟩, fun hkc q hq => hk.2 q ?_⟩⟩, fun _ hld _ _ e he hep => ⟨fun _ => hxt, fun hok w hw => ⟨?_, fun _ p hp q hq => ?_⟩⟩⟩⟩
  all_goals (try simp only [decide_eq_true_eq, decide_eq_false_iff_not, List.length_append, List.length_cons, List.length_nil, List.length_set, List.length_replicate, Bool.not_eq_true, Bool.not_eq_false, Int.not_lt, Int.not_le, Bool.and_eq_true, Bool.or_eq_true, Bool.and_eq_false_iff, Bool.or_eq_false_iff, Bool.not_eq_eq_eq_not, Bool.not_true, Bool.not_false, beq_iff_eq, bne_iff_ne, beq_eq_false_iff_ne, bne_eq_false_iff_eq, ne_eq, subL_length] at hkc)
  · omega
  · simp only [decide_eq_true_eq, decide_eq_false_iff_not, List.length_append, List.length_cons, List.length_nil, List.length_set, List.length_replicate, Bool.not_eq_true, Bool.not_eq_false, Int.not_lt, Int.not_le, Bool.and_eq_true, Bool.or_eq_true, Bool.and_eq_false_iff, Bool.or_eq_false_iff, Bool.not_eq_eq_eq_not, Bool.not_true, Bool.not_false, beq_iff_eq, bne_iff_ne, beq_eq_false_iff_ne, bne_eq_false_iff_eq, ne_eq, subL_length] at hd
    by_cases e : q = k
    · subst e; omega
    · exact hk.2 q (by omega)
  · omega
  · omega
  all_goals
    simp only [decide_eq_true_eq, decide_eq_false_iff_not, List.length_append, List.length_cons, List.length_nil, List.length_set, List.length_replicate, Bool.not_eq_true, Bool.not_eq_false, Int.not_lt, Int.not_le, Bool.and_eq_true, Bool.or_eq_true, Bool.and_eq_false_iff, Bool.or_eq_false_iff, Bool.not_eq_eq_eq_not, Bool.not_true, Bool.not_false, beq_iff_eq, bne_iff_ne, beq_eq_false_iff_ne, bne_eq_false_iff_eq, ne_eq, subL_length] at hc hok
    obtain ⟨hSr, -, -, hP⟩ := hb hc.1.1.1.1.1
    have hP2 : PaperOK r (plus f A) := hep hSr hok
    have hw : w = limit_End r forum (plus f A) c_ day := hw
    have hl : (plus f A).acts.length = f.acts.length + 1 := by simp [plus]
    have hA2 := hP2.2.2 f.acts.length (by omega)
    have hg : ((plus f A).acts.getD f.acts.length default) = A := by simp [plus, List.getD]
    unfold ActOK at hA2
    rw [hg] at hA2
    have hb0 : 0 ≤ f.bill.day := hP.1.2.2.1
    have hb1 : f.bill.day ≤ A.day := hA2.1
    have hall : ∀ x, x ∈ f.acts → 0 ≤ x.day ∧ x.day ≤ A.day := fun x hx => by
      obtain ⟨i, hi, rfl⟩ := List.getElem_of_mem hx
      have h1 := (hP.2.2 i hi).1
      have h2 := hld i hi
      have e : f.acts.getD i default = f.acts[i] := by simp [List.getD, hi]
      rw [e] at h1 h2
      omega
  · have key := End_suit r forum c_ (D := day) hall (by omega) (by omega) hk8
    rw [← hw, ← hv] at key
    intro hbad
    simp only [decide_eq_true_eq, decide_eq_false_iff_not, List.length_append, List.length_cons, List.length_nil, List.length_set, List.length_replicate, Bool.not_eq_true, Bool.not_eq_false, Int.not_lt, Int.not_le, Bool.and_eq_true, Bool.or_eq_true, Bool.and_eq_false_iff, Bool.or_eq_false_iff, Bool.not_eq_eq_eq_not, Bool.not_true, Bool.not_false, beq_iff_eq, bne_iff_ne, beq_eq_false_iff_ne, bne_eq_false_iff_eq, ne_eq, subL_length] at hbad
    omega
  · have key := End_suit r forum c_ (D := maxI day later) hall (by omega) (by unfold maxI; split <;> omega) hk8
    have hp : p = limit_End r forum (plus f A) c_ (maxI day later) := hp
    rw [← hp, ← hq] at key
    subst hxt
    simp only [decide_eq_true_eq, decide_eq_false_iff_not, List.length_append, List.length_cons, List.length_nil, List.length_set, List.length_replicate, Bool.not_eq_true, Bool.not_eq_false, Int.not_lt, Int.not_le, Bool.and_eq_true, Bool.or_eq_true, Bool.and_eq_false_iff, Bool.or_eq_false_iff, Bool.not_eq_eq_eq_not, Bool.not_true, Bool.not_false, beq_iff_eq, bne_iff_ne, beq_eq_false_iff_ne, bne_eq_false_iff_eq, ne_eq, subL_length, Bool.true_and]
    refine ⟨key.1, ?_⟩
    by_cases h0 : p.2 = 0
    · exact .inr (key.2 (by omega)).1
    · exact .inl h0

theorem allongelaw28_LimitSuits_post (r : Realm) (forum : Int) (f : File) (c_ : Claim) (day : Int) (later : Int) : (fun (x : Bool) => x = true) (allongelaw28_LimitSuits r forum f c_ day later) := Sk.pval _ (allongelaw28_LimitSuits_pst r forum f c_ day later)
theorem allongelaw28_LimitSuits_ok (r : Realm) (forum : Int) (f : File) (c_ : Claim) (day : Int) (later : Int) : (allongelaw28_LimitSuits_sk r forum f c_ day later).obs (fun _ => True) := by
  refine Sk.obs_of _ ?_
  unfold allongelaw28_LimitSuits_sk
  simp only [Sk.obq, Sk.isLoop, reduceCtorEq, leafB, leafJ, Cal.z, Cal.p, Cal.t, Cal.pt, Cal.o, Cal.and, Cal.andl, Cal.andr, Cal.wh, Cal.dep, Cal.depr, Ctr.c, Ctr.nil, Ctr.nilc, CtrO.c, CtrO.nil, allongelaw28_bounded_k, allongelaw28_sane_k, limit_End_k, paper_Check_k, File.Small, Realm.Small, Realm.ByOK, maxLen, implies_true, true_and, and_true, and_self, true_implies, false_implies, ixP, szP, mkP]
  all_goals (repeat' first | assumption | (apply And.intro) | (intro h))
  all_goals first | trivial | assumption | omega | ((try simp only [decide_eq_true_eq, decide_eq_false_iff_not, List.length_append, List.length_cons, List.length_nil, List.length_set, List.length_replicate, Bool.not_eq_true, Bool.not_eq_false, Int.not_lt, Int.not_le, Bool.and_eq_true, Bool.or_eq_true, Bool.and_eq_false_iff, Bool.or_eq_false_iff, Bool.not_eq_eq_eq_not, Bool.not_true, Bool.not_false, beq_iff_eq, bne_iff_ne, beq_eq_false_iff_ne, bne_eq_false_iff_eq, ne_eq, subL_length] at *) <;> first | omega | (refine (w64_id ?_ ?_).trans ?_ <;> omega) | (simp (disch := omega) only [w64_id] at *; omega) | (grind) | (simp_all; done) | (simp_all; omega))

theorem allongelaw28_LimitSuits_fn (r : Realm) (forum : Int) (f : File) (c_ : Claim) (day : Int) (later : Int) : FnA Tryz.prog 4 [av r.cells, iv forum, av f.cells, av c_.cells, iv day, iv later] [] (bv (allongelaw28_LimitSuits r forum f c_ day later)) [] :=
  FnA.sk tok mixed (fun x => bv x) (fun _ => []) Tryz.func4 rfl (by kernel_rfl) 3000 (allongelaw28_LimitSuits_sk r forum f c_ day later) (by kernel_rfl) (allongelaw28_LimitSuits_ok r forum f c_ day later)
noncomputable def allongelaw28_LimitSuits_k (r : Realm) (forum : Int) (f : File) (c_ : Claim) (day : Int) (later : Int) : Ctr (Bool) := ⟨Tryz.prog, 4, [av r.cells, iv forum, av f.cells, av c_.cells, iv day, iv later], fun x => bv x, true, allongelaw28_LimitSuits r forum f c_ day later, True, fun _ => allongelaw28_LimitSuits_fn r forum f c_ day later, fun (x : Bool) => x = true, allongelaw28_LimitSuits_post r forum f c_ day later⟩
end Go.Proofs.YtggilgghigileaaGreatDoor
