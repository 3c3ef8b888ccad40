/- Maps whose keys are only known as the call runs. -/
import Derived.Test.YtihmmpaalpghbaaGreatDoorAvOa
set_option linter.unusedSimpArgs false
set_option linter.unusedVariables false
namespace Go.Av
open Go
set_option linter.unusedSectionVars false
variable [Globs]
def eqVs : List Value → List Value → Bool
 | .int _ a :: r, .int _ b :: s => (a == b) && eqVs r s
 | [], [] => true
 | _, _ => false
def keyEqB : Value → Value → Bool
 | .int k a, .int k' b => decide (k = k') && (a == b)
 | .agg a, .agg b => eqVs a.toList b.toList
 | _, _ => false
def mpIdx (k : Value) : Nat → (Nat → Value × D) → Option Nat
 | 0, _ => none
 | n + 1, f => bif keyEqB k (f 0).1 then some 0 else (mpIdx k n fun i => f (i + 1)).map (· + 1)
def mpHas (k : Value) (n : Nat) (f : Nat → Value × D) : Bool := (mpIdx k n f).isSome
def mpGet (k : Value) (n : Nat) (f : Nat → Value × D) (z : D) : D := match mpIdx k n f with | some p => (f p).2 | none => z
def mpN (k : Value) (n : Nat) (f : Nat → Value × D) : Nat := match mpIdx k n f with | some _ => n | none => n + 1
def mpF (k : Value) (x : D) (n : Nat) (f : Nat → Value × D) : Nat → Value × D := match mpIdx k n f with
 | some p => fun q => if q = p then ((f q).1, x) else f q
 | none => fun q => if q < n then f q else (k, x)
def zeroD (P : Program) (t : Nat) : Option D := match P.info? t with
 | some j => (match j.zero with | some (.int k n) => some (.v (.int k n)) | some (.bool b) => some (.v (.bool b)) | _ => none)
 | none => none
def evMap (P : Program) (T : List (Nat × TI)) (lb : List (Nat × Blk)) (ρ : Operand → Option AV) (dst : Option Nat) (quiet : Bool) : Op → Option R
 | .mapUpdate t m k x => (match quiet, dst, ρ m, ρ k, ρ x, look T t with
  | false, none, some (.mpv κ), some (.d (.v (.int kk a))), some (.d xd), some { kind := .map kt _, .. } => (match look lb κ, look T kt with
   | some (.mp n f), some { kind := .int _, .. } => some ⟨.any, [], [(κ, .mp n f)], [(κ, .mp (mpN (.int kk a) n f) (mpF (.int kk a) xd n f))], .pr (∀ i, i < n → ∃ b, (f i).1 = .int kk b)⟩
   | _, _ => none)
  | _, _, _, _, _, _ => none)
 | .lookup t m k ok => (match ρ m, ρ k, look T t with
  | some (.mpv κ), some (.d (.v (.int kk a))), some { kind := .map kt et, .. } => (match look lb κ, look T kt, zeroD P et with
   | some (.mp n f), some { kind := .int _, .. }, some z => some ⟨bif ok then .tup [.d (mpGet (.int kk a) n f z), .d (.v (.bool (mpHas (.int kk a) n f)))] else .d (mpGet (.int kk a) n f z), [(κ, .mp n f)], [], [], .pr (∀ i, i < n → ∃ b, (f i).1 = .int kk b)⟩
   | _, _, _ => none)
  | some (.pmp n f), some (.d (.v (.int kk a))), some { kind := .map kt et, .. } => (match look T kt, zeroD P et with
   | some { kind := .int _, .. }, some z => some ⟨bif ok then .tup [.d (mpGet (.int kk a) n f z), .d (.v (.bool (mpHas (.int kk a) n f)))] else .d (mpGet (.int kk a) n f z), [], [], [], .pr (∀ i, i < n → ∃ b, (f i).1 = .int kk b)⟩
   | _, _ => none)
  | some (.d (.mp n k0 f0)), some (.d (.v (.int kk a))), some { kind := .map kt et, .. } => (match look T kt, zeroD P et with
   | some { kind := .int _, .. }, some z => some ⟨bif ok then .tup [.d (mpGet (.int kk a) n (fun i => (k0 i, f0 i)) z), .d (.v (.bool (mpHas (.int kk a) n fun i => (k0 i, f0 i))))] else .d (mpGet (.int kk a) n (fun i => (k0 i, f0 i)) z), [], [], [], .pr (∀ i, i < n → ∃ b, k0 i = .int kk b)⟩
   | _, _ => none)
  | _, _, _ => none)
 | _ => none
theorem mpIdx_spec {k : Value} : ∀ {n : Nat} {f : Nat → Value × D}, (∀ p, mpIdx k n f = some p → p < n ∧ keyEqB k (f p).1 = true) ∧ (mpIdx k n f = none → ∀ i, i < n → keyEqB k (f i).1 = false)
 | 0, f => ⟨fun p h => (by cases h), fun _ i hi => absurd hi (by omega)⟩
 | n + 1, f => by
  have ih := mpIdx_spec (k := k) (n := n) (f := fun i => f (i + 1))
  simp only [mpIdx]
  cases hk : keyEqB k (f 0).1 with
  | true => exact ⟨fun p h => by simp only [cond_true, Option.some.injEq] at h; subst h; exact ⟨by omega, hk⟩, fun h => (by cases h)⟩
  | false =>
   simp only [cond_false]
   refine ⟨fun p h => ?_, fun h i hi => ?_⟩
   ·cases hq : mpIdx k n (fun i => f (i + 1)) with
    | none => rw [hq] at h; cases h
    | some q =>
     rw [hq] at h
     simp only [Option.map_some, Option.some.injEq] at h
     subst h
     obtain ⟨h1, h2⟩ := ih.1 q hq
     exact ⟨by omega, h2⟩
   ·have hq : mpIdx k n (fun i => f (i + 1)) = none := by
     cases hq : mpIdx k n (fun i => f (i + 1)) with
     | none => rfl
     | some q => rw [hq] at h; cases h
    cases i with
    | zero => exact hk
    | succ i => exact ih.2 hq i (by omega)
theorem findNow_idx {ik kk : IntKind} {a : Int} : ∀ (es : List MapEntry) (f : Nat → Value × D) (j : Nat), (∀ (i : Nat) (h : i < es.length), (es[i]'h).key = (f i).1 ∧ ∃ b, (f i).1 = .int kk b) →
  Instr.findNow (.int ik) (.int kk a) es j = some (match mpIdx (.int kk a) es.length f with | some p => (es[p]?).map (fun e => (p + j, e.val)) | none => none)
 | [], _, _, _ => rfl
 | e :: es, f, j, h => by
  obtain ⟨h1, b, h2⟩ := h 0 (by simp)
  have h1 : e.key = (f 0).1 := h1
  have ih := findNow_idx (ik := ik) (kk := kk) (a := a) es (fun i => f (i + 1)) (j + 1) (fun i hi => h (i + 1) (by simpa using hi))
  simp only [Instr.findNow, Instr.sameNow, h1, h2, if_true, List.length_cons, mpIdx, keyEqB, decide_true, Bool.true_and]
  cases hab : (a == b) with
  | true => simp
  | false =>
   simp only [ih, cond_false]
   cases hq : mpIdx (.int kk a) es.length (fun i => f (i + 1)) with
   | none => simp
   | some q =>
    simp only [Option.map_some, List.getElem?_cons_succ]
    congr 2
    funext e
    simp; omega
section
variable {C : Cx} {A : M} {a : Act} {w : World} {S : Nat → Prop} {μ : Mu} {ν : Nat → Bool}
theorem keyStays {P : Program} {k : IntKind} {n : Int} : (Instr.keyThatStays (.int k n) (.int k n)).run P w = .ok (.int k n) w := by
 simp [Instr.keyThatStays, Instr.sameBits]
theorem lookup_rel {ok : Bool} {x : D} {b : Bool} {v : Value} (hv : Rel w S μ ν (.d x) v) : Rel w S μ ν (bif ok then .tup [.d x, .d (.v (.bool b))] else .d x) (bif ok then .tuple #[v, .bool b] else v) := by
 cases ok with
 | false => exact hv
 | true =>
  refine .tup rfl (fun q hq => ?_)
  match q with
  | 0 => simpa using hv
  | 1 => simpa using rel_v (w := w) (S := S) (μ := μ) (ν := ν) (x := .bool b) rfl
  | q + 2 => simp at hq; omega
theorem lookup_run {T : List (Nat × TI)} (hT : TOk C.P T) {t kt et : Nat} {ik kk : IntKind} {n0 : Int} {kv : Value} {z : D} {n g : Nat} {f : Nat → Value × D} {cur : Array MapEntry} {ok : Bool} {s1 b1 s2 b2 : Nat} {z1 z2 : List D} {q1 q2 : Bool}
  (hkv : kv = .int kk n0) (ht : look T t = some { kind := .map kt et, size := s1, bytes := b1, zero := z1, eq := q1 }) (hkt : look T kt = some { kind := .int ik, size := s2, bytes := b2, zero := z2, eq := q2 }) (hz : zeroD C.P et = some z) (hob : (Ob.pr (∀ i, i < n → ∃ b, (f i).1 = .int kk b)).den)
  (hg : w.heap[g]? = some (.map cur n)) (hsz : cur.size = n) (hcell : ∀ i, i < n → ∃ e, cur[i]? = some e ∧ e.key = (f i).1 ∧ keyK e.key = true ∧ e.born = i ∧ Rd w S (f i).2 e.val) :
  ∃ v, (Instr.lookup t (.map (some g)) kv ok).run C.P w = .ok (bif ok then .tuple #[v, .bool (mpHas (.int kk n0) n f)] else v) w ∧ Rel w S μ ν (.d (mpGet (.int kk n0) n f z)) v := by
 subst hkv
 obtain ⟨ti, z0, F⟩ := tiOK_facts (hT _ _ ht)
 obtain ⟨tj, zj, G⟩ := tiOK_facts (hT _ _ hkt)
 have hu := kind_map F.kind
 have huk := kind_int G.kind
 have hob : ∀ i, i < n → ∃ b, (f i).1 = .int kk b := hob
 have hent : ∀ (i : Nat) (h : i < cur.toList.length), (cur.toList[i]'h).key = (f i).1 ∧ ∃ b, (f i).1 = .int kk b := fun i hi => by
  have hin : i < n := by simpa [hsz] using hi
  obtain ⟨e, h1, h2, _⟩ := hcell i hin
  have : cur.toList[i] = e := by simpa using (Array.getElem?_eq_some_iff.1 h1).2
  rw [this]
  exact ⟨h2, hob i hin⟩
 have hfind := findNow_idx (ik := ik) (a := n0) cur.toList f 0 hent
 have hcl : cur.toList.length = n := by simpa using hsz
 rw [hcl] at hfind
 have hck := fun q => run_checkKey_int (w := w) (P := C.P) (b := cur.isEmpty) (kk := kk) (n := n0) huk q
 obtain ⟨zv, hzv, hzr⟩ : ∃ zv, (zeroValue et).run C.P w = .ok zv w ∧ Rel w S μ ν (.d z) zv := by
  unfold zeroD at hz
  split at hz
  ·rename_i j hj
   split at hz
   ·rename_i k' n' hjz
    simp only [Option.some.injEq] at hz
    subst hz
    exact ⟨.int k' n', by simp only [zeroValue, typeInfo, Sem.run_bind, run_program, Result.andThen_ok, hj, Sem.run_pure, hjz], rel_v rfl⟩
   ·rename_i b hjz
    simp only [Option.some.injEq] at hz
    subst hz
    exact ⟨.bool b, by simp only [zeroValue, typeInfo, Sem.run_bind, run_program, Result.andThen_ok, hj, Sem.run_pure, hjz], rel_v rfl⟩
   ·cases hz
  ·cases hz
 cases hix : mpIdx (.int kk n0) n f with
 | some p =>
  obtain ⟨hp, hpk⟩ := mpIdx_spec.1 p hix
  obtain ⟨e, h1, h2, h3, h4, h5⟩ := hcell p hp
  have h1l : cur.toList[p]? = some e := by simpa using h1
  rw [hix] at hfind
  simp only [h1l, Option.map_some, Nat.add_zero] at hfind
  refine ⟨e.val, ?_, by simp only [mpGet, hix]; exact .d h5⟩
  unfold Instr.lookup
  simp only [Sem.run_bind, run_underlying hu, Result.andThen_ok, run_getO hg, Sem.run_pure, hck 9999, Instr.findKey, run_underlying huk, hfind, mpHas, hix, Option.isSome_some]
  cases ok <;> rfl
 | none =>
  rw [hix] at hfind
  simp only at hfind
  refine ⟨zv, ?_, by simp only [mpGet, hix]; exact hzr⟩
  unfold Instr.lookup
  simp only [Sem.run_bind, run_underlying hu, Result.andThen_ok, run_getO hg, Sem.run_pure, hck 9999, Instr.findKey, run_underlying huk, hfind, hzv, mpHas, hix, Option.isSome_none]
  cases ok <;> rfl
theorem evMap_sound {T : List (Nat × TI)} (hT : TOk C.P T) (hs : Sim C A a w S μ ν) {lb : List (Nat × Blk)} {o : Oper} {ρ : Operand → Option AV} (hρ : ∀ x y, ρ x = some y → Rel w S μ ν y (a.eval x)) (hd : ∀ t, o.dst = some t → t < C.nt) {quiet : Bool} {r : R}
  (h : evMap C.P T lb ρ o.dst quiet o.op = some r) (hro : ∀ p, p ∈ r.ro → A.lb p.1 = some p.2) (hmem : ∀ p, p ∈ r.mem → A.lb p.1 = some p.2) (hob : r.ob.den) (need : List (Nat × AV)) (gs : List (Nat × Bool)) :
  o.wp C.P a w (fun a' w' => ∃ S' μ', Sim C ((Tr.mk need o.dst r.v r.ro r.mem r.mem' gs).apply A) a' w' S' μ' ν) (fun _ _ _ => False) := by
 unfold evMap at h
 split at h
 all_goals rename_i ho
 ·-- an entry is laid
  rename_i t m k x
  split at h
  ·rename_i κ kk n0 xd kt _ _ _ _ _ hdst hm hk hx ht
   split at h
   ·rename_i n f ik _ _ _ _ hl hkt
    simp only [Option.some.injEq] at h
    subst h
    rw [hdst]
    have hκ := hmem (κ, .mp n f) (by simp)
    have hme := hs.mem κ _ hκ
    have hv := hρ _ _ hm
    generalize hmv : a.eval m = mv at hv
    cases hv with
    | @mpv _ g cap hμ =>
     rw [hμ] at hme
     obtain ⟨cur, hg, hns, hsz, hcell⟩ := hme.at
     obtain ⟨ti, z, F⟩ := tiOK_facts (hT _ _ ht)
     obtain ⟨tj, zj, G⟩ := tiOK_facts (hT _ _ hkt)
     have hu := kind_map F.kind
     have huk := kind_int G.kind
     have hkv := rel_int (hρ _ _ hk)
     have hob : ∀ i, i < n → ∃ b, (f i).1 = .int kk b := hob
     have hent : ∀ (i : Nat) (h : i < cur.toList.length), (cur.toList[i]'h).key = (f i).1 ∧ ∃ b, (f i).1 = .int kk b := fun i hi => by
      have hin : i < n := by simpa [hsz] using hi
      obtain ⟨e, h1, h2, _⟩ := hcell i hin
      have : cur.toList[i] = e := by simpa using (Array.getElem?_eq_some_iff.1 h1).2
      rw [this]
      exact ⟨h2, hob i hin⟩
     have hfind := findNow_idx (ik := ik) (a := n0) cur.toList f 0 hent
     have hcl : cur.toList.length = n := by simpa using hsz
     rw [hcl] at hfind
     have hw : ∀ o' : Obj, ∀ q, S q → (World.setO w g o').heap[q]? = w.heap[q]? := fun o' q hq => (setO_kept g _).block q (hs.bound q hq) (fun e => hns (e ▸ hq))
     have hck := fun q => run_checkKey_int (w := w) (P := C.P) (b := false) (kk := kk) (n := n0) huk q
     cases hix : mpIdx (.int kk n0) n f with
     | some p =>
      obtain ⟨hp, hpk⟩ := mpIdx_spec.1 p hix
      obtain ⟨e, h1, h2, h3, h4, h5⟩ := hcell p hp
      have hkey : e.key = .int kk n0 := by
       obtain ⟨b, hb⟩ := hob p hp
       rw [hb] at hpk h2
       simp only [keyEqB, decide_true, Bool.true_and, beq_iff_eq] at hpk
       rw [h2, hpk]
      have h1l : cur.toList[p]? = some e := by simpa using h1
      rw [hix] at hfind
      simp only [h1l, Option.map_some, Nat.add_zero] at hfind
      have hrun : (execOp a.eval o).run C.P w = .ok .skip (World.setO w g (.map (cur.modify p fun e => { e with key := .int kk n0, val := a.eval x }) n)) := by
       unfold execOp
       rw [ho]
       simp only [hmv, hkv, Sem.run_bind]
       unfold Instr.mapUpdate
       simp only [Sem.run_bind, run_underlying hu, Result.andThen_ok, run_getO hg, hck 9999, Instr.findKey, run_underlying huk, hfind, Sem.run_pure, h1, Option.map_some, Option.getD_some, hkey, keyStays, run_setO _ hg]
      unfold Oper.wp
      rw [hrun]
      refine ⟨S, μ, ?_⟩
      rw [apply_write, hdst]
      have eN : mpN (.int kk n0) n f = n := by simp [mpN, hix]
      rw [eN]
      refine hs.writeW hκ hμ (setO_kept g _) ⟨_, setO_at _ hg, hns, by simp [hsz], fun i hi => ?_⟩
      obtain ⟨e', q1, q2, q3, q4, q5⟩ := hcell i hi
      have hi' : i < cur.size := by omega
      by_cases c : i = p
      ·subst c
       rw [h1] at q1
       cases q1
       refine ⟨{ e with key := .int kk n0, val := a.eval x }, ?_, ?_, rfl, q4, ?_⟩
       ·simp [Array.getElem?_modify, h1]
       ·simp only [mpF, hix, if_true]
        rw [← q2, hkey]
       ·simp only [mpF, hix, if_true]
        exact (rel_d.1 (hρ _ _ hx)).mono (fun _ x => x) (hw _)
      ·refine ⟨e', ?_, ?_, q3, q4, ?_⟩
       ·have c' : ¬ p = i := fun e => c e.symm
        simp [Array.getElem?_modify, c', q1]
       ·simp only [mpF, hix, c, if_false]; exact q2
       ·simp only [mpF, hix, c, if_false]; exact q5.mono (fun _ x => x) (hw _)
     | none =>
      rw [hix] at hfind
      simp only at hfind
      have hrun : (execOp a.eval o).run C.P w = .ok .skip (World.setO w g (.map (cur.push { key := .int kk n0, val := a.eval x, born := n }) (n + 1))) := by
       have h1 := run_insert (x := a.eval x) hu huk hg hfind
       unfold execOp
       rw [ho]
       simp only [hmv, hkv, Sem.run_bind, h1, Result.andThen_ok, Sem.run_pure]
      unfold Oper.wp
      rw [hrun]
      refine ⟨S, μ, ?_⟩
      rw [apply_write, hdst]
      have eN : mpN (.int kk n0) n f = n + 1 := by simp [mpN, hix]
      rw [eN]
      refine hs.writeW hκ hμ (setO_kept g _) ⟨_, setO_at _ hg, hns, by simp [hsz], fun i hi => ?_⟩
      by_cases c : i < n
      ·obtain ⟨e, h1, h2, h3, h4, h5⟩ := hcell i c
       refine ⟨e, ?_, by simp only [mpF, hix, c, if_true]; exact h2, h3, h4, by simp only [mpF, hix, c, if_true]; exact h5.mono (fun _ x => x) (hw _)⟩
       rw [Array.getElem?_push, if_neg (by omega)]
       exact h1
      ·obtain rfl : i = n := by omega
       refine ⟨_, by rw [Array.getElem?_push, if_pos hsz.symm], by simp only [mpF, hix, c, if_false], rfl, rfl, ?_⟩
       simp only [mpF, hix, c, if_false]
       exact (rel_d.1 (hρ _ _ hx)).mono (fun _ x => x) (hw _)
   ·cases h
  ·cases h
 ·-- an entry is looked up
  rename_i t m k ok
  split at h
  ·rename_i κ kk n0 kt et _ _ _ _ hm hk ht
   split at h
   ·rename_i n f ik _ _ _ _ z hl hkt hz
    simp only [Option.some.injEq] at h
    subst h
    have hκ := hro (κ, .mp n f) (by simp)
    have hme := hs.mem κ _ hκ
    have hv := hρ _ _ hm
    generalize hmv : a.eval m = mv at hv
    cases hv with
    | @mpv _ g cap hμ =>
     rw [hμ] at hme
     obtain ⟨cur, hg, hns, hsz, hcell⟩ := hme.at
     obtain ⟨v, hrv, hv⟩ := lookup_run (ok := ok) hT (rel_int (hρ _ _ hk)) ht hkt hz hob hg hsz hcell
     refine core_value (τ := Tr.mk need o.dst (bif ok then .tup [.d (mpGet (.int kk n0) n f z), .d (.v (.bool (mpHas (.int kk n0) n f)))] else .d (mpGet (.int kk n0) n f z)) [(κ, .mp n f)] [] [] gs) hs hd (x := bif ok then .tuple #[v, .bool (mpHas (.int kk n0) n f)] else v) ?_ (lookup_rel hv) rfl rfl rfl
     simp only [execOp, ho, hmv, Sem.run_bind, hrv, Result.andThen_ok, Sem.run_pure]
   ·cases h
  ·rename_i n f kk n0 kt et _ _ _ _ hm hk ht
   split at h
   ·rename_i ik _ _ _ _ z hkt hz
    simp only [Option.some.injEq] at h
    subst h
    have hv := hρ _ _ hm
    generalize hmv : a.eval m = mv at hv
    cases hv with
    | @pmp _ _ g hp =>
     obtain ⟨hns, cur, hg, hsz, hcell⟩ := hp
     obtain ⟨v, hrv, hv⟩ := lookup_run (ok := ok) hT (rel_int (hρ _ _ hk)) ht hkt hz hob hg hsz hcell
     refine core_value (τ := Tr.mk need o.dst (bif ok then .tup [.d (mpGet (.int kk n0) n f z), .d (.v (.bool (mpHas (.int kk n0) n f)))] else .d (mpGet (.int kk n0) n f z)) [] [] [] gs) hs hd (x := bif ok then .tuple #[v, .bool (mpHas (.int kk n0) n f)] else v) ?_ (lookup_rel hv) rfl rfl rfl
     simp only [execOp, ho, hmv, Sem.run_bind, hrv, Result.andThen_ok, Sem.run_pure]
   ·cases h
  ·rename_i n k0 f0 kk n0 kt et _ _ _ _ hm hk ht
   split at h
   ·rename_i ik _ _ _ _ z hkt hz
    simp only [Option.some.injEq] at h
    subst h
    obtain ⟨g, hmv, hns, cur, hg, hsz, hcell⟩ := (rel_d.1 (hρ _ _ hm)).pmap
    obtain ⟨v, hrv, hv⟩ := lookup_run (ok := ok) (f := fun i => (k0 i, f0 i)) hT (rel_int (hρ _ _ hk)) ht hkt hz hob hg hsz hcell
    refine core_value (τ := Tr.mk need o.dst (bif ok then .tup [.d (mpGet (.int kk n0) n (fun i => (k0 i, f0 i)) z), .d (.v (.bool (mpHas (.int kk n0) n fun i => (k0 i, f0 i))))] else .d (mpGet (.int kk n0) n (fun i => (k0 i, f0 i)) z)) [] [] [] gs) hs hd (x := bif ok then .tuple #[v, .bool (mpHas (.int kk n0) n fun i => (k0 i, f0 i))] else v) ?_ (lookup_rel hv) rfl rfl rfl
    simp only [execOp, ho, hmv, Sem.run_bind, hrv, Result.andThen_ok, Sem.run_pure]
   ·cases h
  ·cases h
 ·cases h
theorem evMap_ro {P : Program} {T : List (Nat × TI)} {lb : List (Nat × Blk)} {ρ : Operand → Option AV} {dst : Option Nat} {quiet : Bool} {op : Op} {r : R} (h : evMap P T lb ρ dst quiet op = some r) :
  (∀ p, p ∈ r.ro → look lb p.1 = some p.2) ∧ (∀ p, p ∈ r.mem → look lb p.1 = some p.2) ∧ (quiet = true → r.mem = [] ∧ r.mem' = []) ∧ ∀ k, k ∈ r.mem'.map (·.1) → k ∈ r.mem.map (·.1) := by
 unfold evMap at h
 have nil : ∀ {p : Nat × Blk}, p ∈ ([] : List (Nat × Blk)) → look lb p.1 = some p.2 := fun h => by cases h
 have one : ∀ {κ : Nat} {b : Blk}, look lb κ = some b → ∀ p, p ∈ [(κ, b)] → look lb p.1 = some p.2 := fun h p hp => by simp only [List.mem_singleton] at hp; subst hp; exact h
 split at h
 ·split at h
  ·split at h
   ·rename_i hl _; simp only [Option.some.injEq] at h; subst h; exact ⟨fun _ => nil, one hl, fun hq => (by cases hq), fun k hk => by simpa using hk⟩
   ·cases h
  ·cases h
 ·split at h
  ·split at h
   ·rename_i hl _ _; simp only [Option.some.injEq] at h; subst h; exact ⟨one hl, fun _ => nil, fun _ => ⟨rfl, rfl⟩, fun k hk => (by cases hk)⟩
   ·cases h
  ·split at h
   ·simp only [Option.some.injEq] at h; subst h; exact ⟨fun _ => nil, fun _ => nil, fun _ => ⟨rfl, rfl⟩, fun k hk => (by cases hk)⟩
   ·cases h
  ·split at h
   ·simp only [Option.some.injEq] at h; subst h; exact ⟨fun _ => nil, fun _ => nil, fun _ => ⟨rfl, rfl⟩, fun k hk => (by cases hk)⟩
   ·cases h
  ·cases h
 ·cases h
end
end Go.Av
