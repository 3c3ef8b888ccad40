/- Maps whose keys are structs of int64s. -/
import Derived.Test.YtihmmpaalpghbaaGreatDoorAvOb
set_option linter.unusedSimpArgs false
set_option linter.unusedVariables false
namespace Go.Av
open Go
set_option linter.unusedSectionVars false
variable [Globs]
def keyV (cs : List D) : Value := .agg (cs.map dval).toArray
theorem keyEq_v : ∀ {a b : List D}, allI a = true → allI b = true → eqVs (a.map dval) (b.map dval) = eqCs a b
 | [], [], _, _ => rfl
 | [], .v (.int .i64 _) :: _, _, _ => rfl
 | .v (.int .i64 _) :: _, [], _, _ => rfl
 | .v (.int .i64 x) :: r, .v (.int .i64 y) :: s, h, k => by
  show ((x == y) && eqVs (r.map dval) (s.map dval)) = ((x == y) && eqCs r s)
  rw [keyEq_v (a := r) (b := s) h k]
theorem keyEqB_v {a b : List D} (ha : allI a = true) (hb : allI b = true) : keyEqB (keyV a) (keyV b) = eqCs a b := keyEq_v ha hb
theorem eqCs_eq : ∀ {a b : List D}, allI a = true → allI b = true → eqCs a b = true → a = b
 | [], [], _, _, _ => rfl
 | [], .v (.int .i64 _) :: _, _, _, h => by cases h
 | .v (.int .i64 _) :: _, [], _, _, h => by cases h
 | .v (.int .i64 x) :: r, .v (.int .i64 y) :: s, h, k, e => by
  have e : ((x == y) && eqCs r s) = true := e
  simp only [Bool.and_eq_true, beq_iff_eq] at e
  rw [e.1, eqCs_eq (a := r) (b := s) h k e.2]
theorem keyK_v : ∀ {cs : List D}, allI cs = true → keyK (keyV cs) = true := fun {cs} h => by
 show ((cs.map dval).toArray.toList.all scalar) = true
 rw [List.all_eq_true]
 intro x hx
 obtain ⟨a, rfl⟩ := allI_map h x (by simpa using hx)
 rfl
def zeroDT (P : Program) (T : List (Nat × TI)) (t : Nat) : Option D := match zeroD P t with
 | some z => some z
 | none => (match P.info? t with
  | some j => (match j.zero with | some (.agg _) => (match look T t with | some i => some (.agg i.zero) | none => none) | _ => none)
  | none => none)
def keysOK (n c : Nat) (f : Nat → Value × D) : Prop := ∀ i, i < n → ∃ ds, (f i).1 = keyV ds ∧ allI ds = true ∧ ds.length = c
def mpAt (k : Value) (n : Nat) (f : Nat → Value × D) : Nat := match mpIdx k n f with | some p => p | none => n
def evKey (P : Program) (T : List (Nat × TI)) (lb : List (Nat × Blk)) (ρ : Operand → Option AV) (dst : Option Nat) (quiet : Bool) : Op → Option R
 | .mapUpdate t m k x => (match quiet, dst, ρ m, ρ k, ρ x, look T t with
  | false, none, some (.mpv κ), some (.d (.agg cs)), some (.d xd), some { kind := .map kt _, .. } => (match look lb κ, intsT T kt with
   | some (.mp n f), some c => bif allI cs && Nat.beq cs.length c then some ⟨.any, [], [(κ, .mp n f)], [(κ, .mp (mpN (keyV cs) n f) (mpF (keyV cs) xd n f))], .pr (keysOK n c f)⟩ else none
   | _, _ => none)
  | _, _, _, _, _, _ => none)
 | .lookup t m k ok => (match ρ m, ρ k, look T t with
  | some (.mpv κ), some (.d (.agg cs)), some { kind := .map kt et, .. } => (match look lb κ, intsT T kt, zeroDT P T et with
   | some (.mp n f), some c, some z => bif allI cs && Nat.beq cs.length c then some ⟨bif ok then .tup [.d (mpGet (keyV cs) n f z), .d (.v (.bool (mpHas (keyV cs) n f)))] else .d (mpGet (keyV cs) n f z), [(κ, .mp n f)], [], [], .pr (keysOK n c f)⟩ else none
   | _, _, _ => none)
  | some (.pmp n f), some (.d (.agg cs)), some { kind := .map kt et, .. } => (match intsT T kt, zeroDT P T et with
   | some c, some z => bif allI cs && Nat.beq cs.length c then some ⟨bif ok then .tup [.d (mpGet (keyV cs) n f z), .d (.v (.bool (mpHas (keyV cs) n f)))] else .d (mpGet (keyV cs) n f z), [], [], [], .pr (keysOK n c f)⟩ else none
   | _, _ => none)
  | _, _, _ => none)
 | .mapEntry t m k => (match quiet, dst, ρ m, ρ k, look T t with
  | false, some _, some (.mpv κ), some (.d (.agg cs)), some { kind := .map kt et, .. } => (match look lb κ, intsT T kt, zeroDT P T et with
   | some (.mp n f), some c, some z => bif allI cs && Nat.beq cs.length c then some ⟨.tup [.d (mpGet (keyV cs) n f z), .d (.v (.int .i64 (mpAt (keyV cs) n f)))], [], [(κ, .mp n f)], [(κ, .mp (mpN (keyV cs) n f) (mpF (keyV cs) (mpGet (keyV cs) n f z) n f))], .pr (keysOK n c f)⟩ else none
   | _, _, _ => none)
  | _, _, _, _, _ => none)
 | .entryStore _ m s x => (match quiet, dst, ρ m, ρ s, ρ x with
  | false, none, some (.mpv κ), some (.d (.v (.int .i64 q))), some (.d xd) => (match look lb κ with
   | some (.mp n f) => some ⟨.any, [], [(κ, .mp n f)], [(κ, .mp n fun i => bif decide ((i : Int) = q) then ((f i).1, xd) else f i)], .pr (0 ≤ q ∧ q < n)⟩
   | _ => none)
  | _, _, _, _, _ => none)
 | _ => none
section
variable {P : Program} {w : World} {S : Nat → Prop} {μ : Mu} {ν : Nat → Bool}
theorem key_value {cs : List D} {v : Value} (hc : allI cs = true) (h : Rel w S μ ν (.d (.agg cs)) v) : v = keyV cs := by
 cases rel_d.1 h with
 | agg _ vs hl hr =>
  have := allI_vals (xs := vs.toList) hc (by simpa using hl) (fun i hi => by rw [← getD_toList']; exact hr i hi)
  unfold keyV
  rw [← this]
theorem findAsking_idx {T : List (Nat × TI)} (hT : TOk P T) {kt c : Nat} (hk : intsT T kt = some c) {cs : List D} (hc : allI cs = true) (lc : cs.length = c) : ∀ (es : List MapEntry) (f : Nat → Value × D) (j : Nat), (∀ (i : Nat) (h : i < es.length), (es[i]'h).key = (f i).1 ∧ ∃ ds, (f i).1 = keyV ds ∧ allI ds = true ∧ ds.length = c) →
  (Instr.findAsking kt (keyV cs) es j).run P w = .ok (match mpIdx (keyV cs) es.length f with | some p => (es[p]?).map (fun e => (p + j, e.val)) | none => none) w
 | [], _, _, _ => rfl
 | e :: es, f, j, h => by
  obtain ⟨h1, ds, h2, h3, h4⟩ := h 0 (by simp)
  have h1 : e.key = (f 0).1 := h1
  have ih := findAsking_idx hT hk hc lc es (fun i => f (i + 1)) (j + 1) (fun i hi => h (i + 1) (by simpa using hi))
  have he : (Op.equal kt (keyV cs) e.key).run P w = .ok (eqCs cs ds) w := by
   rw [h1, h2]
   exact equal_ints hT hk hc h3 lc h4 10000 (by omega)
  simp only [Instr.findAsking, Sem.run_bind, he, Result.andThen_ok, List.length_cons, mpIdx, h2, keyEqB_v hc h3]
  cases hab : eqCs cs ds with
  | true => simp
  | false =>
   simp only [Bool.false_eq_true, if_false, ih, cond_false]
   cases hq : mpIdx (keyV cs) es.length (fun i => f (i + 1)) with
   | none => simp
   | some q =>
    simp only [Option.map_some, List.getElem?_cons_succ]
    congr 2
    funext e
    simp; omega
theorem intsT_struct {T : List (Nat × TI)} (hT : TOk P T) {kt c : Nat} (hk : intsT T kt = some c) : ∃ gs, P.underlying kt = some (.struct gs) := by
 obtain ⟨i, hi, hk, hs, hlf⟩ := intsT_spec hk
 unfold leafs at hlf
 rw [hi] at hlf
 split at hlf
 ·rename_i e; simp only [Option.some.injEq] at e; subst e; cases hk
 ·rename_i fs sz bb zz e
  simp only [Option.some.injEq] at e
  subst e
  obtain ⟨j, z, F⟩ := tiOK_facts (hT _ _ hi)
  obtain ⟨gs, hu, _⟩ := kind_struct F.kind
  exact ⟨gs, hu⟩
 ·cases hlf
theorem findKey_idx {T : List (Nat × TI)} (hT : TOk P T) {kt c : Nat} (hk : intsT T kt = some c) {cs : List D} (hc : allI cs = true) (lc : cs.length = c) (es : List MapEntry) (f : Nat → Value × D) (h : ∀ (i : Nat) (h : i < es.length), (es[i]'h).key = (f i).1 ∧ ∃ ds, (f i).1 = keyV ds ∧ allI ds = true ∧ ds.length = c) :
  (Instr.findKey kt (keyV cs) es).run P w = .ok (match mpIdx (keyV cs) es.length f with | some p => (es[p]?).map (fun e => (p, e.val)) | none => none) w := by
 obtain ⟨gs, hu⟩ := intsT_struct hT hk
 unfold Instr.findKey
 simp only [Sem.run_bind, run_underlying hu, Result.andThen_ok]
 cases es with
 | nil => rfl
 | cons e es =>
  have : Instr.findNow (.struct gs) (keyV cs) (e :: es) 0 = none := rfl
  rw [this]
  have := findAsking_idx (w := w) hT hk hc lc (e :: es) f 0 h
  simpa using this
theorem checkKey_leaf {T : List (Nat × TI)} (hT : TOk P T) (em : Bool) : ∀ (n t : Nat) (l : List Nat), leafs T n t = some l → ∀ (d : Nat), n ≤ d → ∀ (u : Value) (xs : List Value), ShapeV T t u xs → (Instr.checkKey em d t u).run P w = .ok () w
 | 0, _, _, h, _, _, _, _, _ => by cases h
 | n + 1, t, l, h, d, hd, u, xs, ⟨i, hi, hlx, hu, hx⟩ => by
  obtain ⟨d, rfl⟩ : ∃ q, d = q + 1 := ⟨d - 1, by omega⟩
  have ht := hT _ _ hi
  obtain ⟨j, z, F⟩ := tiOK_facts ht
  cases hk : isAggK i.kind with
  | false =>
   obtain ⟨h1, h2, h3⟩ := leafs_scalar h hi hk
   obtain ⟨_, rfl⟩ := hu.resolve_left (fun e => by rw [hk] at e; cases e.1)
   obtain ⟨a, rfl⟩ := hx u (by simp)
   have hkk := F.kind
   rw [h2] at hkk
   exact run_checkKey_int (kind_int hkk) d
  | true =>
   obtain ⟨_, rfl⟩ := hu.resolve_right (fun e => by rw [hk] at e; cases e.1)
   unfold leafs at h
   rw [hi] at h
   split at h
   ·rename_i e
    simp only [Option.some.injEq] at e
    subst e
    cases hk
   ·rename_i fs sz bb zz e
    simp only [Option.some.injEq] at e
    subst e
    obtain ⟨gs, hug, hgs⟩ := kind_struct F.kind
    rw [Instr.checkKey]
    simp only [Sem.run_bind, run_underlying hug, Result.andThen_ok]
    rw [← Array.forIn_toList]
    subst hgs
    have key : ∀ (gs : List Field) (l : List Nat), leafFs T (leafs T n) sz (gs.map fun f => (f.offset, f.type)) = some l → (forIn (m := Sem) gs PUnit.unit (fun f _ => if f.name ≠ "_" then (do Instr.checkKey em d f.type (← part f.type xs.toArray f.offset); pure (ForInStep.yield PUnit.unit)) else pure (ForInStep.yield PUnit.unit))).run P w = .ok PUnit.unit w := by
     intro gs
     induction gs with
     | nil => intro l _; rfl
     | cons g gs ih =>
      intro l h
      simp only [List.map_cons, leafFs] at h
      split at h
      ·rename_i ig a b hig ha hb
       rw [Bool.cond_eq_ite] at h
       split at h
       ·rename_i hc
        simp only [Bool.and_eq_true] at hc
        have hle := Nat.le_of_ble_eq_true hc.1
        simp only at hlx
        obtain ⟨u, p1, s1⟩ := part_shape (w := w) hT hig (o := g.offset) (xs := xs) (by omega) hx (fun hk => (leafs_scalar ha hig hk).1)
        have p3 := checkKey_leaf hT em n g.type a ha d (by omega) u _ s1
        have ih' := ih b hb
        rw [List.forIn_cons]
        simp only [Sem.run_bind, Sem.run_ite, p1, p3, Result.andThen_ok, Sem.run_pure]
        split <;> simp only [Result.andThen_ok] <;> exact ih'
       ·cases h
      ·cases h
    have hk2 := key gs.toList l h
    simp at hk2 ⊢
    rw [hk2]
    rfl
   ·cases h
theorem checkKey_ints {T : List (Nat × TI)} (hT : TOk P T) {kt c : Nat} (hk : intsT T kt = some c) {cs : List D} (hc : allI cs = true) (lc : cs.length = c) (em : Bool) : (Instr.checkKey em 10000 kt (keyV cs)).run P w = .ok () w := by
 obtain ⟨i, hi, hka, hs, hl⟩ := intsT_spec hk
 exact checkKey_leaf hT em 8 kt _ hl 10000 (by omega) _ (cs.map dval) ⟨i, hi, by simp [lc, hs], .inl ⟨hka, rfl⟩, allI_map hc⟩
theorem sameBits_ints : ∀ {cs : List D}, allI cs = true → ((cs.map dval).zip (cs.map dval)).all (fun (x, y) => Instr.sameBits 9999 x y) = true
 | [], _ => rfl
 | .v (.int .i64 a) :: r, h => by
  simp only [List.map_cons, List.zip_cons_cons, List.all_cons, Bool.and_eq_true]
  exact ⟨by simp [dval, Instr.sameBits], sameBits_ints (cs := r) h⟩
theorem keyStaysV {cs : List D} (hc : allI cs = true) : (Instr.keyThatStays (keyV cs) (keyV cs)).run P w = .ok (keyV cs) w := by
 have : Instr.sameBits 10000 (keyV cs) (keyV cs) = true := by
  show ((cs.map dval).toArray.size == (cs.map dval).toArray.size && ((cs.map dval).toArray.toList.zip (cs.map dval).toArray.toList).all fun (x, y) => Instr.sameBits 9999 x y) = true
  simp only [beq_self_eq_true, Bool.true_and]
  exact sameBits_ints hc
 unfold Instr.keyThatStays
 rw [this]
 rfl
theorem zeroDT_run {T : List (Nat × TI)} (hT : TOk P T) {et : Nat} {z : D} (hz : zeroDT P T et = some z) : ∃ zv, (zeroValue et).run P w = .ok zv w ∧ Rd w S z zv := by
 unfold zeroDT at hz
 split at hz
 ·rename_i z' hz'
  simp only [Option.some.injEq] at hz
  subst hz
  unfold zeroD at hz'
  split at hz'
  ·rename_i j hj
   split at hz'
   ·rename_i k' n' hjz
    simp only [Option.some.injEq] at hz'
    subst hz'
    exact ⟨.int k' n', by simp only [zeroValue, typeInfo, Sem.run_bind, run_program, Result.andThen_ok, hj, Sem.run_pure, hjz], .v _ rfl⟩
   ·rename_i b hjz
    simp only [Option.some.injEq] at hz'
    subst hz'
    exact ⟨.bool b, by simp only [zeroValue, typeInfo, Sem.run_bind, run_program, Result.andThen_ok, hj, Sem.run_pure, hjz], .v _ rfl⟩
   ·cases hz'
  ·cases hz'
 ·split at hz
  ·rename_i j hj
   split at hz
   ·rename_i zs hjz
    split at hz
    ·rename_i i hi
     simp only [Option.some.injEq] at hz
     subst hz
     obtain ⟨j', z', F⟩ := tiOK_facts (hT _ _ hi)
     rw [F.info] at hj
     cases hj
     rw [F.zero] at hjz
     cases hjz
     have hzo := F.zok
     obtain ⟨q1, q2⟩ := zeroOK_rd (w := w) (S := S) hzo
     refine ⟨.agg zs, by simp only [zeroValue, typeInfo, Sem.run_bind, run_program, Result.andThen_ok, F.info, Sem.run_pure, F.zero], .agg _ _ (by have q1' : zs.toList.length = i.zero.length := q1; simpa using q1') (fun q hq => ?_)⟩
     rw [getD_toList']
     exact q2 q hq
    ·cases hz
   ·cases hz
  ·cases hz
end
section
variable {C : Cx} {A : M} {a : Act} {w : World} {S : Nat → Prop} {μ : Mu} {ν : Nat → Bool}
theorem no_born {n : Nat} {f : Nat → Value × D} {cur : Array MapEntry} (h : ∀ i, i < n → ∃ e, cur[i]? = some e ∧ e.key = (f i).1 ∧ keyK e.key = true ∧ e.born = i ∧ Rd w S (f i).2 e.val) : ∀ i, i < n → ∃ e, cur[i]? = some e ∧ e.key = (f i).1 ∧ keyK e.key = true ∧ Rd w S (f i).2 e.val :=
 fun i hi => let ⟨e, h1, h2, h3, _, h5⟩ := h i hi; ⟨e, h1, h2, h3, h5⟩
theorem ents_keysL {n c : Nat} {f : Nat → Value × D} {cur : Array MapEntry} (hob : keysOK n c f) (hsz : cur.size = n) (hcell : ∀ i, i < n → ∃ e, cur[i]? = some e ∧ e.key = (f i).1 ∧ keyK e.key = true ∧ Rd w S (f i).2 e.val) :
  ∀ (i : Nat) (h : i < cur.toList.length), (cur.toList[i]'h).key = (f i).1 ∧ ∃ ds, (f i).1 = keyV ds ∧ allI ds = true ∧ ds.length = c := fun i hi => by
 have hin : i < n := by simpa [hsz] using hi
 obtain ⟨e, h1, h2, _⟩ := hcell i hin
 have : cur.toList[i] = e := by simpa using (Array.getElem?_eq_some_iff.1 h1).2
 rw [this]
 exact ⟨h2, hob i hin⟩
theorem ents_keys {n c : Nat} {f : Nat → Value × D} {cur : Array MapEntry} (hob : keysOK n c f) (hsz : cur.size = n) (hcell : ∀ i, i < n → ∃ e, cur[i]? = some e ∧ e.key = (f i).1 ∧ keyK e.key = true ∧ e.born = i ∧ Rd w S (f i).2 e.val) :
  ∀ (i : Nat) (h : i < cur.toList.length), (cur.toList[i]'h).key = (f i).1 ∧ ∃ ds, (f i).1 = keyV ds ∧ allI ds = true ∧ ds.length = c := ents_keysL hob hsz (no_born hcell)
theorem lookupK_runL {T : List (Nat × TI)} (hT : TOk C.P T) {t kt et c : Nat} {cs : List D} {z : D} {n g ck : Nat} {f : Nat → Value × D} {cur : Array MapEntry} {ok : Bool} {s1 b1 : Nat} {z1 : List D} {q1 : Bool}
  (hc : allI cs = true) (lc : cs.length = c) (ht : look T t = some { kind := .map kt et, size := s1, bytes := b1, zero := z1, eq := q1 }) (hkt : intsT T kt = some c) (hz : zeroDT C.P T et = some z) (hob : keysOK n c f)
  (hg : w.heap[g]? = some (.map cur ck)) (hsz : cur.size = n) (hcell : ∀ i, i < n → ∃ e, cur[i]? = some e ∧ e.key = (f i).1 ∧ keyK e.key = true ∧ Rd w S (f i).2 e.val) :
  ∃ v, (Instr.lookup t (.map (some g)) (keyV cs) ok).run C.P w = .ok (bif ok then .tuple #[v, .bool (mpHas (keyV cs) n f)] else v) w ∧ Rel w S μ ν (.d (mpGet (keyV cs) n f z)) v := by
 obtain ⟨ti, z0, F⟩ := tiOK_facts (hT _ _ ht)
 have hu := kind_map F.kind
 have hfind := findKey_idx (w := w) hT hkt hc lc cur.toList f (ents_keysL hob hsz hcell)
 have hcl : cur.toList.length = n := by simpa using hsz
 rw [hcl] at hfind
 have hck := checkKey_ints (w := w) hT hkt hc lc cur.isEmpty
 obtain ⟨zv, hzv, hzr⟩ := zeroDT_run (w := w) (S := S) hT hz
 cases hix : mpIdx (keyV cs) n f with
 | some p =>
  obtain ⟨hp, hpk⟩ := mpIdx_spec.1 p hix
  obtain ⟨e, h1, h2, h3, h5⟩ := hcell p hp
  have h1l : cur.toList[p]? = some e := by simpa using h1
  rw [hix] at hfind
  simp only [h1l, Option.map_some] at hfind
  refine ⟨e.val, ?_, by simp only [mpGet, hix]; exact .d h5⟩
  unfold Instr.lookup
  simp only [Sem.run_bind, run_underlying hu, Result.andThen_ok, run_getO hg, Sem.run_pure, hck, hfind, mpHas, hix, Option.isSome_some]
  cases ok <;> rfl
 | none =>
  rw [hix] at hfind
  simp only at hfind
  refine ⟨zv, ?_, by simp only [mpGet, hix]; exact .d hzr⟩
  unfold Instr.lookup
  simp only [Sem.run_bind, run_underlying hu, Result.andThen_ok, run_getO hg, Sem.run_pure, hck, hfind, hzv, mpHas, hix, Option.isSome_none]
  cases ok <;> rfl
theorem lookupK_run {T : List (Nat × TI)} (hT : TOk C.P T) {t kt et c : Nat} {cs : List D} {z : D} {n g : Nat} {f : Nat → Value × D} {cur : Array MapEntry} {ok : Bool} {s1 b1 : Nat} {z1 : List D} {q1 : Bool}
  (hc : allI cs = true) (lc : cs.length = c) (ht : look T t = some { kind := .map kt et, size := s1, bytes := b1, zero := z1, eq := q1 }) (hkt : intsT T kt = some c) (hz : zeroDT C.P T et = some z) (hob : keysOK n c f)
  (hg : w.heap[g]? = some (.map cur n)) (hsz : cur.size = n) (hcell : ∀ i, i < n → ∃ e, cur[i]? = some e ∧ e.key = (f i).1 ∧ keyK e.key = true ∧ e.born = i ∧ Rd w S (f i).2 e.val) :
  ∃ v, (Instr.lookup t (.map (some g)) (keyV cs) ok).run C.P w = .ok (bif ok then .tuple #[v, .bool (mpHas (keyV cs) n f)] else v) w ∧ Rel w S μ ν (.d (mpGet (keyV cs) n f z)) v :=
 lookupK_runL hT hc lc ht hkt hz hob hg hsz (no_born hcell)
theorem mp_upd {n g : Nat} {f : Nat → Value × D} {cur : Array MapEntry} {cs : List D} {c : Nat} {x : Value} {xd : D} {o : Obj} (hc : allI cs = true) (hob : keysOK n c f) (hg : w.heap[g]? = some (.map cur n)) (hns : ¬ S g) (hb : ∀ q, S q → q < w.heap.size) (hsz : cur.size = n)
  (hcell : ∀ i, i < n → ∃ e, cur[i]? = some e ∧ e.key = (f i).1 ∧ keyK e.key = true ∧ e.born = i ∧ Rd w S (f i).2 e.val) (hx : Rd w S xd x)
  (ho : o = match mpIdx (keyV cs) n f with | some p => .map (cur.modify p fun e => { e with key := keyV cs, val := x }) n | none => .map (cur.push { key := keyV cs, val := x, born := n }) (n + 1)) :
  ∀ cp, BlkAt (World.setO w g o) S μ (.mp (mpN (keyV cs) n f) (mpF (keyV cs) xd n f)) g cp := by
 intro cp
 subst ho
 have hw : ∀ o' : Obj, ∀ q, S q → (World.setO w g o').heap[q]? = w.heap[q]? := fun o' q hq => (setO_kept g _).block q (hb q hq) (fun e => hns (e ▸ hq))
 cases hix : mpIdx (keyV cs) n f with
 | some p =>
  obtain ⟨hp, hpk⟩ := mpIdx_spec.1 p hix
  obtain ⟨e, h1, h2, h3, h4, h5⟩ := hcell p hp
  have hkey : (f p).1 = keyV cs := by
   obtain ⟨ds, hd, hd2, _⟩ := hob p hp
   rw [hd] at hpk ⊢
   rw [keyEqB_v hc hd2] at hpk
   rw [eqCs_eq hc hd2 hpk]
  have eN : mpN (keyV cs) n f = n := by simp [mpN, hix]
  rw [eN]
  refine ⟨_, setO_at _ hg, hns, by simp [hsz], fun i hi => ?_⟩
  obtain ⟨e', q1, q2, q3, q4, q5⟩ := hcell i hi
  by_cases c : i = p
  ·subst c
   rw [h1] at q1
   cases q1
   refine ⟨{ e with key := keyV cs, val := x }, ?_, ?_, keyK_v hc, q4, ?_⟩
   ·simp [Array.getElem?_modify, h1]
   ·simp only [mpF, hix, if_true]
    exact hkey.symm
   ·simp only [mpF, hix, if_true]
    exact hx.mono (fun _ x => x) (hw _)
  ·refine ⟨e', ?_, ?_, q3, q4, ?_⟩
   ·have c' : ¬ p = i := fun e => c e.symm
    simp [Array.getElem?_modify, c', q1]
   ·simp only [mpF, hix, c, if_false]; exact q2
   ·simp only [mpF, hix, c, if_false]; exact q5.mono (fun _ x => x) (hw _)
 | none =>
  have eN : mpN (keyV cs) n f = n + 1 := by simp [mpN, hix]
  rw [eN]
  refine ⟨_, setO_at _ hg, hns, by simp [hsz], fun i hi => ?_⟩
  by_cases c : i < n
  ·obtain ⟨e, h1, h2, h3, h4, h5⟩ := hcell i c
   refine ⟨e, ?_, by simp only [mpF, hix, c, if_true]; exact h2, h3, h4, by simp only [mpF, hix, c, if_true]; exact h5.mono (fun _ x => x) (hw _)⟩
   rw [Array.getElem?_push, if_neg (by omega)]
   exact h1
  ·obtain rfl : i = n := by omega
   refine ⟨_, by rw [Array.getElem?_push, if_pos hsz.symm], by simp only [mpF, hix, c, if_false], keyK_v hc, rfl, ?_⟩
   simp only [mpF, hix, c, if_false]
   exact hx.mono (fun _ x => x) (hw _)
theorem apply_writeD {A : M} {κ d : Nat} {b b' : Blk} {need : List (Nat × AV)} {ro : List (Nat × Blk)} {gs : List (Nat × Bool)} (x : AV) : (Tr.mk need (some d) x ro [(κ, b)] [(κ, b')] gs).apply A = (A.set κ (some b')).put d x := by
 unfold Tr.apply M.put M.set
 simp only [Option.some.injEq]
 congr 1
 ·funext t
  by_cases c : t = d
  ·simp [c]
  ·have : ¬ d = t := fun e => c e.symm
   simp [c, this]
 ·funext k
  by_cases c : k = κ
  ·subst c; simp [look]
  ·have : Nat.beq κ k = false := by
    cases hb : Nat.beq κ k with
    | true => exact absurd (Nat.eq_of_beq_eq_true hb).symm c
    | false => rfl
   simp [look, this, c]
theorem evKey_sound {T : List (Nat × TI)} (hT : TOk C.P T) (hs : Sim C A a w S μ ν) {lb : List (Nat × Blk)} {o : Oper} {ρ : Operand → Option AV} (hρ : ∀ x y, ρ x = some y → Rel w S μ ν y (a.eval x)) (hd : ∀ t, o.dst = some t → t < C.nt) {quiet : Bool} {r : R}
  (h : evKey C.P T lb ρ o.dst quiet o.op = some r) (hro : ∀ p, p ∈ r.ro → A.lb p.1 = some p.2) (hmem : ∀ p, p ∈ r.mem → A.lb p.1 = some p.2) (hob : r.ob.den) (need : List (Nat × AV)) (gs : List (Nat × Bool)) :
  o.wp C.P a w (fun a' w' => ∃ S' μ', Sim C ((Tr.mk need o.dst r.v r.ro r.mem r.mem' gs).apply A) a' w' S' μ' ν) (fun _ _ _ => False) := by
 unfold evKey at h
 split at h
 all_goals rename_i ho
 ·-- mapUpdate
  rename_i t m k x
  split at h
  ·rename_i κ cs xd kt _ _ _ _ _ hdst hm hk hx ht
   split at h
   ·rename_i n f c hl hkt
    rw [Bool.cond_eq_ite] at h
    split at h
    ·rename_i hc
     simp only [Bool.and_eq_true] at hc
     obtain ⟨hc, lc⟩ := hc
     have lc := Nat.eq_of_beq_eq_true lc
     simp only [Option.some.injEq] at h
     subst h
     rw [hdst]
     have hκ := hmem (κ, .mp n f) (by simp)
     have hme := hs.mem κ _ hκ
     have hv := hρ _ _ hm
     generalize hmv : a.eval m = mv at hv
     cases hv with
     | @mpv _ g cap hμ =>
      rw [hμ] at hme
      obtain ⟨cur, hg, hns, hsz, hcell⟩ := hme.at
      obtain ⟨ti, z, F⟩ := tiOK_facts (hT _ _ ht)
      have hu := kind_map F.kind
      have hkv := key_value hc (hρ _ _ hk)
      have hob : keysOK n c f := hob
      have hck := checkKey_ints (w := w) hT hkt hc lc false
      have hfind := findKey_idx (w := w) hT hkt hc lc cur.toList f (ents_keys hob hsz hcell)
      have hcl : cur.toList.length = n := by simpa using hsz
      rw [hcl] at hfind
      have hxr := rel_d.1 (hρ _ _ hx)
      have hup := fun o ho => mp_upd (μ := μ) (o := o) hc hob hg hns (fun q hq => hs.bound q hq) hsz hcell hxr ho
      unfold Oper.wp
      cases hix : mpIdx (keyV cs) n f with
      | some p =>
       obtain ⟨hp, hpk⟩ := mpIdx_spec.1 p hix
       obtain ⟨e, h1, h2, h3, h4, h5⟩ := hcell p hp
       have hkey : e.key = keyV cs := by
        obtain ⟨ds, hd, hd2, _⟩ := hob p hp
        rw [hd] at hpk
        rw [keyEqB_v hc hd2] at hpk
        rw [h2, hd, eqCs_eq hc hd2 hpk]
       have h1l : cur.toList[p]? = some e := by simpa using h1
       rw [hix] at hfind
       simp only [h1l, Option.map_some] at hfind
       have hrun : (execOp a.eval o).run C.P w = .ok .skip (World.setO w g (.map (cur.modify p fun e => { e with key := keyV cs, val := a.eval x }) n)) := by
        unfold execOp
        rw [ho]
        simp only [hmv, hkv, Sem.run_bind]
        unfold Instr.mapUpdate
        simp only [Sem.run_bind, run_underlying hu, Result.andThen_ok, run_getO hg, hck, hfind, Sem.run_pure, h1, Option.map_some, Option.getD_some, hkey, keyStaysV hc, run_setO _ hg]
       rw [hrun]
       refine ⟨S, μ, ?_⟩
       rw [apply_write, hdst]
       exact hs.writeW hκ hμ (setO_kept g _) (hup _ (by rw [hix]) _)
      | none =>
       rw [hix] at hfind
       simp only at hfind
       have hrun : (execOp a.eval o).run C.P w = .ok .skip (World.setO w g (.map (cur.push { key := keyV cs, val := a.eval x, born := n }) (n + 1))) := by
        unfold execOp
        rw [ho]
        simp only [hmv, hkv, Sem.run_bind]
        unfold Instr.mapUpdate
        simp only [Sem.run_bind, run_underlying hu, Result.andThen_ok, run_getO hg, hck, hfind, Sem.run_pure, run_setO _ hg]
       rw [hrun]
       refine ⟨S, μ, ?_⟩
       rw [apply_write, hdst]
       exact hs.writeW hκ hμ (setO_kept g _) (hup _ (by rw [hix]) _)
    ·cases h
   ·cases h
  ·cases h
 ·-- lookup
  rename_i t m k ok
  split at h
  ·rename_i κ cs kt et _ _ _ _ hm hk ht
   split at h
   ·rename_i n f c z hl hkt hz
    rw [Bool.cond_eq_ite] at h
    split at h
    ·rename_i hc
     simp only [Bool.and_eq_true] at hc
     obtain ⟨hc, lc⟩ := hc
     have lc := Nat.eq_of_beq_eq_true lc
     simp only [Option.some.injEq] at h
     subst h
     have hκ := hro (κ, .mp n f) (by simp)
     have hme := hs.mem κ _ hκ
     have hv := hρ _ _ hm
     generalize hmv : a.eval m = mv at hv
     cases hv with
     | @mpv _ g cap hμ =>
      rw [hμ] at hme
      obtain ⟨cur, hg, hns, hsz, hcell⟩ := hme.at
      have hkv := key_value hc (hρ _ _ hk)
      obtain ⟨v, hrv, hv⟩ := lookupK_run (ok := ok) hT hc lc ht hkt hz hob hg hsz hcell
      refine core_value (τ := Tr.mk need o.dst (bif ok then .tup [.d (mpGet (keyV cs) n f z), .d (.v (.bool (mpHas (keyV cs) n f)))] else .d (mpGet (keyV cs) n f z)) [(κ, .mp n f)] [] [] gs) hs hd (x := bif ok then .tuple #[v, .bool (mpHas (keyV cs) n f)] else v) ?_ (lookup_rel hv) rfl rfl rfl
      simp only [execOp, ho, hmv, hkv, Sem.run_bind, hrv, Result.andThen_ok, Sem.run_pure]
    ·cases h
   ·cases h
  ·rename_i n f cs kt et _ _ _ _ hm hk ht
   split at h
   ·rename_i c z hkt hz
    rw [Bool.cond_eq_ite] at h
    split at h
    ·rename_i hc
     simp only [Bool.and_eq_true] at hc
     obtain ⟨hc, lc⟩ := hc
     have lc := Nat.eq_of_beq_eq_true lc
     simp only [Option.some.injEq] at h
     subst h
     have hv := hρ _ _ hm
     generalize hmv : a.eval m = mv at hv
     cases hv with
     | @pmp _ _ g hp =>
      obtain ⟨hns, cur, hg, hsz, hcell⟩ := hp
      have hkv := key_value hc (hρ _ _ hk)
      obtain ⟨v, hrv, hv⟩ := lookupK_run (ok := ok) hT hc lc ht hkt hz hob hg hsz hcell
      refine core_value (τ := Tr.mk need o.dst (bif ok then .tup [.d (mpGet (keyV cs) n f z), .d (.v (.bool (mpHas (keyV cs) n f)))] else .d (mpGet (keyV cs) n f z)) [] [] [] gs) hs hd (x := bif ok then .tuple #[v, .bool (mpHas (keyV cs) n f)] else v) ?_ (lookup_rel hv) rfl rfl rfl
      simp only [execOp, ho, hmv, hkv, Sem.run_bind, hrv, Result.andThen_ok, Sem.run_pure]
    ·cases h
   ·cases h
  ·cases h
 ·-- mapEntry
  rename_i t m k
  split at h
  ·rename_i d κ cs kt et _ _ _ _ hdst hm hk ht
   split at h
   ·rename_i n f c z hl hkt hz
    rw [Bool.cond_eq_ite] at h
    split at h
    ·rename_i hc
     simp only [Bool.and_eq_true] at hc
     obtain ⟨hc, lc⟩ := hc
     have lc := Nat.eq_of_beq_eq_true lc
     simp only [Option.some.injEq] at h
     subst h
     rw [hdst]
     have hκ := hmem (κ, .mp n f) (by simp)
     have hme := hs.mem κ _ hκ
     have hv := hρ _ _ hm
     generalize hmv : a.eval m = mv at hv
     cases hv with
     | @mpv _ g cap hμ =>
      rw [hμ] at hme
      obtain ⟨cur, hg, hns, hsz, hcell⟩ := hme.at
      obtain ⟨ti, z0, F⟩ := tiOK_facts (hT _ _ ht)
      have hu := kind_map F.kind
      have hkv := key_value hc (hρ _ _ hk)
      have hob : keysOK n c f := hob
      have hck := checkKey_ints (w := w) hT hkt hc lc false
      have hfind := findKey_idx (w := w) hT hkt hc lc cur.toList f (ents_keys hob hsz hcell)
      have hcl : cur.toList.length = n := by simpa using hsz
      rw [hcl] at hfind
      obtain ⟨zv, hzv, hzr⟩ := zeroDT_run (w := w) (S := S) hT hz
      have fin : ∀ (x : Value) (q : Nat) (o' : Obj), Rd w S (mpGet (keyV cs) n f z) x → q = mpAt (keyV cs) n f → (execOp a.eval o).run C.P w = .ok (.value (.tuple #[x, .int .i64 q])) (World.setO w g o') →
        (∀ cp, BlkAt (World.setO w g o') S μ (.mp (mpN (keyV cs) n f) (mpF (keyV cs) (mpGet (keyV cs) n f z) n f)) g cp) → o.wp C.P a w (fun a' w' => ∃ S' μ', Sim C ((Tr.mk need (some d) (.tup [.d (mpGet (keyV cs) n f z), .d (.v (.int .i64 (mpAt (keyV cs) n f)))]) [] [(κ, .mp n f)] [(κ, .mp (mpN (keyV cs) n f) (mpF (keyV cs) (mpGet (keyV cs) n f z) n f))] gs).apply A) a' w' S' μ' ν) (fun _ _ _ => False) := fun x q o' hx hq hrun hb => by
       unfold Oper.wp
       rw [hrun]
       have h1 := hs.writeW hκ hμ (setO_kept g o') (hb cap)
       have hw : ∀ q, S q → (World.setO w g o').heap[q]? = w.heap[q]? := fun q hq => (setO_kept g _).block q (hs.bound q hq) (fun e => hns (e ▸ hq))
       have h2 := h1.put (dst := some d) (x := .tup [.d (mpGet (keyV cs) n f z), .d (.v (.int .i64 (mpAt (keyV cs) n f)))]) (v := .tuple #[x, .int .i64 q]) (fun t ht => by cases ht; exact hd d hdst) (.tup rfl (fun j hj => by
        match j with
        | 0 => simpa using Rel.d (μ := μ) (ν := ν) (hx.mono (fun _ x => x) hw)
        | 1 => subst hq; simpa using rel_v (S := S) (μ := μ) (ν := ν) (x := .int .i64 (mpAt (keyV cs) n f)) rfl
        | j + 2 => simp at hj; omega))
       rw [apply_writeD, Oper.upon_value, hdst]
       exact ⟨S, μ, h2⟩
      cases hix : mpIdx (keyV cs) n f with
      | some p =>
       obtain ⟨hp, hpk⟩ := mpIdx_spec.1 p hix
       obtain ⟨e, h1, h2, h3, h4, h5⟩ := hcell p hp
       have hkey : e.key = keyV cs := by
        obtain ⟨ds, hd, hd2, _⟩ := hob p hp
        rw [hd] at hpk
        rw [keyEqB_v hc hd2] at hpk
        rw [h2, hd, eqCs_eq hc hd2 hpk]
       have h1l : cur.toList[p]? = some e := by simpa using h1
       rw [hix] at hfind
       simp only [h1l, Option.map_some] at hfind
       have eg : mpGet (keyV cs) n f z = (f p).2 := by simp [mpGet, hix]
       have ea : mpAt (keyV cs) n f = p := by simp [mpAt, hix]
       have hup := mp_upd (μ := μ) hc hob hg hns (fun q hq => hs.bound q hq) hsz hcell (xd := mpGet (keyV cs) n f z) (x := e.val) (by rw [eg]; exact h5) rfl
       rw [hix] at hup
       have hmod : (cur.modify p fun e => { e with key := keyV cs }) = (cur.modify p fun e' => { e' with key := keyV cs, val := e.val }) := by
        apply Array.ext (by simp)
        intro i h1' h2'
        simp only [Array.getElem_modify]
        split
        ·rename_i hpi
         subst hpi
         have : cur[p] = e := (Array.getElem?_eq_some_iff.1 h1).2
         rw [this]
        ·rfl
       refine fin e.val p _ (by rw [eg]; exact h5) ea.symm ?_ hup
       unfold execOp
       rw [ho]
       simp only [hmv, hkv, Sem.run_bind]
       unfold Instr.mapEntry
       simp only [Sem.run_bind, run_underlying hu, Result.andThen_ok, run_getO hg, hck, hfind, Sem.run_pure, h1, Option.map_some, Option.getD_some, hkey, keyStaysV hc, run_setO _ hg, hmod, h4, goInt]
      | none =>
       rw [hix] at hfind
       simp only at hfind
       have eg : mpGet (keyV cs) n f z = z := by simp [mpGet, hix]
       have ea : mpAt (keyV cs) n f = n := by simp [mpAt, hix]
       have hup := mp_upd (μ := μ) hc hob hg hns (fun q hq => hs.bound q hq) hsz hcell (xd := mpGet (keyV cs) n f z) (x := zv) (by rw [eg]; exact hzr) rfl
       rw [hix] at hup
       refine fin zv n _ (by rw [eg]; exact hzr) ea.symm ?_ hup
       unfold execOp
       rw [ho]
       simp only [hmv, hkv, Sem.run_bind]
       unfold Instr.mapEntry
       simp only [Sem.run_bind, run_underlying hu, Result.andThen_ok, run_getO hg, hck, hfind, Sem.run_pure, hzv, run_setO _ hg, goInt]
    ·cases h
   ·cases h
  ·cases h
 ·-- entryStore
  rename_i t m s x
  split at h
  ·rename_i κ q xd hdst hm hq hx
   split at h
   ·rename_i n f hl
    simp only [Option.some.injEq] at h
    subst h
    rw [hdst]
    have hκ := hmem (κ, .mp n f) (by simp)
    have hme := hs.mem κ _ hκ
    have hv := hρ _ _ hm
    generalize hmv : a.eval m = mv at hv
    cases hv with
    | @mpv _ g cap hμ =>
     rw [hμ] at hme
     obtain ⟨cur, hg, hns, hsz, hcell⟩ := hme.at
     obtain ⟨hq0, hqn⟩ : 0 ≤ q ∧ q < n := hob
     have hqv := rel_int (hρ _ _ hq)
     have hxr := rel_d.1 (hρ _ _ hx)
     obtain ⟨p, rfl⟩ : ∃ p : Nat, q = p := ⟨q.toNat, by omega⟩
     have hp : p < n := by omega
     obtain ⟨e, h1, h2, h3, h4, h5⟩ := hcell p hp
     have hfi : cur.findIdx? (fun e => (e.born : Int) == (p : Int)) = some p := by
      rw [Array.findIdx?_eq_some_iff_getElem]
      refine ⟨by omega, ?_, fun j hj => ?_⟩
      ·have : cur[p] = e := (Array.getElem?_eq_some_iff.1 h1).2
       rw [this, h4]
       simp
      ·obtain ⟨e', q1, _, _, q4, _⟩ := hcell j (by omega)
       have : cur[j] = e' := (Array.getElem?_eq_some_iff.1 q1).2
       rw [this, q4]
       simp
       omega
     have hrun : (execOp a.eval o).run C.P w = .ok .skip (World.setO w g (.map (cur.modify p fun e => { e with val := a.eval x }) n)) := by
      unfold execOp
      rw [ho]
      simp only [hmv, hqv, Sem.run_bind]
      unfold Instr.entryStore
      simp only [Sem.run_bind, Sem.run_pure, Result.andThen_ok, run_getO hg, asInt, asIntOf, hfi, run_setO _ hg]
     unfold Oper.wp
     rw [hrun]
     refine ⟨S, μ, ?_⟩
     rw [apply_write, hdst]
     have hw : ∀ o' : Obj, ∀ q, S q → (World.setO w g o').heap[q]? = w.heap[q]? := fun o' q hq => (setO_kept g _).block q (hs.bound q hq) (fun e => hns (e ▸ hq))
     refine hs.writeW hκ hμ (setO_kept g _) ⟨_, setO_at _ hg, hns, by simp [hsz], fun i hi => ?_⟩
     obtain ⟨e', q1, q2, q3, q4, q5⟩ := hcell i hi
     by_cases c : i = p
     ·subst c
      rw [h1] at q1
      cases q1
      refine ⟨{ e with val := a.eval x }, by simp [Array.getElem?_modify, h1], by simp [q2], q3, q4, ?_⟩
      simp only [decide_true, cond_true]
      exact hxr.mono (fun _ x => x) (hw _)
     ·have c' : ¬ p = i := fun e => c e.symm
      have c2 : ¬ (i : Int) = (p : Int) := by omega
      refine ⟨e', by simp [Array.getElem?_modify, c', q1], by simp [c2, q2], q3, q4, ?_⟩
      simp only [c2, decide_false, cond_false]
      exact q5.mono (fun _ x => x) (hw _)
   ·cases h
  ·cases h
 ·cases h
theorem evKey_ro {P : Program} {T : List (Nat × TI)} {lb : List (Nat × Blk)} {ρ : Operand → Option AV} {dst : Option Nat} {quiet : Bool} {op : Op} {r : R} (h : evKey P T lb ρ dst quiet op = some r) :
  (∀ p, p ∈ r.ro → look lb p.1 = some p.2) ∧ (∀ p, p ∈ r.mem → look lb p.1 = some p.2) ∧ (quiet = true → r.mem = [] ∧ r.mem' = []) ∧ ∀ k, k ∈ r.mem'.map (·.1) → k ∈ r.mem.map (·.1) := by
 unfold evKey at h
 have nil : ∀ {p : Nat × Blk}, p ∈ ([] : List (Nat × Blk)) → look lb p.1 = some p.2 := fun h => by cases h
 have one : ∀ {κ : Nat} {b : Blk}, look lb κ = some b → ∀ p, p ∈ [(κ, b)] → look lb p.1 = some p.2 := fun h p hp => by simp only [List.mem_singleton] at hp; subst hp; exact h
 split at h
 ·split at h
  ·split at h
   ·rename_i hl _
    rw [Bool.cond_eq_ite] at h
    split at h
    ·simp only [Option.some.injEq] at h; subst h; exact ⟨fun _ => nil, one hl, fun hq => (by cases hq), fun k hk => by simpa using hk⟩
    ·cases h
   ·cases h
  ·cases h
 ·split at h
  ·split at h
   ·rename_i hl _ _
    rw [Bool.cond_eq_ite] at h
    split at h
    ·simp only [Option.some.injEq] at h; subst h; exact ⟨one hl, fun _ => nil, fun _ => ⟨rfl, rfl⟩, fun k hk => (by cases hk)⟩
    ·cases h
   ·cases h
  ·split at h
   ·rw [Bool.cond_eq_ite] at h
    split at h
    ·simp only [Option.some.injEq] at h; subst h; exact ⟨fun _ => nil, fun _ => nil, fun _ => ⟨rfl, rfl⟩, fun k hk => (by cases hk)⟩
    ·cases h
   ·cases h
  ·cases h
 ·split at h
  ·split at h
   ·rename_i hl _ _
    rw [Bool.cond_eq_ite] at h
    split at h
    ·simp only [Option.some.injEq] at h; subst h; exact ⟨fun _ => nil, one hl, fun hq => (by cases hq), fun k hk => by simpa using hk⟩
    ·cases h
   ·cases h
  ·cases h
 ·split at h
  ·split at h
   ·rename_i hl
    simp only [Option.some.injEq] at h; subst h; exact ⟨fun _ => nil, one hl, fun hq => (by cases hq), fun k hk => by simpa using hk⟩
   ·cases h
  ·cases h
 ·cases h
def dlN (k : Value) (n : Nat) (f : Nat → Value × D) : Nat := match mpIdx k n f with | some _ => n - 1 | none => n
def dlF (k : Value) (n : Nat) (f : Nat → Value × D) : Nat → Value × D := match mpIdx k n f with | some p => fun i => if i < p then f i else f (i + 1) | none => f
def mlOf : Blk → Option (Nat × (Nat → Value × D))
 | .mp n f => some (n, f)
 | .ml n f => some (n, f)
 | _ => none
theorem mlOf_at {b : Blk} {n g cp : Nat} {f : Nat → Value × D} (h : mlOf b = some (n, f)) (hb : BlkAt w S μ b g cp) : BlkAt w S μ (.ml n f) g cp := by
 cases b with
 | mp => simp only [mlOf, Option.some.injEq, Prod.mk.injEq] at h; obtain ⟨rfl, rfl⟩ := h; obtain ⟨cur, h1, h2, h3, h4⟩ := hb; exact ⟨cur, _, h1, h2, h3, no_born h4⟩
 | ml => simp only [mlOf, Option.some.injEq, Prod.mk.injEq] at h; obtain ⟨rfl, rfl⟩ := h; exact hb
 | _ => cases h
def evDel (P : Program) (T : List (Nat × TI)) (lb : List (Nat × Blk)) (ρ : Operand → Option AV) (dst : Option Nat) (quiet : Bool) : Op → Option R
 | .call { callee := .builtin .delete, args := xs, argTypes := ts } => (match quiet, dst, xs.toList, ts.toList with
  | false, none, [m, k], [t, _] => (match ρ m, ρ k, look T t with
   | some (.mpv κ), some (.d (.agg cs)), some { kind := .map kt _, .. } => (match look lb κ, intsT T kt with
    | some b, some c => (match mlOf b with
     | some (n, f) => bif allI cs && Nat.beq cs.length c then some ⟨.any, [], [(κ, b)], [(κ, .ml (dlN (keyV cs) n f) (dlF (keyV cs) n f))], .pr (keysOK n c f)⟩ else none
     | none => none)
    | _, _ => none)
   | _, _, _ => none)
  | _, _, _, _ => none)
 | .lookup t m k ok => (match ρ m, ρ k, look T t with
  | some (.mpv κ), some (.d (.agg cs)), some { kind := .map kt et, .. } => (match look lb κ, intsT T kt, zeroDT P T et with
   | some (.ml n f), some c, some z => bif allI cs && Nat.beq cs.length c then some ⟨bif ok then .tup [.d (mpGet (keyV cs) n f z), .d (.v (.bool (mpHas (keyV cs) n f)))] else .d (mpGet (keyV cs) n f z), [(κ, .ml n f)], [], [], .pr (keysOK n c f)⟩ else none
   | _, _, _ => none)
  | _, _, _ => none)
 | _ => none
theorem evDel_sound {T : List (Nat × TI)} (hT : TOk C.P T) (hs : Sim C A a w S μ ν) {lb : List (Nat × Blk)} {o : Oper} {ρ : Operand → Option AV} (hρ : ∀ x y, ρ x = some y → Rel w S μ ν y (a.eval x)) (hd : ∀ t, o.dst = some t → t < C.nt) {quiet : Bool} {r : R}
  (h : evDel C.P T lb ρ o.dst quiet o.op = some r) (hro : ∀ p, p ∈ r.ro → A.lb p.1 = some p.2) (hmem : ∀ p, p ∈ r.mem → A.lb p.1 = some p.2) (hob : r.ob.den) (need : List (Nat × AV)) (gs : List (Nat × Bool)) :
  o.wp C.P a w (fun a' w' => ∃ S' μ', Sim C ((Tr.mk need o.dst r.v r.ro r.mem r.mem' gs).apply A) a' w' S' μ' ν) (fun _ _ _ => False) := by
 unfold evDel at h
 split at h
 ·rename_i xs ts ho
  split at h
  ·rename_i m k t t' hdst hxs hts
   split at h
   ·rename_i κ cs kt _ _ _ _ _ hm hk ht
    split at h
    ·rename_i b c hl hkt
     split at h
     ·rename_i n f hb
      rw [Bool.cond_eq_ite] at h
      split at h
      ·rename_i hc
       simp only [Bool.and_eq_true] at hc
       obtain ⟨hc, lc⟩ := hc
       have lc := Nat.eq_of_beq_eq_true lc
       simp only [Option.some.injEq] at h
       subst h
       have hκ := hmem (κ, b) (by simp)
       have hme := hs.mem κ _ hκ
       have hv := hρ _ _ hm
       generalize hmv : a.eval m = mv at hv
       cases hv with
       | @mpv _ g cap hμ =>
        rw [hμ] at hme
        obtain ⟨cur, ck, hg, hns, hsz, hcell⟩ := mlOf_at hb hme.at
        obtain ⟨ti, z, F⟩ := tiOK_facts (hT _ _ ht)
        have hu := kind_map F.kind
        have hkv := key_value hc (hρ _ _ hk)
        have hob : keysOK n c f := hob
        have hck := checkKey_ints (w := w) hT hkt hc lc cur.isEmpty
        have hfind := findKey_idx (w := w) hT hkt hc lc cur.toList f (ents_keysL hob hsz hcell)
        have hcl : cur.toList.length = n := by simpa using hsz
        rw [hcl] at hfind
        have hxs' : xs = #[m, k] := by apply Array.toList_inj.1; simpa using hxs
        have hts' : ts = #[t, t'] := by apply Array.toList_inj.1; simpa using hts
        subst hxs' hts'
        have fin : ∀ (o' : Obj), (Builtin.delete_ #[t, t'] o.type #[.map (some g), keyV cs]).run C.P w = .ok (.tuple #[]) (World.setO w g o') → (∀ cp, BlkAt (World.setO w g o') S μ (.ml (dlN (keyV cs) n f) (dlF (keyV cs) n f)) g cp) →
          o.wp C.P a w (fun a' w' => ∃ S' μ', Sim C ((Tr.mk need o.dst .any [] [(κ, b)] [(κ, .ml (dlN (keyV cs) n f) (dlF (keyV cs) n f))] gs).apply A) a' w' S' μ' ν) (fun _ _ _ => False) := fun o' hrun hbl => by
         unfold Oper.wp execOp
         simp only [ho, resolve, invoke, builtin, Sem.run_bind, Sem.run_pure, Result.andThen_ok, List.map_toArray, List.map_cons, List.map_nil, hmv, hkv, hrun]
         refine ⟨S, μ, ?_⟩
         rw [hdst, apply_write]
         exact hs.writeW hκ hμ (setO_kept g _) (hbl _)
        have hw : ∀ o' : Obj, ∀ q, S q → (World.setO w g o').heap[q]? = w.heap[q]? := fun o' q hq => (setO_kept g _).block q (hs.bound q hq) (fun e => hns (e ▸ hq))
        cases hix : mpIdx (keyV cs) n f with
        | some p =>
         obtain ⟨hp, hpk⟩ := mpIdx_spec.1 p hix
         obtain ⟨e, h1, h2, h3, h5⟩ := hcell p hp
         have h1l : cur.toList[p]? = some e := by simpa using h1
         rw [hix] at hfind
         simp only [h1l, Option.map_some] at hfind
         refine fin (.map (cur.eraseIdxIfInBounds p) ck) ?_ (fun cp => ⟨_, _, setO_at _ hg, hns, ?_, fun i hi => ?_⟩)
         ·unfold Builtin.delete_
          simp only [List.getElem?_toArray, List.getElem?_cons_zero, List.getElem?_cons_succ, Sem.run_bind, run_underlying hu, Result.andThen_ok, run_getO hg, hck, hfind, Sem.run_pure, run_setO _ hg]
         ·have hp' : p < cur.size := by omega
          simp only [dlN, hix, Array.eraseIdxIfInBounds, hp', dif_pos]
          rw [Array.size_eraseIdx, hsz]
         ·have hp' : p < cur.size := by omega
          simp only [dlN, hix] at hi
          simp only [dlF, hix, Array.eraseIdxIfInBounds, hp', dif_pos]
          rw [Array.getElem?_eraseIdx]
          by_cases c : i < p
          ·obtain ⟨e', q1, q2, q3, q5⟩ := hcell i (by omega)
           simp only [c, if_true]
           exact ⟨e', q1, q2, q3, q5.mono (fun _ x => x) (hw _)⟩
          ·obtain ⟨e', q1, q2, q3, q5⟩ := hcell (i + 1) (by omega)
           simp only [c, if_false]
           exact ⟨e', q1, q2, q3, q5.mono (fun _ x => x) (hw _)⟩
        | none =>
         rw [hix] at hfind
         simp only at hfind
         refine fin (.map cur ck) ?_ (fun cp => ⟨_, _, setO_at _ hg, hns, by simp [dlN, hix, hsz], fun i hi => ?_⟩)
         ·unfold Builtin.delete_
          simp only [List.getElem?_toArray, List.getElem?_cons_zero, List.getElem?_cons_succ, Sem.run_bind, run_underlying hu, Result.andThen_ok, run_getO hg, hck, hfind, Sem.run_pure, run_setO _ hg]
         ·simp only [dlN, hix] at hi
          obtain ⟨e', q1, q2, q3, q5⟩ := hcell i hi
          simp only [dlF, hix]
          exact ⟨e', q1, q2, q3, q5.mono (fun _ x => x) (hw _)⟩
      ·cases h
     ·cases h
    ·cases h
   ·cases h
  ·cases h
 ·rename_i t m k ok ho
  split at h
  ·rename_i κ cs kt et _ _ _ _ hm hk ht
   split at h
   ·rename_i n f c z hl hkt hz
    rw [Bool.cond_eq_ite] at h
    split at h
    ·rename_i hc
     simp only [Bool.and_eq_true] at hc
     obtain ⟨hc, lc⟩ := hc
     have lc := Nat.eq_of_beq_eq_true lc
     simp only [Option.some.injEq] at h
     subst h
     have hκ := hro (κ, .ml n f) (by simp)
     have hme := hs.mem κ _ hκ
     have hv := hρ _ _ hm
     generalize hmv : a.eval m = mv at hv
     cases hv with
     | @mpv _ g cap hμ =>
      rw [hμ] at hme
      obtain ⟨cur, ck, hg, hns, hsz, hcell⟩ := hme.at
      have hkv := key_value hc (hρ _ _ hk)
      obtain ⟨v, hrv, hv⟩ := lookupK_runL (ok := ok) hT hc lc ht hkt hz hob hg hsz hcell
      refine core_value (τ := Tr.mk need o.dst (bif ok then .tup [.d (mpGet (keyV cs) n f z), .d (.v (.bool (mpHas (keyV cs) n f)))] else .d (mpGet (keyV cs) n f z)) [(κ, .ml n f)] [] [] gs) hs hd (x := bif ok then .tuple #[v, .bool (mpHas (keyV cs) n f)] else v) ?_ (lookup_rel hv) rfl rfl rfl
      simp only [execOp, ho, hmv, hkv, Sem.run_bind, hrv, Result.andThen_ok, Sem.run_pure]
    ·cases h
   ·cases h
  ·cases h
 ·cases h
theorem evDel_ro {P : Program} {T : List (Nat × TI)} {lb : List (Nat × Blk)} {ρ : Operand → Option AV} {dst : Option Nat} {quiet : Bool} {op : Op} {r : R} (h : evDel P T lb ρ dst quiet op = some r) :
  (∀ p, p ∈ r.ro → look lb p.1 = some p.2) ∧ (∀ p, p ∈ r.mem → look lb p.1 = some p.2) ∧ (quiet = true → r.mem = [] ∧ r.mem' = []) ∧ ∀ k, k ∈ r.mem'.map (·.1) → k ∈ r.mem.map (·.1) := by
 unfold evDel at h
 have nil : ∀ {p : Nat × Blk}, p ∈ ([] : List (Nat × Blk)) → look lb p.1 = some p.2 := fun h => by cases h
 have one : ∀ {κ : Nat} {b : Blk}, look lb κ = some b → ∀ p, p ∈ [(κ, b)] → look lb p.1 = some p.2 := fun h p hp => by simp only [List.mem_singleton] at hp; subst hp; exact h
 split at h
 ·split at h
  ·split at h
   ·split at h
    ·rename_i hl _
     split at h
     ·rw [Bool.cond_eq_ite] at h
      split at h
      ·simp only [Option.some.injEq] at h; subst h; exact ⟨fun _ => nil, one hl, fun hq => (by cases hq), fun k hk => by simpa using hk⟩
      ·cases h
     ·cases h
    ·cases h
   ·cases h
  ·cases h
 ·split at h
  ·split at h
   ·rename_i hl _ _
    rw [Bool.cond_eq_ite] at h
    split at h
    ·simp only [Option.some.injEq] at h; subst h; exact ⟨one hl, fun _ => nil, fun _ => ⟨rfl, rfl⟩, fun k hk => (by cases hk)⟩
    ·cases h
   ·cases h
  ·cases h
 ·cases h
def evMapA (P : Program) (T : List (Nat × TI)) (lb : List (Nat × Blk)) (ρ : Operand → Option AV) (dst : Option Nat) (quiet : Bool) (op : Op) : Option R := match evMap P T lb ρ dst quiet op with
 | some r => some r
 | none => (match evKey P T lb ρ dst quiet op with | some r => some r | none => evDel P T lb ρ dst quiet op)
theorem evMapA_sound {T : List (Nat × TI)} (hT : TOk C.P T) (hs : Sim C A a w S μ ν) {lb : List (Nat × Blk)} {o : Oper} {ρ : Operand → Option AV} (hρ : ∀ x y, ρ x = some y → Rel w S μ ν y (a.eval x)) (hd : ∀ t, o.dst = some t → t < C.nt) {quiet : Bool} {r : R}
  (h : evMapA C.P T lb ρ o.dst quiet o.op = some r) (hro : ∀ p, p ∈ r.ro → A.lb p.1 = some p.2) (hmem : ∀ p, p ∈ r.mem → A.lb p.1 = some p.2) (hob : r.ob.den) (need : List (Nat × AV)) (gs : List (Nat × Bool)) :
  o.wp C.P a w (fun a' w' => ∃ S' μ', Sim C ((Tr.mk need o.dst r.v r.ro r.mem r.mem' gs).apply A) a' w' S' μ' ν) (fun _ _ _ => False) := by
 unfold evMapA at h
 split at h
 ·rename_i hm
  simp only [Option.some.injEq] at h
  subst h
  exact evMap_sound hT hs hρ hd hm hro hmem hob need gs
 ·split at h
  ·rename_i hm
   simp only [Option.some.injEq] at h
   subst h
   exact evKey_sound hT hs hρ hd hm hro hmem hob need gs
  ·exact evDel_sound hT hs hρ hd h hro hmem hob need gs
theorem evMapA_ro {P : Program} {T : List (Nat × TI)} {lb : List (Nat × Blk)} {ρ : Operand → Option AV} {dst : Option Nat} {quiet : Bool} {op : Op} {r : R} (h : evMapA P T lb ρ dst quiet op = some r) :
  (∀ p, p ∈ r.ro → look lb p.1 = some p.2) ∧ (∀ p, p ∈ r.mem → look lb p.1 = some p.2) ∧ (quiet = true → r.mem = [] ∧ r.mem' = []) ∧ ∀ k, k ∈ r.mem'.map (·.1) → k ∈ r.mem.map (·.1) := by
 unfold evMapA at h
 split at h
 ·rename_i hm
  simp only [Option.some.injEq] at h
  subst h
  exact evMap_ro hm
 ·split at h
  ·rename_i hm
   simp only [Option.some.injEq] at h
   subst h
   exact evKey_ro hm
  ·exact evDel_ro h
end
end Go.Av
