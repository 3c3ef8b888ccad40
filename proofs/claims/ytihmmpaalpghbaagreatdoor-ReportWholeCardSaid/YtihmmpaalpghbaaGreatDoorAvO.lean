/- Slices that are written out; the choice between two bools. -/
import Derived.Test.YtihmmpaalpghbaaGreatDoorAvN
import Derived.Lib.ConvBytes
set_option linter.unusedSimpArgs false
set_option linter.unusedVariables false
namespace Go.Av
open Go
set_option linter.unusedSectionVars false
variable [Globs]
def zerosA (n k : Nat) (z : List D) : List AV := (List.range n).map fun q => .d (z.getD (q % k) default)
section
variable {C : Cx} {A : M} {a : Act} {w : World} {S : Nat → Prop} {μ : Mu} {ν : Nat → Bool}
def unN (ρ : Operand → Option AV) (x : Operand) : Option AV := match ρ x with
 | some (.nns n f) => some (.d (.sl n f))
 | y => y
theorem unN_ok {ρ : Operand → Option AV} (h : ∀ x y, ρ x = some y → Rel w S μ ν y (a.eval x)) : ∀ x y, unN ρ x = some y → Rel w S μ ν y (a.eval x) := by
 intro x y hy
 unfold unN at hy
 split at hy
 ·rename_i n f hx
  have h1 := h x _ hx
  obtain rfl := Option.some.inj hy
  generalize a.eval x = v at h1
  cases h1 with
  | nns hd => exact .d hd
 ·exact h x y hy
def buildCells (T : List (Nat × TI)) (ρ : Operand → Option AV) (t len : Nat) (ps : List (Nat × Operand)) : Option (Nat × Nat × List D) :=
 match look T t, valsOf ρ ps with
 | some { kind := .slice e, .. }, some vs => (match look T e with
  | some i => bif Nat.ble (len * i.size) 16777216 && Nat.ble 1 i.size then (match fillA (fun q => some (q * i.size, i.size)) (zerosA (len * i.size) i.size i.zero) vs with
   | some cs => (match pureL cs with | some ds => bif Nat.beq ds.length (len * i.size) then some (e, i.size, ds) else none | none => none)
   | none => none) else none
  | none => none)
 | _, _ => none
theorem buildCells_run {P : Program} {T : List (Nat × TI)} (hT : TOk P T) {ρ : Operand → Option AV} (hρ : ∀ x y, ρ x = some y → Rel w S μ ν y (a.eval x)) {t len : Nat} {ps : Array (Nat × Operand)} {e k : Nat} {ds : List D} (h : buildCells T ρ t len ps.toList = some (e, k, ds)) :
  ∃ cells : Array Value, (Instr.buildSlice t len (ps.map fun (i, x) => (i, a.eval x))).run P w = .ok (.slice (some ⟨w.heap.size, 0, none⟩) len len) (w.alloc (.cells cells e)) ∧ cells.size = len * k ∧ RowCells w S k len (rowF k len ds) cells.toList ∧ ds.length = len * k ∧ len ≤ maxLen := by
 unfold buildCells at h
 split at h
 ·rename_i e' _ _ _ _ vs hl hv
  split at h
  ·rename_i i hi
   cases hb : (Nat.ble (len * i.size) 16777216 && Nat.ble 1 i.size) with
   | false => rw [hb] at h; cases h
   | true =>
    rw [hb] at h
    simp only [Bool.and_eq_true] at hb
    have hle := Nat.le_of_ble_eq_true hb.1
    have hpos := Nat.le_of_ble_eq_true hb.2
    simp only [cond_true] at h
    split at h
    ·rename_i cs hcs
     split at h
     ·rename_i ds' hp
      cases hb2 : Nat.beq ds'.length (len * i.size) with
      | false => rw [hb2] at h; cases h
      | true =>
       rw [hb2] at h
       have hdl := Nat.eq_of_beq_eq_true hb2
       simp only [cond_true, Option.some.injEq, Prod.mk.injEq] at h
       obtain ⟨rfl, rfl, rfl⟩ := h
       have ecs := pureL_spec hp
       subst ecs
       obtain ⟨ti, z, F⟩ := tiOK_facts (hT t _ hl)
       have hu := kind_slice F.kind
       obtain ⟨tj, zj, G⟩ := tiOK_facts (hT e' _ hi)
       obtain ⟨q1, q2⟩ := zeroOK_rd (w := w) (S := S) G.zok
       have hzs : zj.cells.size = i.size := by rw [← G.zlen, ← q1]; simp
       have hz : RelL w S μ ν (zerosA (len * i.size) i.size i.zero) ((Array.range (len * i.size)).map (zj.cells[· % zj.cells.size]!)).toList := by
        refine ⟨by simp [zerosA], fun q hq => ?_⟩
        have hq' : q < len * i.size := by simpa [zerosA] using hq
        have hm : q % i.size < i.size := Nat.mod_lt _ hpos
        have e1 : (zerosA (len * i.size) i.size i.zero).getD q default = .d (i.zero.getD (q % i.size) default) := by simp [zerosA, List.getD, hq']
        have e2 : ((Array.range (len * i.size)).map (zj.cells[· % zj.cells.size]!)).toList.getD q undef = zj.cells.toList.getD (q % i.size) undef := by
         have h1 : q % i.size < zj.cells.size := by omega
         simp only [List.getD, Array.getElem?_toList, Array.getElem?_map, Array.getElem?_range, hq', if_true, Option.map_some, Option.getD_some, hzs]
         rw [getElem!_pos zj.cells _ h1, Array.getElem?_eq_getElem h1]
         rfl
        rw [e1, e2]
        exact .d (q2 _ (by rw [G.zlen]; exact hm))
       obtain ⟨v1, v2⟩ := valsOf_rel hρ ps.toList vs hv
       obtain ⟨cur', hf, hr⟩ := fillA_run (fun q => some (q * i.size, i.size)) vs (ps.toList.map fun p => (p.1, a.eval p.2)) _ _ ((Array.range (len * i.size)).map (zj.cells[· % zj.cells.size]!)) hz v1 v2 hcs
       have hcl : cur'.size = len * i.size := by have := hr.1; simp at this; omega
       refine ⟨cur', ?_, hcl, ⟨by simpa using hcl, fun q hq => ⟨(rowF_get hdl hq).1, fun j hj => ?_⟩⟩, hdl, ?_⟩
       ·have hps : (ps.map fun (i, x) => (i, a.eval x)).toList = ps.toList.map fun p => (p.1, a.eval p.2) := by simp
        have hn : ¬ len * i.size > 2 ^ 24 := by omega
        simp only [Instr.buildSlice, Sem.run_bind, run_underlying hu, Result.andThen_ok, sizeOf, typeInfo, run_program, G.info, Sem.run_pure, G.size, Sem.run_ite, hn, if_false, hps]
        by_cases h0 : len * i.size = 0
        ·rw [h0] at hcl hf
         simp only [h0, if_true]
         have : ∀ (g g' : Nat → Value), (Array.range 0).map g = (Array.range 0).map g' := fun g g' => by simp
         rw [this _ (zj.cells[· % zj.cells.size]!), hf]
         simp [newRow]
        ·simp only [h0, if_false, zeroValue, typeInfo, Sem.run_bind, run_program, Result.andThen_ok, G.info, Sem.run_pure, G.zero]
         rw [hf]
         simp [newRow]
       ·rw [(rowF_get hdl hq).2 j hj]
        have hlt : q * i.size + j < ds'.length := by
         rw [hdl]
         calc q * i.size + j < q * i.size + i.size := by omega
          _ = (q + 1) * i.size := by rw [Nat.add_mul, Nat.one_mul]
          _ ≤ len * i.size := Nat.mul_le_mul_right _ hq
        have := hr.2 (q * i.size + j) (by simpa using hlt)
        rw [getD_mapd _ _ hlt] at this
        exact rel_d.1 this
       ·have : len * 1 ≤ len * i.size := Nat.mul_le_mul_left len hpos
        simp only [maxLen]
        omega
     ·cases h
    ·cases h
  ·cases h
 ·cases h
theorem core_buildSlice {T : List (Nat × TI)} (hT : TOk C.P T) {o : Oper} {dst t len : Nat} {ps : Array (Nat × Operand)} {e k : Nat} {ds : List D} {ρ : Operand → Option AV} {need : List (Nat × AV)} {ro : List (Nat × Blk)} {gs : List (Nat × Bool)}
  (hs : Sim C A a w S μ ν) (hd : o.dst = some dst) (hdt : dst < C.nt) (ho : o.op = .buildSlice t len ps) (hρ : ∀ x y, ρ x = some y → Rel w S μ ν y (a.eval x)) (h : buildCells T ρ t len ps.toList = some (e, k, ds)) (hf : Fresh A dst) :
  o.wp C.P a w (fun a' w' => ∃ S' μ', Sim C ((Tr.mk need (some dst) (.own dst len) ro [] [(dst, .row e k len (rowF k len ds))] gs).apply A) a' w' S' μ' ν) (fun _ _ _ => False) := by
 obtain ⟨cells, hrun, hsz, hrow, _, hml⟩ := buildCells_run hT hρ h
 unfold Oper.wp execOp
 simp only [ho, Sem.run_bind, hrun, Result.andThen_ok, Sem.run_pure]
 have hns : ¬ S w.heap.size := fun h => by have := hs.bound _ h; omega
 have hw : ∀ q, S q → (w.alloc (.cells cells e)).heap[q]? = w.heap[q]? := fun q hq => heap_alloc_old w _ (hs.bound q hq)
 have h1 := hs.alloc hf (b := .row e k len (rowF k len ds)) (cur := cells) (e := e) (cap := len) (by simp [Blk.keys]) (rowAt_mk (heap_alloc_new w _) hns hsz (Nat.le_refl _) hml (by rw [← hsz, ← Array.length_toList, List.take_length]) (hrow.mono (fun _ x => x) hw))
 have h2 := h1.put (dst := some dst) (x := .own dst len) (v := .slice (some ⟨w.heap.size, 0, none⟩) len len) (fun t ht => by cases ht; exact hdt) (.own (by simp [muSet]))
 rw [apply_new]
 exact ⟨S, _, by rw [hd]; exact h2⟩
theorem core_make {T : List (Nat × TI)} (hT : TOk C.P T) {o : Oper} {dst t e : Nat} {l c : Operand} {it i : TI} {kl kc : IntKind} {n : Int} {need : List (Nat × AV)} {ro : List (Nat × Blk)} {gs : List (Nat × Bool)}
  (hs : Sim C A a w S μ ν) (hd : o.dst = some dst) (hdt : dst < C.nt) (ho : o.op = .makeSlice t l c) (ht : look T t = some it) (hk : it.kind = .slice e) (he : look T e = some i) (hl : a.eval l = .int kl n) (hc : a.eval c = .int kc n)
  (h0 : 0 ≤ n) (hm : n.toNat ≤ maxLen) (hb : n.toNat * i.bytes ≤ 140737488355328) (hf : Fresh A dst) :
  o.wp C.P a w (fun a' w' => ∃ S' μ', Sim C ((Tr.mk need (some dst) (.own dst n.toNat) ro [] [(dst, .row e i.size n.toNat fun _ => i.zero)] gs).apply A) a' w' S' μ' ν) (fun _ _ _ => False) := by
 obtain ⟨tj, z, F⟩ := tiOK_facts (hT _ _ ht)
 obtain ⟨ej, ez, G⟩ := tiOK_facts (hT _ _ he)
 have hkk := F.kind
 rw [hk] at hkk
 have hu := kind_slice hkk
 have hml : n ≤ 9223372036854775807 := by have := hm; simp only [maxLen] at this; omega
 have hbb : (ej.bytes : Int) * n ≤ 281474976710656 := by
  rw [G.bytes]
  have h1 : ((i.bytes * n.toNat : Nat) : Int) ≤ 281474976710656 := by rw [Nat.mul_comm]; omega
  rw [Int.natCast_mul, Int.toNat_of_nonneg h0] at h1
  exact h1
 have hrun := run_make (P := C.P) w t e ej ez hu G.info G.zero kl kc n n h0 (Int.le_refl _) hbb hml
 rw [G.size] at hrun
 unfold Oper.wp execOp
 simp only [ho, hl, hc, Sem.run_bind, hrun, Result.andThen_ok, Sem.run_pure]
 have hns : ¬ S w.heap.size := fun h => by have := hs.bound _ h; omega
 have hw : ∀ q, S q → (w.alloc (.cells (madeCells ez.cells (n.toNat * i.size)) e)).heap[q]? = w.heap[q]? := fun q hq => heap_alloc_old w _ (hs.bound q hq)
 obtain ⟨q1, q2⟩ := zeroOK_rd (w := w) (S := S) G.zok
 have hzl : ez.cells.size = i.size := by have := q1; simp only [Array.length_toList] at this; rw [this, G.zlen]
 have hrow : RowCells w S i.size n.toNat (fun _ => i.zero) (madeCells ez.cells (n.toNat * i.size)).toList := by
  refine ⟨by simp [size_madeCells], fun q hq => ⟨G.zlen, fun j hj => ?_⟩⟩
  have hlt : q * i.size + j < n.toNat * i.size := by
   calc q * i.size + j < q * i.size + i.size := by omega
    _ = (q + 1) * i.size := by rw [Nat.add_mul, Nat.one_mul]
    _ ≤ n.toNat * i.size := Nat.mul_le_mul_right _ hq
  have e1 : (madeCells ez.cells (n.toNat * i.size)).toList.getD (q * i.size + j) undef = ez.cells.toList.getD j undef := by
   have hj' : j < ez.cells.size := by omega
   have hmod : (q * i.size + j) % ez.cells.size = j := by rw [hzl, Nat.mul_comm, Nat.mul_add_mod, Nat.mod_eq_of_lt hj]
   simp [madeCells, List.getD, hlt, hmod, hj']
  rw [e1]
  exact q2 j (by rw [G.zlen]; exact hj)
 have h1 := hs.alloc hf (b := .row e i.size n.toNat fun _ => i.zero) (cur := madeCells ez.cells (n.toNat * i.size)) (e := e) (cap := n.toNat) (by simp [Blk.keys]) (rowAt_mk (heap_alloc_new w _) hns (size_madeCells _ _) (Nat.le_refl _) hm (List.take_of_length_le (by simp [size_madeCells])) (hrow.mono (fun _ x => x) hw))
 have h2 := h1.put (dst := some dst) (x := .own dst n.toNat) (v := .slice (some ⟨w.heap.size, 0, none⟩) n.toNat n.toNat) (fun t ht => by cases ht; exact hdt) (.own (by simp [muSet]))
 rw [apply_new]
 exact ⟨S, _, by rw [hd]; exact h2⟩
theorem core_buildPure {T : List (Nat × TI)} (hT : TOk C.P T) {o : Oper} {t len : Nat} {ps : Array (Nat × Operand)} {e k : Nat} {ds : List D} {ρ : Operand → Option AV} {τ : Tr}
  (hs : Sim C A a w S μ ν) (hd : ∀ t, o.dst = some t → t < C.nt) (ho : o.op = .buildSlice t len ps) (hρ : ∀ x y, ρ x = some y → Rel w S μ ν y (a.eval x)) (h : buildCells T ρ t len ps.toList = some (e, k, ds))
  (h0 : τ.v = .d (.sl len (rowF k len ds))) (h1 : τ.dst = o.dst) (h2 : τ.mem = []) (h3 : τ.mem' = []) :
  o.wp C.P a w (fun a' w' => ∃ S' μ', Sim C (τ.apply A) a' w' S' μ' ν) (fun _ _ _ => False) := by
 obtain ⟨cells, hrun, hsz, hrow, _, hml⟩ := buildCells_run hT hρ h
 unfold Oper.wp execOp
 simp only [ho, Sem.run_bind, hrun, Result.andThen_ok, Sem.run_pure]
 let S' : Nat → Prop := fun q => S q ∨ q = w.heap.size
 have h4 := hs.world (S' := S') (w' := w.alloc (.cells cells e)) (fun _ x => .inl x) (fun q hq => hq.elim .inl (fun e => .inr ⟨by omega, by rw [e]; simp⟩)) (kept_alloc w _ _)
 have hrd : Rd (w.alloc (.cells cells e)) S' (.sl len (rowF k len ds)) (.slice (some ⟨w.heap.size, 0, none⟩) len len) := by
  refine .sl len _ ⟨w.heap.size, 0, none⟩ len k (fun i j => cells.toList.getD (i * k + j) undef) (Nat.le_refl _) hml (.inr rfl) (fun i hi => (hrow.2 i hi).1) (fun i j hi hj => ⟨.inr rfl, ?_⟩) (fun i j hi hj => ?_)
  ·have hlt : i * k + j < cells.size := by
    rw [hsz]
    calc i * k + j < i * k + k := by omega
     _ = (i + 1) * k := by rw [Nat.add_mul, Nat.one_mul]
     _ ≤ len * k := Nat.mul_le_mul_right k hi
   rw [cell_row _ _ _ cells e (0, 0) (heap_alloc_new w _)]
   simp [List.getD, hlt]
  ·exact ((hrow.2 i hi).2 j hj).mono (fun _ x => .inl x) (fun q hq => heap_alloc_old w _ (hs.bound q hq))
 have h5 := h4.put (dst := o.dst) (x := .d (.sl len (rowF k len ds))) (v := .slice (some ⟨w.heap.size, 0, none⟩) len len) hd (.d hrd)
 refine ⟨S', μ, ?_⟩
 have e : τ.apply A = A.putO o.dst (.d (.sl len (rowF k len ds))) := by
  unfold Tr.apply M.putO M.put
  rw [h0, h1, h2, h3]
  cases ho : o.dst with
  | none => simp [look]
  | some d =>
   simp only [look, List.map_nil, List.not_mem_nil, if_false, Option.some.injEq]
   congr 1
   funext t
   by_cases c : d = t
   ·simp [c]
   ·have : ¬ t = d := fun e => c e.symm
    simp [c, this]
 rw [e]
 exact h5
def evBytes (T : List (Nat × TI)) (ρ : Operand → Option AV) : Op → Option (AV × Ob)
 | .convert src d x => (match ρ x, look T src, look T d with
  | some (.d (.v (.string s))), some _, some { kind := .slice e, .. } => (match look T e with
   | some { kind := .int .u8, .. } => some (.d (.sl s.size fun i => [.v (.int .u8 (s.data.toList.getD i 0).toNat)]), .pr (s.size ≤ maxLen))
   | _ => none)
  | _, _, _ => none)
 | _ => none
theorem evBytes_wp {T : List (Nat × TI)} (hT : TOk C.P T) (hs : Sim C A a w S μ ν) {o : Oper} {ρ : Operand → Option AV} (hρ : ∀ x y, ρ x = some y → Rel w S μ ν y (a.eval x)) (hd : ∀ t, o.dst = some t → t < C.nt) {v : AV} {ob : Ob} (h : evBytes T ρ o.op = some (v, ob)) (hob : ob.den) (need : List (Nat × AV)) (ro : List (Nat × Blk)) (gs : List (Nat × Bool)) :
  o.wp C.P a w (fun a' w' => ∃ S' μ', Sim C ((Tr.mk need o.dst v ro [] [] gs).apply A) a' w' S' μ' ν) (fun _ _ _ => False) := by
 unfold evBytes at h
 split at h
 ·rename_i src d x ho
  split at h
  ·rename_i s ti e _ _ _ _ hx hsrc hdst
   split at h
   ·rename_i _ _ _ _ he
    simp only [Option.some.injEq, Prod.mk.injEq] at h
    obtain ⟨rfl, rfl⟩ := h
    have hob : s.size ≤ maxLen := hob
    have hv := rel_scalar rfl (hρ _ _ hx)
    obtain ⟨ds, hds⟩ : ∃ q, C.P.underlying src = some q := by
     obtain ⟨tj, zj, G⟩ := tiOK_facts (hT _ _ hsrc)
     have := G.kind
     cases hu : C.P.underlying src with
     | some q => exact ⟨q, rfl⟩
     | none => cases hk : ti.kind <;> rw [hk] at this <;> simp [kindOK, hu] at this
    obtain ⟨t1, z1, F1⟩ := tiOK_facts (hT _ _ hdst)
    obtain ⟨t2, z2, F2⟩ := tiOK_facts (hT _ _ he)
    have hrun := Lib.run_convert_string_bytes (P := C.P) w src d e s hds (kind_slice F1.kind) (kind_int F2.kind)
    unfold Oper.wp execOp
    simp only [ho, hv, Sem.run_bind, hrun, Result.andThen_ok, Sem.run_pure]
    let S' : Nat → Prop := fun q => S q ∨ q = w.heap.size
    have hkept : Kept w (Lib.bytesWorld w e s) (fun _ => False) := ⟨rfl, rfl, rfl, by rw [Lib.bytesWorld_size]; omega, fun b hb _ => Lib.bytesWorld_at_old w e s b hb⟩
    have h4 := hs.world (S' := S') (fun _ x => .inl x) (fun q hq => hq.elim .inl (fun e' => .inr ⟨by omega, by rw [e', Lib.bytesWorld_size]; omega⟩)) hkept
    have hrd : Rd (Lib.bytesWorld w e s) S' (.sl s.size fun i => [.v (.int .u8 (s.data.toList.getD i 0).toNat)]) (.slice (some ⟨w.heap.size, 0, none⟩) s.size (grownCap w s.size 0 e)) := by
     refine .sl s.size _ ⟨w.heap.size, 0, none⟩ _ 1 (fun i _ => .int .u8 (s.data.toList.getD i 0).toNat) (grownCap_ge w s.size 0 e) (grownCap_le_maxLen w s.size 0 e hob) (.inr rfl) (fun i hi => rfl) (fun i j hi hj => ⟨.inr rfl, ?_⟩) (fun i j hi hj => ?_)
     ·obtain rfl : j = 0 := by omega
      simp only [Nat.mul_one, Nat.add_zero, Nat.zero_add]
      exact Lib.bytesWorld_cell w e s i hi
     ·obtain rfl : j = 0 := by omega
      exact .v _ rfl
    have h5 := h4.put (dst := o.dst) hd (.d hrd)
    refine ⟨S', μ, ?_⟩
    have e : (Tr.mk need o.dst (.d (.sl s.size fun i => [.v (.int .u8 (s.data.toList.getD i 0).toNat)])) ro [] [] gs).apply A = A.putO o.dst (.d (.sl s.size fun i => [.v (.int .u8 (s.data.toList.getD i 0).toNat)])) := by
     unfold Tr.apply M.putO M.put
     cases ho : o.dst with
     | none => simp [look]
     | some d =>
      simp only [look, List.map_nil, List.not_mem_nil, if_false, Option.some.injEq]
      congr 1
      funext t
      by_cases c : d = t
      ·simp [c]
      ·have : ¬ t = d := fun e => c e.symm
       simp [c, this]
    rw [e]
    exact h5
   ·cases h
  ·cases h
 ·cases h
end
end Go.Av
