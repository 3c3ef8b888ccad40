/- The end of slices.DeleteFunc: the elements from a place on are made zero. -/
import Derived.Test.YtihmmpaalpghbaaGreatDoorAvUc
set_option linter.unusedSimpArgs false
set_option linter.unusedVariables false
namespace Go.Av
open Go
set_option linter.unusedSectionVars false
variable [Globs]
def isClr (ops : Array Oper) : Option (Nat × Nat × Nat × Nat × Nat × Nat) :=
 match ops.toList with
 | [o1, o2, o3, o4] => (match o1.op, o1.dst, o1.guard, o2.op, o2.dst, o2.guard with
  | .move (.tmp ts), some d1, none, .move (.tmp ti), some d2, none => (match o3.op, o3.dst, o3.guard, o4.op, o4.dst, o4.guard with
   | .slice ty (.tmp a) (some (.tmp b)) none none, some d3, none, .call { callee := .builtin .clear, args := xs, argTypes := tys, .. }, none, none => (match xs.toList, tys.toList with
    | [.tmp c], [ty'] => bif Nat.beq a d1 && Nat.beq b d2 && Nat.beq c d3 && Nat.beq ty ty' && !Nat.beq d1 d2 && !Nat.beq ti d1 then some (ts, ti, ty, d1, d2, d3) else none
    | _, _ => none)
   | _, _, _, _, _, _ => none)
  | _, _, _, _, _, _ => none)
 | _ => none
def clrF (x : Nat) (f : Nat → List D) (z : List D) : Nat → List D := fun q => if q < x then f q else z
section
variable {C : Cx} {A : M} {a : Act} {w : World} {S : Nat → Prop} {μ : Mu} {ν : Nat → Bool}
theorem run_clear_row {P : Program} {t e ty : TypeId} {j : TypeInfo} {z : Value} {i : TI} (F : TiFacts P e i j z) (hone : i.zero.all oneD = true) (hu : P.underlying t = some (.slice e)) {g off m c : Nat} {cur : Array Value} {e' : TypeId} (hm : 0 < m)
  (hg : w.heap[g]? = some (.cells cur e' (0, 0))) (hle : off + m * i.size ≤ cur.size) :
  (Builtin.clear_ #[t] ty #[.slice (some ⟨g, off, none⟩) m c]).run P w = .ok (.tuple #[]) (w.setRow g (cur.toList.take off ++ (Builtin.zeroCells z.cells m).toList ++ cur.toList.drop (off + m * i.size)).toArray) := by
 obtain ⟨q1, q2⟩ := zeroOK_rd (w := w) (S := fun _ => False) F.zok
 have hzl : z.cells.size = i.size := by have := q1; simp only [Array.length_toList] at this; rw [this, F.zlen]
 have hlen : (Builtin.zeroCells z.cells m).toList.length = m * i.size := by simp [Builtin.zeroCells, hzl]
 have hst := run_storeCells_at P g off e' (Builtin.zeroCells z.cells m).toList 0 cur w hg (by rw [hlen]; omega) (fun v hv => by
  simp only [Builtin.zeroCells, hzl] at hv
  obtain ⟨q, hq, rfl⟩ : ∃ q, q < m * i.size ∧ z.cells[q % i.size]! = v := by simpa using hv
  have hpos : 0 < i.size := by
   rcases Nat.eq_zero_or_pos i.size with h0 | h0
   ·rw [h0] at hq; simp at hq
   ·exact h0
  have hlt : q % i.size < i.size := Nat.mod_lt _ hpos
  have h2 := q2 (q % i.size) (by rw [F.zlen]; exact hlt)
  have hlt' : q % i.size < z.cells.size := by omega
  rw [getElem!_pos z.cells _ hlt']
  have e1 : z.cells.toList.getD (q % i.size) undef = z.cells[q % i.size] := by simp [List.getD, hlt']
  rw [e1] at h2
  simp only [List.all_eq_true] at hone
  exact oneD_rd (hone _ (by simp [List.getD, F.zlen, hlt])) h2)
 simp only [Nat.add_zero, hlen] at hst
 obtain ⟨m', rfl⟩ : ∃ m', m = m' + 1 := ⟨m - 1, by omega⟩
 simp only [Builtin.clear_, List.getElem?_toArray, List.getElem?_cons_zero, Sem.run_bind, run_underlying hu, Result.andThen_ok, zeroValue, typeInfo, run_program, F.info, Sem.run_pure, F.zero, hst]
theorem run_clear0 {P : Program} {t e ty : TypeId} (hu : P.underlying t = some (.slice e)) (ad : Option Addr) (c : Nat) : (Builtin.clear_ #[t] ty #[.slice ad 0 c]).run P w = .ok (.tuple #[]) w := by
 cases ad <;> simp [Builtin.clear_, run_underlying hu]
theorem wanted_none {o : Oper} (h : o.guard = none) (y) : Region.wanted o y = true := by simp [Region.wanted, h]
theorem Sim.put3 {st : St} (hsim : ∀ ν, Sim C st.toM a w S μ ν) {d1 d2 d3 : Nat} (v1 v2 v3 : Value) :
  ∀ ν, Sim C (St.toM ⟨delKeys [d1, d2, d3] st.sl, st.lb⟩) (((a.put (some d1) v1).put (some d2) v2).put (some d3) v3) w S μ ν := fun ν => by
 have h := hsim ν
 refine ⟨by simp [Act.put, h.tmps], h.defers, fun u => ?_, h.mem, h.inj, h.own, h.stable, h.fresh, h.bound, h.kept⟩
 simp only [St.toM, St.get, look_del]
 by_cases hn : u ∈ [d1, d2, d3]
 ·rw [if_pos hn]
  exact .any _
 ·rw [if_neg hn]
  simp only [List.mem_cons, List.not_mem_nil, or_false, not_or] at hn
  simp only [Act.put]
  rw [getD_set_other _ _ _ _ hn.2.2, getD_set_other _ _ _ _ hn.2.1, getD_set_other _ _ _ _ hn.1]
  have := h.slots u
  simp only [St.toM, St.get] at this
  exact this
end
theorem wp_step {P : Program} {ops : Array Oper} {Q : Exit → Act → World → Prop} {i : Nat} {rest : List Nat} {a : Act} {w w' : World} {o : Oper} {v : Value} (ho : ops[i]? = some o) (hg : o.guard = none) (hrun : (execOp a.eval o).run P w = .ok (.value v) w') (h : wpOps P ops Q rest (a.put o.dst v) w') : wpOps P ops Q (i :: rest) a w := by
 simp only [wpOps, ho, wanted_none hg, if_true]
 left
 unfold Oper.wp
 rw [hrun]
 exact h
section
variable {g : Goal}
theorem G.clr (hT : TOk g.P g.T) (hm : g.P.follows .mixedOrders = true) {K : List Item} {st : St} {id : Nat} {ops : Array Oper} {ts ti ty d1 d2 d3 κ e k n : Nat} {f : Nat → List D} {x : Int} {it i : TI} (hreg : regR g.md g.pr ops = true) (hops : isClr ops = some (ts, ti, ty, d1, d2, d3)) (hd1 : d1 < g.nt) (hd2 : d2 < g.nt) (hd3 : d3 < g.nt)
  (hs : St.get st.sl ts = .own κ n) (hi : St.get st.sl ti = .d (.v (.int .i64 x))) (hl : look st.lb κ = some (.row e k n f)) (ht : look g.T ty = some it) (hk : it.kind = .slice e) (he : look g.T e = some i) (hkk : k = i.size) (hone : i.zero.all oneD = true)
  (h0 : 0 ≤ x) (h1 : x ≤ n) (hg : G g K ⟨delKeys [d1, d2, d3] st.sl, (κ, .row e k n (clrF x.toNat f i.zero)) :: delKeys [κ] st.lb⟩) : G g (.code (.region id ops false) :: K) st := by
 intro C c1 c2 a w hkp hsb
 suffices hw : wpOps C.P ops (fun e' a' w' => e' = .normal ∧ SimB C ⟨delKeys [d1, d2, d3] st.sl, (κ, .row e k n (clrF x.toNat f i.zero)) :: delKeys [κ] st.lb⟩ a' w') (List.range ops.size) a w by
  rw [c1] at hw
  exact G.ops hm hreg hkp (.inl ⟨rfl, hw⟩) (fun a' w' hk' hs' => hg C c1 c2 a' w' hk' hs')
 obtain ⟨S, μ, hsim⟩ := hsb
 have hz := hsim fun _ => false
 rw [← c2] at hd1 hd2 hd3
 rw [← c1] at hT
 subst hkk
 unfold isClr at hops
 split at hops
 ·rename_i o1 o2 o3 o4 hol
  split at hops
  ·rename_i ts' d1' ti' d2' q1 q2 q3 q4 q5 q6
   split at hops
   ·rename_i tyq a' b' d3' xs tys r1 r2 r3 r4 r5 r6
    split at hops
    ·rename_i c' ty2 hx hty
     rw [Bool.cond_eq_ite] at hops
     split at hops
     ·rename_i hbb
      simp only [Bool.and_eq_true, Bool.not_eq_true'] at hbb
      obtain ⟨⟨⟨⟨⟨b1, b2⟩, b3⟩, b4⟩, b5⟩, b6⟩ := hbb
      have b1 := Nat.eq_of_beq_eq_true b1
      have b2 := Nat.eq_of_beq_eq_true b2
      have b3 := Nat.eq_of_beq_eq_true b3
      have b4 := Nat.eq_of_beq_eq_true b4
      subst b1; subst b2; subst b3; subst b4
      simp only [Option.some.injEq, Prod.mk.injEq] at hops
      obtain ⟨rfl, rfl, rfl, rfl, rfl, rfl⟩ := hops
      have n5 : a' ≠ b' := fun e => by rw [e, Nat.beq_refl] at b5; cases b5
      have n6 : ti' ≠ a' := fun e => by rw [e, Nat.beq_refl] at b6; cases b6
      have hops : ops = #[o1, o2, o3, o4] := by cases ops; simpa using hol
      have hxs : xs = #[.tmp c'] := by cases xs; simpa using hx
      have htys : tys = #[tyq] := by cases tys; simpa using hty
      subst hops; subst hxs; subst htys
      show wpOps C.P #[o1, o2, o3, o4] _ [0, 1, 2, 3] a w
      have hsz : ∀ (a : Act) (d : Option Nat) (x : Value), (a.put d x).tmps.size = a.tmps.size := fun a d x => by cases d <;> simp [Act.put]
      have putd : ∀ (a : Act) (d : Nat) (x : Value), a.tmps.size = C.nt → d < C.nt → (a.put (some d) x).eval (.tmp d) = x := fun a d x h1 h2 => by
       show (a.tmps.setIfInBounds d x).getD d undef = x
       exact getD_set_self _ _ _ (by rw [h1]; exact h2)
      have puto : ∀ (a : Act) (d u : Nat) (x : Value), u ≠ d → (a.put (some d) x).eval (.tmp u) = a.eval (.tmp u) := fun a d u x h => by
       show (a.tmps.setIfInBounds d x).getD u undef = a.tmps.getD u undef
       exact getD_set_other _ _ _ _ h
      have tsz := hz.tmps
      have hsv := hz.slots ts'
      simp only [St.toM, hs] at hsv
      have hsv : Rel w S μ (fun _ => false) (.own κ n) (a.eval (.tmp ts')) := hsv
      have hiv := hz.slots ti'
      simp only [St.toM, hi] at hiv
      have hiv : a.eval (.tmp ti') = .int .i64 x := rel_int hiv
      obtain ⟨tj, z, F⟩ := tiOK_facts (hT _ _ ht)
      have hkk := F.kind
      rw [hk] at hkk
      have hu := kind_slice hkk
      obtain ⟨ej, ez, E⟩ := tiOK_facts (hT _ _ he)
      refine wp_step (o := o1) rfl q3 (v := a.eval (.tmp ts')) (w' := w) (by simp [execOp, q1]) ?_
      rw [q2]
      refine wp_step (o := o2) rfl q6 (v := .int .i64 x) (w' := w) (by simp [execOp, q4, puto _ _ _ _ n6, hiv]) ?_
      rw [q5]
      have ea : ((a.put (some a') (a.eval (.tmp ts'))).put (some b') (.int .i64 x)).eval (.tmp a') = a.eval (.tmp ts') := by rw [puto _ _ _ _ n5, putd _ _ _ tsz hd1]
      have eb : ((a.put (some a') (a.eval (.tmp ts'))).put (some b') (.int .i64 x)).eval (.tmp b') = .int .i64 x := putd _ _ _ (by rw [hsz]; exact tsz) hd2
      have hmem := hz.mem κ _ hl
      have hst : (St.toM ⟨st.sl, (κ, .row e i.size n (clrF x.toNat f i.zero)) :: delKeys [κ] st.lb⟩) = st.toM.set κ (some (.row e i.size n (clrF x.toNat f i.zero))) := by
       unfold St.toM M.set
       congr 1
       funext q
       rw [look_cons, look_del]
       by_cases hq : κ = q
       ·subst hq; simp
       ·have : q ∉ [κ] := by simp; exact fun e => hq e.symm
        have hq' : ¬ q = κ := fun e => hq e.symm
        simp [hq, hq']
      have fin : ∀ (v3 : Value) (w' : World), (∀ ν, Sim C (st.toM.set κ (some (.row e i.size n (clrF x.toNat f i.zero)))) a w' S μ ν) → SimB C ⟨delKeys [a', b', c'] st.sl, (κ, .row e i.size n (clrF x.toNat f i.zero)) :: delKeys [κ] st.lb⟩ (((a.put (some a') (a.eval (.tmp ts'))).put (some b') (.int .i64 x)).put (some c') v3) w' := fun v3 w' h =>
       ⟨S, μ, Sim.put3 (st := ⟨st.sl, (κ, .row e i.size n (clrF x.toNat f i.zero)) :: delKeys [κ] st.lb⟩) (fun ν => by rw [hst]; exact h ν) _ _ v3⟩
      have same : x.toNat = n → ∀ ν, Sim C (st.toM.set κ (some (.row e i.size n (clrF x.toNat f i.zero)))) a w S μ ν := fun hxn ν => by
       refine (hsim ν).weaken (fun t v hv => hv) (fun κ' b' hb' => ?_)
       simp only [M.set] at hb'
       by_cases hq : κ' = κ
       ·simp only [hq, if_true, Option.some.injEq] at hb'
        subst hb'
        refine ⟨.row e i.size n f, by rw [hq]; exact hl, fun y hy => ?_⟩
        cases y with
        | none => exact hy
        | some y =>
         cases y with
         | none => exact hy
         | some gc =>
          obtain ⟨gg, cap⟩ := gc
          obtain ⟨cur, y1, y2, y3, y4, y5, y6⟩ := hy.at
          refine BlkAt.ok (b := .row e i.size n _) ⟨cur, y1, y2, y3, y4, y5, fun q hq' => ?_⟩
          have : clrF x.toNat f i.zero q = f q := by simp only [clrF]; rw [if_pos (by omega)]
          rw [this]
          exact y6 q hq'
       ·simp only [hq, if_false] at hb'
        exact ⟨b', hb', fun _ hy => hy⟩
      have hszr : ∀ w, (sizeOf e).run C.P w = .ok i.size w := fun w => by simp [sizeOf, typeInfo, E.info, E.size]
      have hsl : ∀ (ad : Option Addr) (m cap : Nat), x ≤ m → m ≤ cap → (Instr.sliceAt tyq (.slice ad m cap) (some (.int .i64 x)) none none).run C.P w = .ok (.slice (if cap = x.toNat then ad else ad.map (·.add (x.toNat * i.size))) (m - x.toNat) (cap - x.toNat)) w := fun ad m cap hx1 hx2 => by
       have q1 : ∀ (k : IntKind) (i : Int) (y : Nat) (c : BoundsCode), 0 ≤ i → i ≤ y → (Instr.sliceBound (.int k i) y c).run C.P w = .ok i.toNat w := fun k i y c h0 h1 => run_sliceBound w k i y c h0 h1
       simp (disch := omega) [Instr.sliceAt, run_underlying hu, Instr.slice, Instr.sliceBounds, q1, hszr]
      have o3run : ∀ v, (Instr.sliceAt tyq (a.eval (.tmp ts')) (some (.int .i64 x)) none none).run C.P w = .ok v w → (execOp ((a.put (some a') (a.eval (.tmp ts'))).put (some b') (.int .i64 x)).eval o3).run C.P w = .ok (.value v) w := fun v hv => by
       simp only [execOp, r1, ea, eb, Option.map_some, Option.map_none, Sem.run_bind, hv, Result.andThen_ok, Sem.run_pure]
      have ec : ∀ v3, (((a.put (some a') (a.eval (.tmp ts'))).put (some b') (.int .i64 x)).put (some c') v3).eval (.tmp c') = v3 := fun v3 => putd _ _ _ (by rw [hsz, hsz]; exact tsz) hd3
      have o4run : ∀ v3 w', (Builtin.clear_ #[tyq] o4.type #[v3]).run C.P w = .ok (.tuple #[]) w' → (execOp (((a.put (some a') (a.eval (.tmp ts'))).put (some b') (.int .i64 x)).put (some c') v3).eval o4).run C.P w = .ok (.value (.tuple #[])) w' := fun v3 w' hv => by
       simp [execOp, r4, resolve, invoke, ec, builtin, hv]
      have done : ∀ v3 w', (Instr.sliceAt tyq (a.eval (.tmp ts')) (some (.int .i64 x)) none none).run C.P w = .ok v3 w → (Builtin.clear_ #[tyq] o4.type #[v3]).run C.P w = .ok (.tuple #[]) w' → (∀ ν, Sim C (st.toM.set κ (some (.row e i.size n (clrF x.toNat f i.zero)))) a w' S μ ν) →
        wpOps C.P #[o1, o2, o3, o4] (fun e' aa w' => e' = .normal ∧ SimB C ⟨delKeys [a', b', c'] st.sl, (κ, .row e i.size n (clrF x.toNat f i.zero)) :: delKeys [κ] st.lb⟩ aa w') [2, 3] ((a.put (some a') (a.eval (.tmp ts'))).put (some b') (.int .i64 x)) w := fun v3 w' x1 x2 x3 => by
       refine wp_step (o := o3) rfl r3 (o3run v3 x1) ?_
       rw [r2]
       refine wp_step (o := o4) rfl r6 (o4run v3 w' x2) ?_
       rw [r5]
       exact ⟨rfl, fin v3 w' x3⟩
      generalize hsvv : a.eval (.tmp ts') = sv at hsv done
      cases hsv with
      | @ownNil _ ad hμ =>
       refine done _ w (hsl ad 0 0 (by omega) (Nat.le_refl _)) ?_ (same (by omega))
       have : 0 - x.toNat = 0 := by omega
       rw [this]
       exact run_clear0 hu _ _
      | @own _ _ gg cap hμ =>
       rw [hμ] at hmem
       obtain ⟨cur, hgc, hns, hcs, hnc, hcm, hrow⟩ := hmem.at
       rcases Nat.lt_or_ge x.toNat n with hlt | hge
       ·have e3 : (if cap = x.toNat then some (⟨gg, 0, none⟩ : Addr) else (some (⟨gg, 0, none⟩ : Addr)).map (·.add (x.toNat * i.size))) = some ⟨gg, x.toNat * i.size, none⟩ := by
         rw [if_neg (by omega)]
         simp [addr_add]
        have hmul : x.toNat * i.size + (n - x.toNat) * i.size = n * i.size := by rw [← Nat.add_mul]; congr 1; omega
        have hle : x.toNat * i.size + (n - x.toNat) * i.size ≤ cur.size := by rw [hmul, hcs]; exact Nat.mul_le_mul_right _ hnc
        have hzsz : ez.cells.size = i.size := by have := (zeroOK_rd (w := w) (S := S) E.zok).1; simp only [Array.length_toList] at this; rw [this, E.zlen]
        have hzlen : (Builtin.zeroCells ez.cells (n - x.toNat)).toList.length = (n - x.toNat) * i.size := by simp [Builtin.zeroCells, hzsz]
        have hrun := run_clear_row (P := C.P) (t := tyq) (ty := o4.type) (c := cap - x.toNat) E hone hu (by omega : 0 < n - x.toNat) hgc hle
        refine done _ _ ((hsl _ n cap h1 hnc).trans (by rw [e3])) hrun (fun ν => (hsim ν).write hl hμ (b' := .row e i.size n _) ⟨_, setRow_heap w gg cur _ e _ hgc, hns, ?_, hnc, hcm, fun q hq => ⟨?_, fun j hj => ?_⟩⟩)
        ·simp only [List.size_toArray, List.length_append, List.length_take, List.length_drop, Array.length_toList, hzlen]
         have : n * i.size ≤ cap * i.size := Nat.mul_le_mul_right _ hnc
         omega
        ·simp only [clrF]
         split
         ·exact (hrow q hq).1
         ·exact E.zlen
        ·have hqj : q * i.size + j < n * i.size := by
          calc q * i.size + j < q * i.size + i.size := by omega
           _ = (q + 1) * i.size := by rw [Nat.add_mul, Nat.one_mul]
           _ ≤ n * i.size := Nat.mul_le_mul_right _ hq
         rw [List.getElem?_toArray]
         by_cases hqx : q < x.toNat
         ·have hqx' : q * i.size + j < x.toNat * i.size := by
           calc q * i.size + j < q * i.size + i.size := by omega
            _ = (q + 1) * i.size := by rw [Nat.add_mul, Nat.one_mul]
            _ ≤ x.toNat * i.size := Nat.mul_le_mul_right _ hqx
          obtain ⟨u, hu1, hu2⟩ := (hrow q hq).2 j hj
          refine ⟨u, ?_, ?_⟩
          ·rw [List.append_assoc, List.getElem?_append_left (by simp; omega), List.getElem?_take, if_pos hqx']
           simpa using hu1
          ·have : clrF x.toNat f i.zero q = f q := by simp only [clrF]; rw [if_pos hqx]
           rw [this]
           exact hu2.mono (fun _ x => x) (fun b hb => setRow_other w gg b _ (fun e => hns (e ▸ hb)))
         ·have hxq : x.toNat * i.size ≤ q * i.size := Nat.mul_le_mul_right _ (by omega)
          have hin : q * i.size + j - x.toNat * i.size < (n - x.toNat) * i.size := by omega
          have hmod : (q * i.size + j - x.toNat * i.size) % ez.cells.size = j := by
           rw [hzsz, show q * i.size + j - x.toNat * i.size = i.size * (q - x.toNat) + j from by rw [Nat.mul_sub, Nat.mul_comm i.size q, Nat.mul_comm i.size x.toNat]; omega, Nat.mul_add_mod, Nat.mod_eq_of_lt hj]
          have hj' : j < ez.cells.size := by omega
          obtain ⟨_, z2⟩ := zeroOK_rd (w := w.setRow gg (cur.toList.take (x.toNat * i.size) ++ (Builtin.zeroCells ez.cells (n - x.toNat)).toList ++ cur.toList.drop (x.toNat * i.size + (n - x.toNat) * i.size)).toArray) (S := S) E.zok
          refine ⟨ez.cells[j], ?_, ?_⟩
          ·rw [List.append_assoc, List.getElem?_append_right (by simp; omega), List.getElem?_append_left (by rw [hzlen]; simp; omega)]
           have : (List.take (x.toNat * i.size) cur.toList).length = x.toNat * i.size := by simp; omega
           rw [this]
           simp only [Builtin.zeroCells, Array.getElem?_toList, Array.getElem?_map, Array.getElem?_range, hzsz, hin, if_true, Option.map_some]
           rw [← hzsz] at hmod ⊢
           rw [hmod, getElem!_pos ez.cells j hj']
          ·have : clrF x.toNat f i.zero q = i.zero := by simp only [clrF]; rw [if_neg hqx]
           rw [this]
           have := z2 j (by rw [E.zlen]; exact hj)
           rwa [show ez.cells.toList.getD j undef = ez.cells[j] from by simp [List.getD, hj']] at this
       ·refine done _ w (hsl _ n cap h1 hnc) ?_ (same (by omega))
        have : n - x.toNat = 0 := by omega
        rw [this]
        exact run_clear0 hu _ _
     ·cases hops
    ·cases hops
   ·cases hops
  ·cases hops
 ·cases hops
end
end Go.Av
