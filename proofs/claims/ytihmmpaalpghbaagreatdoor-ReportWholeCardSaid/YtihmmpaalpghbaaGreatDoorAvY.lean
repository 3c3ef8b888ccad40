/- From a contract to the given statement's form. -/
import Derived.Test.YtihmmpaalpghbaaGreatDoorAvX
set_option linter.unusedSimpArgs false
set_option linter.unusedVariables false
namespace Go.Av
open Go Go.ChangeShapes Go.WideShapes Go.ChangeAt Go.RowKit
set_option linter.unusedSectionVars false
variable [Globs]
def DsLe (l l' : List D) : Prop := l.length = l'.length ∧ ∀ j, j < l.length → DLe (l.getD j default) (l'.getD j default)
theorem DsLe.refl (l : List D) : DsLe l l := ⟨rfl, fun _ _ => DLe.rfl'⟩
theorem DsLe.nil : DsLe [] [] := .refl _
theorem DsLe.one {d d' : D} (h : DLe d d') : DsLe [d] [d'] := ⟨rfl, fun j hj => by
 have : j = 0 := by simpa using hj
 subst this
 simpa using h⟩
theorem DsLe.append {p p' r r' : List D} (h1 : DsLe p p') (h2 : DsLe r r') : DsLe (p ++ r) (p' ++ r') := by
 refine ⟨by simp [h1.1, h2.1], fun j hj => ?_⟩
 by_cases h : j < p.length
 ·have h' : j < p'.length := by rw [← h1.1]; exact h
  simpa [List.getD, List.getElem?_append_left h, List.getElem?_append_left h'] using h1.2 j h
 ·have hh : p.length ≤ j := Nat.le_of_not_lt h
  have h' : p'.length ≤ j := by rw [← h1.1]; exact hh
  have := h2.2 (j - p.length) (by simp at hj; omega)
  rw [List.getD, List.getD, List.getElem?_append_right hh, List.getElem?_append_right h', ← h1.1]
  exact this
theorem DsLe.cons {d d' : D} {r r' : List D} (h1 : DLe d d') (h2 : DsLe r r') : DsLe ([d] ++ r) (d' :: r') := DsLe.append (DsLe.one h1) h2
theorem DsLe.agg {l l' : List D} (h : DsLe l l') : DLe (.agg l) (.agg l') := DLe.agg h.1 h.2
theorem DLe.slAll {n : Nat} {f g : Nat → List D} (h : ∀ i, i < n → DsLe (f i) (g i)) : DLe (.sl n f) (.sl n g) := by
 intro w S x hr
 cases hr with
 | nil => exact .nil g
 | sl _ _ a cap k vals hc hm hs hk hcell hh =>
  exact .sl n g a cap k vals hc hm hs (fun i hi => by rw [← (h i hi).1]; exact hk i hi) hcell (fun i j hi hj => (h i hi).2 j (by rw [hk i hi]; exact hj) w S _ (hh i j hi hj))
theorem sl_list {T : List (Nat × TI)} {α : Type} [Inhabited α] (cells : α → List D) (ok : α → Prop) {e : Nat} (hof : ∀ ds, HasT T e ds → ∃ c, DsLe ds (cells c) ∧ ok c) {n : Nat} {f : Nat → List D} (h : ∀ j, j < n → HasT T e (f j)) :
  ∃ l : List α, DLe (.sl n f) (slD cells l) ∧ l.length = n ∧ ∀ x, x ∈ l → ok x := by
 classical
 let g : Nat → α := fun j => if hj : j < n then (hof _ (h j hj)).choose else default
 have hg : ∀ j, j < n → DsLe (f j) (cells (g j)) ∧ ok (g j) := fun j hj => by
  simp only [g, hj, dif_pos]
  exact (hof _ (h j hj)).choose_spec
 refine ⟨(List.range n).map g, ?_, by simp, fun x hx => ?_⟩
 ·have e : slD cells ((List.range n).map g) = .sl n fun i => cells (((List.range n).map g).getD i default) := by simp [slD]
  rw [e]
  refine DLe.slAll fun i hi => ?_
  have : ((List.range n).map g).getD i default = g i := by simp [List.getD, hi]
  rw [this]
  exact (hg i hi).1
 ·simp only [List.mem_map, List.mem_range] at hx
  obtain ⟨j, hj, rfl⟩ := hx
  exact (hg j hj).2
def in64 (n : Int) : Prop := -9223372036854775808 ≤ n ∧ n ≤ 9223372036854775807
theorem in64_of {n : Int} (h : (Lit.int .i64 n).wf = true) : in64 n := by
 simpa [Lit.wf, IntKind.min, IntKind.max, in64, IntKind.bits, IntKind.signed] using h
def argAV (T : List (Nat × TI)) (t : Nat) (ds : List D) : AV :=
 match look T t with
 | some i => (match i.kind with | .struct _ => .d (.agg ds) | _ => .d (ds.getD 0 default))
 | none => .any
def argAVs (T : List (Nat × TI)) : List Nat → List (List D) → List AV
 | t :: ts, d :: ds => argAV T t d :: argAVs T ts ds
 | _, _ => []
def HasAll (T : List (Nat × TI)) : List Nat → List (List D) → Prop
 | [], [] => True
 | t :: ts, d :: ds => HasT T t d ∧ HasAll T ts ds
 | _, _ => False
section
variable {H : Type} {enc : TypeId × Value → H} {P : Program} {W : World} {T : List (Nat × TI)}
theorem arg_rel (hT : TOk P T) {cl : List Nat} (hcl : closedTs T cl = true) {t : Nat} (hm : t ∈ cl) {v : Value} {d : DataW H} {ps : List MemPlace} {base : Nat} (hv : Value.okWide P W .any base t v) (h : DataW.Trod enc P W 0 (fun _ => true) true t v d ps) :
  ∃ ds, HasT T t ds ∧ ∀ μ ν, Rel W (fun b => b < W.heap.size) μ ν (argAV T t ds) v := by
 obtain ⟨fuel, h⟩ := h
 obtain ⟨ds, h1, h2⟩ := trod_has hT hcl _ t _ _ hm h
 have hp := List.all_eq_true.1 hcl t hm
 refine ⟨ds, h1, fun μ ν => ?_⟩
 ·simp only [plain1] at hp
  split at hp
  ·rename_i i hi
   obtain ⟨tj, z, F⟩ := tiOK_facts (hT _ _ hi)
   have hk := F.kind
   have one : ∀ v', v = v' → v'.cells = #[v'] → Rd W (fun b => b < W.heap.size) (ds.getD 0 default) v := by
    rintro v' rfl hc
    rw [hc] at h2
    have := h2.2 0 (by rw [h2.1]; simp)
    simpa using this
   simp only [argAV, hi]
   split at hp
   ·rename_i k hkind
    rw [hkind] at hk ⊢
    simp only [kindOK] at hk
    split at hk
    ·rename_i hu
     have := of_decide_eq_true hk
     subst this
     obtain ⟨n, rfl⟩ := okWide_int hu hv
     exact .d (one _ rfl rfl)
    ·cases hk
   ·rename_i hkind
    rw [hkind] at hk ⊢
    simp only [kindOK] at hk
    split at hk
    ·rename_i hu
     obtain ⟨n, rfl⟩ := okWide_bool hu hv
     exact .d (one _ rfl rfl)
    ·cases hk
   ·rename_i hkind
    rw [hkind] at hk ⊢
    simp only [kindOK] at hk
    split at hk
    ·rename_i hu
     obtain ⟨n, rfl⟩ := okWide_string hu hv
     exact .d (one _ rfl rfl)
    ·cases hk
   ·rename_i e hkind
    rw [hkind] at hk ⊢
    simp only [kindOK] at hk
    split at hk
    ·rename_i hu
     obtain ⟨a, n, c, rfl⟩ := okWide_slice hu hv
     exact .d (one _ rfl rfl)
    ·cases hk
   ·rename_i fs hkind
    rw [hkind] at hk ⊢
    simp only [kindOK] at hk
    split at hk
    ·rename_i gs hu
     obtain ⟨cs, rfl, _⟩ := okWide_struct hu hv
     refine .d (.agg ds cs ?_ (fun j hj => ?_))
     ·have := h2.1
      simp only [Value.cells, Array.length_toList] at this
      exact this.symm
     ·have := h2.2 j hj
      simp only [Value.cells] at this
      simpa [List.getD, Array.getD_eq_getD_getElem?] using this
    ·cases hk
   ·cases hp
  ·cases hp
theorem args_rel (hT : TOk P T) {cl : List Nat} (hcl : closedTs T cl = true) {base : Nat} : ∀ {ts : List Nat} {vs : List Value} {ds : List (DataW H)} {ps : List MemPlace}, (ts.all fun t => cl.any fun q => Nat.beq q t) = true → (∀ (j : Nat) t v, ts[j]? = some t → vs[j]? = some v → Value.okWide P W .any base t v) →
  DataW.TrodAll enc P W 0 (fun _ => true) true ts vs ds ps → ∃ dss, HasAll T ts dss ∧ ∀ μ ν, RelL W (fun b => b < W.heap.size) μ ν (argAVs T ts dss) vs
 | [], [], [], _, _, _, _ => ⟨[], trivial, fun _ _ => ⟨rfl, fun i hi => absurd hi (by simp [argAVs])⟩⟩
 | t :: ts, v :: vs, d :: ds, ps, hp, hv, h => by
  obtain ⟨p, q, h1, h2, rfl⟩ := h
  simp only [List.all_cons, Bool.and_eq_true] at hp
  obtain ⟨d1, x1, x2⟩ := arg_rel hT hcl (any_mem hp.1) (hv 0 t v rfl rfl) h1
  obtain ⟨dss, y1, y2⟩ := args_rel hT hcl hp.2 (fun j t v a b => hv (j + 1) t v (by simpa using a) (by simpa using b)) h2
  refine ⟨d1 :: dss, ⟨x1, y1⟩, fun μ ν => ?_⟩
  have := y2 μ ν
  refine ⟨by simp [argAVs, this.1], fun i hi => ?_⟩
  cases i with
  | zero => simpa [argAVs] using x2 μ ν
  | succ i => simpa [argAVs] using this.2 i (by simpa [argAVs] using hi)
 | [], _ :: _, _, _, _, _, h => h.elim
 | [], [], _ :: _, _, _, _, h => h.elim
 | _ :: _, [], _, _, _, _, h => h.elim
 | _ :: _, _ :: _, [], _, _, _, h => h.elim
theorem trodAll_stays (hl : laidOutB P = true) {W' : World} (hb : Below W.heap.size W W') : ∀ {ts : List Nat} {vs : List Value} {ds : List (DataW H)} {ps : List MemPlace}, ts.all (fun t => P.readableRec t && Nat.ble (t + 1) P.types.size) = true →
  (∀ p ∈ ps, p.block < W.heap.size) → DataW.TrodAll enc P W 0 (fun _ => true) true ts vs ds ps → DataW.TrodAll enc P W' 0 (fun b => decide (b < W.heap.size)) true ts vs ds ps
 | [], [], [], _, _, _, h => h
 | t :: ts, v :: vs, d :: ds, ps, hp, hlt, h => by
  obtain ⟨p, q, h1, h2, rfl⟩ := h
  simp only [List.all_cons, Bool.and_eq_true] at hp
  exact ⟨p, q, Below.trod hl hp.1.1 (Nat.le_of_ble_eq_true hp.1.2) h1 hb (fun x hx => hlt x (List.mem_append_left _ hx)), trodAll_stays hl hb hp.2 (fun x hx => hlt x (List.mem_append_right _ hx)) h2, rfl⟩
 | [], _ :: _, _, _, _, _, h => h.elim
 | [], [], _ :: _, _, _, _, h => h.elim
 | _ :: _, [], _, _, _, _, h => h.elim
 | _ :: _, _ :: _, [], _, _, _, h => h.elim
theorem law_calls (hT : TOk P T) (hl : laidOutB P = true) {f : FuncId} {fn : Func} {s : ChangeSpec} {tb base : Nat} {cl : List Nat} {args : Array Value} {ds gs : List (DataW H)} {before : List MemPlace}
  (hcl : closedTs T cl = true) (hplain : (fn.params.toList.all fun t => cl.any fun q => Nat.beq q t) = true) (hread : fn.params.toList.all (fun t => P.readableRec t && Nat.ble (t + 1) P.types.size) = true) (hres : fn.resultTypes = #[tb]) (hb : P.underlying tb = some .bool) (hvars : s.vars = [])
  (hval : ∀ (j : Nat) t v, fn.params[j]? = some t → args[j]? = some v → Value.okWide P W .any base t v)
  (hW : DataW.Whole enc P fn.params.toList s.vars false W args.toList ds gs before)
  (hgl : GlobOK W fun b => b < W.heap.size) (hs : (s.fn H (ds ++ gs)).results = [.lit (.bool true)] ∧ (s.fn H (ds ++ gs)).args = ds ∧ (s.fn H (ds ++ gs)).vars = [])
  (hlaw : ∀ dss, HasAll T fn.params.toList dss → FnA P f (argAVs T fn.params.toList dss) [] (.d (.v (.bool true))) []) :
  Calls P f args W fun e W' => ∃ v, e = .returned v ∧ s.post enc P fn false true false false W args v W' := by
 have hlt := hW.lt
 obtain ⟨p, q, hA, hV, hpq, hz, hn⟩ := id hW
 rw [hvars] at hV
 have hg : gs = [] ∧ q = [] := by
  cases gs with
  | nil => exact ⟨rfl, hV⟩
  | cons _ _ => exact hV.elim
 obtain ⟨dss, h1, h2⟩ := args_rel hT hcl (base := base) hplain (fun j t v a b => hval j t v (by simpa using a) (by simpa using b)) hA
 have hf := hlaw dss h1
 refine Calls.mono (hf.2 W (fun b => b < W.heap.size) (fun _ => none) args (fun _ h => h) hgl (fun ν => h2 _ ν) (fun κ b hb => by simp [look] at hb) (fun κ κ' b b' g c c' hb => by simp [look] at hb)) ?_
 rintro e W' ⟨v, S', μ', rfl, B⟩
 have hv : v = .bool true := rel_bool (B.res fun _ => false)
 subst hv
 have hbel : Below W.heap.size W W' := ⟨B.kept.os, B.kept.tape, B.kept.output, B.kept.size, fun k hk => B.kept.block k hk (fun ⟨κ, b, c, q, _⟩ => by simp [look] at q)⟩
 refine ⟨_, rfl, ds, gs, before, [], p, [], hW, ?_, ?_, ?_, hbel.frame _, fun h => by cases h⟩
 ·rw [hres, hs.1]
  exact trodAll_mk1 (shut_bool hb true)
 ·rw [hs.2.1]
  exact trodAll_stays hl hbel hread (fun x hx => hlt x (by rw [hpq]; exact List.mem_append_left _ hx)) hA
 ·rw [hs.2.2, hvars]
  exact rfl
end
end Go.Av
